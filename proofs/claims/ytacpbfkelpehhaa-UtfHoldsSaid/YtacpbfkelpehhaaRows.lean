/-
  No cell of these rows narrows 'for every input' (looked for: loops, veiled, ifaces, maps, wideKeys, modest, calm, conditions, laid).
  DERIVED. THE GIVEN ROWS OF THIS SEAT. 6 by the template 'for every input the law returns true; each argument reads behind the call as it read before'; 0 by the template 'total and deterministic' (their statements: YtacpbfkelpehhaaTotals.lean).
  GIVEN WITH THE SEED: the statements are not yours to turn. If you find one false, say at which input.
  Laid BY PROGRAM, IN A SANDBOX (cutbox-rows.mjs): the forced cells as the released guide's own fill.sh prints them over the translation 5f33754207f042a3… (all of the seat's roots in one cut). By AI agents, Wed Nov 11 2026. No macro, syntax, notation, axiom, sorry.
-/
import Derived.Test.YtacpbfkelpehhaaChecked
import GoSem.Claim
import GoSem.ClaimJoined
import GoSem.ClaimMapViews
import Derived.JoinedTies
import Derived.KernelRfl
namespace Go.Proofs.Ytacpbfkelpehhaa
/- THE CELL 'sum', in the pinned program and in every row, IS THE sha256 OF THE DUMP (.gsa) THAT YtacpbfkelpehhaaProg.lean LOADS. Nothing in Lean hashes anything: it is a label: what it is worth is what the hold of that sum in a sandbox is worth. -/
noncomputable def Try.pinned : Pinned := { name := "ytacpbfkelpehhaa", sum := "5f33754207f042a3e10bc73dc1babc2f26f005a7edb4289aaad086fd4ee0ac82", checked := Try.checked }
namespace Rows
def none {H : Type} : Left H := { results := [], args := [] }

/-- 'scrollbacklaw01.UtfDecodes': WHATEVER THE INPUT: true; the input reads as it did. -/
def utfDecodesSpec : ChangeSpec := { name := "utfDecodes", fn := fun _ => fun
  | [d] => { results := [.lit (.bool true)], args := [d] }
  | _ => none }
def utfDecodesRow : OpenClaim := { program := "ytacpbfkelpehhaa", sum := "5f33754207f042a3e10bc73dc1babc2f26f005a7edb4289aaad086fd4ee0ac82", func := "scrollback/scrollbacklaw01.UtfDecodes", spec := "utfDecodes", recurses := true, apart := false }
def UtfDecodesSaid : Prop := utfDecodesRow.holds Try.pinned (OpenSpec.ofChange utfDecodesSpec)

/-- ITS FALSE NEIGHBOUR: 'it returns false'. Refute it at one input. -/
def utfDecodesWrong : ChangeSpec := { name := "utfDecodes", fn := fun _ => fun
  | [d] => { results := [.lit (.bool false)], args := [d] }
  | _ => none }
def UtfDecodesWrongFalsely : Prop := utfDecodesRow.holds Try.pinned (OpenSpec.ofChange utfDecodesWrong)

/-- 'scrollbacklaw01.UtfFours': WHATEVER THE INPUT: true; the input reads as it did. -/
def utfFoursSpec : ChangeSpec := { name := "utfFours", fn := fun _ => fun
  | [d1, d2, d3, d4] => { results := [.lit (.bool true)], args := [d1, d2, d3, d4] }
  | _ => none }
def utfFoursRow : OpenClaim := { program := "ytacpbfkelpehhaa", sum := "5f33754207f042a3e10bc73dc1babc2f26f005a7edb4289aaad086fd4ee0ac82", func := "scrollback/scrollbacklaw01.UtfFours", spec := "utfFours", recurses := true, apart := false }
def UtfFoursSaid : Prop := utfFoursRow.holds Try.pinned (OpenSpec.ofChange utfFoursSpec)

/-- ITS FALSE NEIGHBOUR: 'it returns false'. Refute it at one input. -/
def utfFoursWrong : ChangeSpec := { name := "utfFours", fn := fun _ => fun
  | [d1, d2, d3, d4] => { results := [.lit (.bool false)], args := [d1, d2, d3, d4] }
  | _ => none }
def UtfFoursWrongFalsely : Prop := utfFoursRow.holds Try.pinned (OpenSpec.ofChange utfFoursWrong)

/-- 'scrollbacklaw01.UtfEncodes': WHATEVER THE INPUT: true; the input reads as it did. -/
def utfEncodesSpec : ChangeSpec := { name := "utfEncodes", fn := fun _ => fun
  | [d] => { results := [.lit (.bool true)], args := [d] }
  | _ => none }
def utfEncodesRow : OpenClaim := { program := "ytacpbfkelpehhaa", sum := "5f33754207f042a3e10bc73dc1babc2f26f005a7edb4289aaad086fd4ee0ac82", func := "scrollback/scrollbacklaw01.UtfEncodes", spec := "utfEncodes", recurses := true, apart := false }
def UtfEncodesSaid : Prop := utfEncodesRow.holds Try.pinned (OpenSpec.ofChange utfEncodesSpec)

/-- ITS FALSE NEIGHBOUR: 'it returns false'. Refute it at one input. -/
def utfEncodesWrong : ChangeSpec := { name := "utfEncodes", fn := fun _ => fun
  | [d] => { results := [.lit (.bool false)], args := [d] }
  | _ => none }
def UtfEncodesWrongFalsely : Prop := utfEncodesRow.holds Try.pinned (OpenSpec.ofChange utfEncodesWrong)

/-- 'scrollbacklaw01.UtfHolds': WHATEVER THE INPUT: true; the input reads as it did. -/
def utfHoldsSpec : ChangeSpec := { name := "utfHolds", fn := fun _ => fun
  | [d1, d2, d3] => { results := [.lit (.bool true)], args := [d1, d2, d3] }
  | _ => none }
def utfHoldsRow : OpenClaim := { program := "ytacpbfkelpehhaa", sum := "5f33754207f042a3e10bc73dc1babc2f26f005a7edb4289aaad086fd4ee0ac82", func := "scrollback/scrollbacklaw01.UtfHolds", spec := "utfHolds", apart := false }
def UtfHoldsSaid : Prop := utfHoldsRow.holds Try.pinned (OpenSpec.ofChange utfHoldsSpec)

/-- ITS FALSE NEIGHBOUR: 'it returns false'. Refute it at one input. -/
def utfHoldsWrong : ChangeSpec := { name := "utfHolds", fn := fun _ => fun
  | [d1, d2, d3] => { results := [.lit (.bool false)], args := [d1, d2, d3] }
  | _ => none }
def UtfHoldsWrongFalsely : Prop := utfHoldsRow.holds Try.pinned (OpenSpec.ofChange utfHoldsWrong)

/-- 'scrollbacklaw01.UtfSteps': WHATEVER THE INPUT: true; the input reads as it did. -/
def utfStepsSpec : ChangeSpec := { name := "utfSteps", fn := fun _ => fun
  | [d1, d2] => { results := [.lit (.bool true)], args := [d1, d2] }
  | _ => none }
def utfStepsRow : OpenClaim := { program := "ytacpbfkelpehhaa", sum := "5f33754207f042a3e10bc73dc1babc2f26f005a7edb4289aaad086fd4ee0ac82", func := "scrollback/scrollbacklaw01.UtfSteps", spec := "utfSteps", recurses := true, apart := false }
def UtfStepsSaid : Prop := utfStepsRow.holds Try.pinned (OpenSpec.ofChange utfStepsSpec)

/-- ITS FALSE NEIGHBOUR: 'it returns false'. Refute it at one input. -/
def utfStepsWrong : ChangeSpec := { name := "utfSteps", fn := fun _ => fun
  | [d1, d2] => { results := [.lit (.bool false)], args := [d1, d2] }
  | _ => none }
def UtfStepsWrongFalsely : Prop := utfStepsRow.holds Try.pinned (OpenSpec.ofChange utfStepsWrong)

/-- 'scrollbacklaw01.UtfNil': WHATEVER THE INPUT: true; the input reads as it did. -/
def utfNilSpec : ChangeSpec := { name := "utfNil", fn := fun _ => fun
  | [d] => { results := [.lit (.bool true)], args := [d] }
  | _ => none }
def utfNilRow : OpenClaim := { program := "ytacpbfkelpehhaa", sum := "5f33754207f042a3e10bc73dc1babc2f26f005a7edb4289aaad086fd4ee0ac82", func := "scrollback/scrollbacklaw01.UtfNil", spec := "utfNil", apart := false }
def UtfNilSaid : Prop := utfNilRow.holds Try.pinned (OpenSpec.ofChange utfNilSpec)

/-- ITS FALSE NEIGHBOUR: 'it returns false'. Refute it at one input. -/
def utfNilWrong : ChangeSpec := { name := "utfNil", fn := fun _ => fun
  | [d] => { results := [.lit (.bool false)], args := [d] }
  | _ => none }
def UtfNilWrongFalsely : Prop := utfNilRow.holds Try.pinned (OpenSpec.ofChange utfNilWrong)

/- THE SECOND FORM. 'bulk': how many values and letters a reading holds, each counted each time it is reached (what is shared counts as often as it is met; a slice's spare places count too). A statement '..UptoSaid' is the law's where the arguments, and the package variables that the reading takes, are together of bulk at most 1048576: NARROWER than '..Said'. Prove '..Said' where nothing that the law and all that it calls make is longer than what came in: it says more and counts as full. Else prove '..UptoSaid'. A law counts once. -/
mutual
def uptoBulk {H : Type} : DataW H → Nat
  | .lit (.string bytes) => bytes.length + 1
  | .lit _ => 1
  | .nil => 1
  | .ptr d => uptoBulk d + 1
  | .slice elems spare => uptoBulkAll elems + uptoBulkAll spare + 1
  | .agg parts => uptoBulkAll parts + 1
  | .iface _ d => uptoBulk d + 1
  | .map entries => uptoBulkEntries entries + 1
  | .held _ => 1
def uptoBulkAll {H : Type} : List (DataW H) → Nat
  | [] => 0
  | d :: r => uptoBulk d + uptoBulkAll r
def uptoBulkEntries {H : Type} : List (Lit × DataW H) → Nat
  | [] => 0
  | x :: r => uptoBulkEntry x + uptoBulkEntries r
def uptoBulkEntry {H : Type} : Lit × DataW H → Nat
  | (.string bytes, d) => bytes.length + uptoBulk d + 1
  | (_, d) => uptoBulk d + 1
 end
def uptoSmall : (H : Type) → List (DataW H) → Bool := fun _ ds => decide (uptoBulkAll ds ≤ 1048576)
def OpenSpec.upto (s : _root_.Go.ChangeSpec) : _root_.Go.OpenSpec := { _root_.Go.OpenSpec.ofChange s with cond := some uptoSmall }

/-- 'scrollbacklaw01.UtfDecodes', WHERE WHAT IT READS IS OF BULK AT MOST 1048576: true; the input reads as it did. -/
def utfDecodesUptoRow : OpenClaim := { program := "ytacpbfkelpehhaa", sum := "5f33754207f042a3e10bc73dc1babc2f26f005a7edb4289aaad086fd4ee0ac82", func := "scrollback/scrollbacklaw01.UtfDecodes", spec := "utfDecodes", recurses := true, apart := false, narrowed := true }
def UtfDecodesUptoSaid : Prop := utfDecodesUptoRow.holds Try.pinned (OpenSpec.upto utfDecodesSpec)

/-- 'scrollbacklaw01.UtfFours', WHERE WHAT IT READS IS OF BULK AT MOST 1048576: true; the input reads as it did. -/
def utfFoursUptoRow : OpenClaim := { program := "ytacpbfkelpehhaa", sum := "5f33754207f042a3e10bc73dc1babc2f26f005a7edb4289aaad086fd4ee0ac82", func := "scrollback/scrollbacklaw01.UtfFours", spec := "utfFours", recurses := true, apart := false, narrowed := true }
def UtfFoursUptoSaid : Prop := utfFoursUptoRow.holds Try.pinned (OpenSpec.upto utfFoursSpec)

/-- 'scrollbacklaw01.UtfEncodes', WHERE WHAT IT READS IS OF BULK AT MOST 1048576: true; the input reads as it did. -/
def utfEncodesUptoRow : OpenClaim := { program := "ytacpbfkelpehhaa", sum := "5f33754207f042a3e10bc73dc1babc2f26f005a7edb4289aaad086fd4ee0ac82", func := "scrollback/scrollbacklaw01.UtfEncodes", spec := "utfEncodes", recurses := true, apart := false, narrowed := true }
def UtfEncodesUptoSaid : Prop := utfEncodesUptoRow.holds Try.pinned (OpenSpec.upto utfEncodesSpec)

/-- 'scrollbacklaw01.UtfHolds', WHERE WHAT IT READS IS OF BULK AT MOST 1048576: true; the input reads as it did. -/
def utfHoldsUptoRow : OpenClaim := { program := "ytacpbfkelpehhaa", sum := "5f33754207f042a3e10bc73dc1babc2f26f005a7edb4289aaad086fd4ee0ac82", func := "scrollback/scrollbacklaw01.UtfHolds", spec := "utfHolds", apart := false, narrowed := true }
def UtfHoldsUptoSaid : Prop := utfHoldsUptoRow.holds Try.pinned (OpenSpec.upto utfHoldsSpec)

/-- 'scrollbacklaw01.UtfSteps', WHERE WHAT IT READS IS OF BULK AT MOST 1048576: true; the input reads as it did. -/
def utfStepsUptoRow : OpenClaim := { program := "ytacpbfkelpehhaa", sum := "5f33754207f042a3e10bc73dc1babc2f26f005a7edb4289aaad086fd4ee0ac82", func := "scrollback/scrollbacklaw01.UtfSteps", spec := "utfSteps", recurses := true, apart := false, narrowed := true }
def UtfStepsUptoSaid : Prop := utfStepsUptoRow.holds Try.pinned (OpenSpec.upto utfStepsSpec)

/-- 'scrollbacklaw01.UtfNil', WHERE WHAT IT READS IS OF BULK AT MOST 1048576: true; the input reads as it did. -/
def utfNilUptoRow : OpenClaim := { program := "ytacpbfkelpehhaa", sum := "5f33754207f042a3e10bc73dc1babc2f26f005a7edb4289aaad086fd4ee0ac82", func := "scrollback/scrollbacklaw01.UtfNil", spec := "utfNil", apart := false, narrowed := true }
def UtfNilUptoSaid : Prop := utfNilUptoRow.holds Try.pinned (OpenSpec.upto utfNilSpec)

end Rows
end Go.Proofs.Ytacpbfkelpehhaa
