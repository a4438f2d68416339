/-
  No cell of these rows narrows 'for every input' (looked for: loops, veiled, ifaces, maps, wideKeys, modest, calm, conditions, laid).
  DERIVED. THE GIVEN ROWS OF THIS SEAT. 6 by the template 'for every input the law returns true; each argument reads behind the call as it read before'; 0 by the template 'total and deterministic' (their statements: YtpkkfcfkhiaggaaTotals.lean).
  GIVEN WITH THE SEED: the statements are not yours to turn. If you find one false, say at which input.
  Laid BY PROGRAM, IN A SANDBOX (cutbox-rows.mjs): the forced cells as the released guide's own fill.sh prints them over the translation 18facc26f80e5970… (all of the seat's roots in one cut). By AI agents, Wed Nov 11 2026. No macro, syntax, notation, axiom, sorry.
-/
import Derived.Test.YtpkkfcfkhiaggaaChecked
import GoSem.Claim
import GoSem.ClaimJoined
import GoSem.ClaimMapViews
import Derived.JoinedTies
import Derived.KernelRfl
namespace Go.Proofs.Ytpkkfcfkhiaggaa
/- THE CELL 'sum', in the pinned program and in every row, IS THE sha256 OF THE DUMP (.gsa) THAT YtpkkfcfkhiaggaaProg.lean LOADS. Nothing in Lean hashes anything: it is a label: what it is worth is what the hold of that sum in a sandbox is worth. -/
noncomputable def Try.pinned : Pinned := { name := "ytpkkfcfkhiaggaa", sum := "18facc26f80e5970b50ed5adb708244cb45f7213827b77ee92e8ff96c49d58f6", checked := Try.checked }
namespace Rows
def none {H : Type} : Left H := { results := [], args := [] }

/-- 'scrollbacklaw11.ParserBytes': WHATEVER THE INPUT: true; the input reads as it did. -/
def parserBytesSpec : ChangeSpec := { name := "parserBytes", fn := fun _ => fun
  | [d] => { results := [.lit (.bool true)], args := [d] }
  | _ => none }
def parserBytesRow : OpenClaim := { program := "ytpkkfcfkhiaggaa", sum := "18facc26f80e5970b50ed5adb708244cb45f7213827b77ee92e8ff96c49d58f6", func := "scrollback/scrollbacklaw11.ParserBytes", spec := "parserBytes", recurses := true, apart := false }
def ParserBytesSaid : Prop := parserBytesRow.holds Try.pinned (OpenSpec.ofChange parserBytesSpec)

/-- ITS FALSE NEIGHBOUR: 'it returns false'. Refute it at one input. -/
def parserBytesWrong : ChangeSpec := { name := "parserBytes", fn := fun _ => fun
  | [d] => { results := [.lit (.bool false)], args := [d] }
  | _ => none }
def ParserBytesWrongFalsely : Prop := parserBytesRow.holds Try.pinned (OpenSpec.ofChange parserBytesWrong)

/-- 'scrollbacklaw11.ParserSequences': WHATEVER THE INPUT: true; the input reads as it did. -/
def parserSequencesSpec : ChangeSpec := { name := "parserSequences", fn := fun _ => fun
  | [d1, d2, d3] => { results := [.lit (.bool true)], args := [d1, d2, d3] }
  | _ => none }
def parserSequencesRow : OpenClaim := { program := "ytpkkfcfkhiaggaa", sum := "18facc26f80e5970b50ed5adb708244cb45f7213827b77ee92e8ff96c49d58f6", func := "scrollback/scrollbacklaw11.ParserSequences", spec := "parserSequences", recurses := true, apart := false }
def ParserSequencesSaid : Prop := parserSequencesRow.holds Try.pinned (OpenSpec.ofChange parserSequencesSpec)

/-- ITS FALSE NEIGHBOUR: 'it returns false'. Refute it at one input. -/
def parserSequencesWrong : ChangeSpec := { name := "parserSequences", fn := fun _ => fun
  | [d1, d2, d3] => { results := [.lit (.bool false)], args := [d1, d2, d3] }
  | _ => none }
def ParserSequencesWrongFalsely : Prop := parserSequencesRow.holds Try.pinned (OpenSpec.ofChange parserSequencesWrong)

/-- 'scrollbacklaw11.ParserHolds': WHATEVER THE INPUT: true; the input reads as it did. -/
def parserHoldsSpec : ChangeSpec := { name := "parserHolds", fn := fun _ => fun
  | [d1, d2, d3, d4] => { results := [.lit (.bool true)], args := [d1, d2, d3, d4] }
  | _ => none }
def parserHoldsRow : OpenClaim := { program := "ytpkkfcfkhiaggaa", sum := "18facc26f80e5970b50ed5adb708244cb45f7213827b77ee92e8ff96c49d58f6", func := "scrollback/scrollbacklaw11.ParserHolds", spec := "parserHolds", recurses := true, apart := false }
def ParserHoldsSaid : Prop := parserHoldsRow.holds Try.pinned (OpenSpec.ofChange parserHoldsSpec)

/-- ITS FALSE NEIGHBOUR: 'it returns false'. Refute it at one input. -/
def parserHoldsWrong : ChangeSpec := { name := "parserHolds", fn := fun _ => fun
  | [d1, d2, d3, d4] => { results := [.lit (.bool false)], args := [d1, d2, d3, d4] }
  | _ => none }
def ParserHoldsWrongFalsely : Prop := parserHoldsRow.holds Try.pinned (OpenSpec.ofChange parserHoldsWrong)

/-- 'scrollbacklaw11.ParserSteps': WHATEVER THE INPUT: true; the input reads as it did. -/
def parserStepsSpec : ChangeSpec := { name := "parserSteps", fn := fun _ => fun
  | [d1, d2, d3] => { results := [.lit (.bool true)], args := [d1, d2, d3] }
  | _ => none }
def parserStepsRow : OpenClaim := { program := "ytpkkfcfkhiaggaa", sum := "18facc26f80e5970b50ed5adb708244cb45f7213827b77ee92e8ff96c49d58f6", func := "scrollback/scrollbacklaw11.ParserSteps", spec := "parserSteps", recurses := true, apart := false }
def ParserStepsSaid : Prop := parserStepsRow.holds Try.pinned (OpenSpec.ofChange parserStepsSpec)

/-- ITS FALSE NEIGHBOUR: 'it returns false'. Refute it at one input. -/
def parserStepsWrong : ChangeSpec := { name := "parserSteps", fn := fun _ => fun
  | [d1, d2, d3] => { results := [.lit (.bool false)], args := [d1, d2, d3] }
  | _ => none }
def ParserStepsWrongFalsely : Prop := parserStepsRow.holds Try.pinned (OpenSpec.ofChange parserStepsWrong)

/-- 'scrollbacklaw11.ParserNil': WHATEVER THE INPUT: true; the input reads as it did. -/
def parserNilSpec : ChangeSpec := { name := "parserNil", fn := fun _ => fun
  | [d] => { results := [.lit (.bool true)], args := [d] }
  | _ => none }
def parserNilRow : OpenClaim := { program := "ytpkkfcfkhiaggaa", sum := "18facc26f80e5970b50ed5adb708244cb45f7213827b77ee92e8ff96c49d58f6", func := "scrollback/scrollbacklaw11.ParserNil", spec := "parserNil", recurses := true, apart := false }
def ParserNilSaid : Prop := parserNilRow.holds Try.pinned (OpenSpec.ofChange parserNilSpec)

/-- ITS FALSE NEIGHBOUR: 'it returns false'. Refute it at one input. -/
def parserNilWrong : ChangeSpec := { name := "parserNil", fn := fun _ => fun
  | [d] => { results := [.lit (.bool false)], args := [d] }
  | _ => none }
def ParserNilWrongFalsely : Prop := parserNilRow.holds Try.pinned (OpenSpec.ofChange parserNilWrong)

/-- 'scrollbacklaw11.ParserLongs': WHATEVER THE INPUT: true; the input reads as it did. -/
def parserLongsSpec : ChangeSpec := { name := "parserLongs", fn := fun _ => fun
  | [d1, d2, d3, d4] => { results := [.lit (.bool true)], args := [d1, d2, d3, d4] }
  | _ => none }
def parserLongsRow : OpenClaim := { program := "ytpkkfcfkhiaggaa", sum := "18facc26f80e5970b50ed5adb708244cb45f7213827b77ee92e8ff96c49d58f6", func := "scrollback/scrollbacklaw11.ParserLongs", spec := "parserLongs", inPlace := ["internal/abi.NoEscape", "internal/bytealg.MakeNoZero"], recurses := true, apart := false }
def ParserLongsSaid : Prop := parserLongsRow.holds Try.pinned (OpenSpec.ofChange parserLongsSpec)

/-- ITS FALSE NEIGHBOUR: 'it returns false'. Refute it at one input. -/
def parserLongsWrong : ChangeSpec := { name := "parserLongs", fn := fun _ => fun
  | [d1, d2, d3, d4] => { results := [.lit (.bool false)], args := [d1, d2, d3, d4] }
  | _ => none }
def ParserLongsWrongFalsely : Prop := parserLongsRow.holds Try.pinned (OpenSpec.ofChange parserLongsWrong)

/- THE SECOND FORM. 'bulk': how many values and letters a reading holds, each counted each time it is reached (what is shared counts as often as it is met; a slice's spare places count too). A statement '..UptoSaid' is the law's where the arguments, and the package variables that the reading takes, are together of bulk at most 1048576: NARROWER than '..Said'. Prove '..Said' where nothing that the law and all that it calls make is longer than what came in: it says more and counts as full. Else prove '..UptoSaid'. A law counts once. -/
mutual
def uptoBulk {H : Type} : DataW H → Nat
  | .lit (.string bytes) => bytes.length + 1
  | .lit _ => 1
  | .nil => 1
  | .ptr d => uptoBulk d + 1
  | .slice elems spare => uptoBulkAll elems + uptoBulkAll spare + 1
  | .agg parts => uptoBulkAll parts + 1
  | .iface _ d => uptoBulk d + 1
  | .map entries => uptoBulkEntries entries + 1
  | .held _ => 1
def uptoBulkAll {H : Type} : List (DataW H) → Nat
  | [] => 0
  | d :: r => uptoBulk d + uptoBulkAll r
def uptoBulkEntries {H : Type} : List (Lit × DataW H) → Nat
  | [] => 0
  | x :: r => uptoBulkEntry x + uptoBulkEntries r
def uptoBulkEntry {H : Type} : Lit × DataW H → Nat
  | (.string bytes, d) => bytes.length + uptoBulk d + 1
  | (_, d) => uptoBulk d + 1
 end
def uptoSmall : (H : Type) → List (DataW H) → Bool := fun _ ds => decide (uptoBulkAll ds ≤ 1048576)
def OpenSpec.upto (s : _root_.Go.ChangeSpec) : _root_.Go.OpenSpec := { _root_.Go.OpenSpec.ofChange s with cond := some uptoSmall }

/-- 'scrollbacklaw11.ParserBytes', WHERE WHAT IT READS IS OF BULK AT MOST 1048576: true; the input reads as it did. -/
def parserBytesUptoRow : OpenClaim := { program := "ytpkkfcfkhiaggaa", sum := "18facc26f80e5970b50ed5adb708244cb45f7213827b77ee92e8ff96c49d58f6", func := "scrollback/scrollbacklaw11.ParserBytes", spec := "parserBytes", recurses := true, apart := false, narrowed := true }
def ParserBytesUptoSaid : Prop := parserBytesUptoRow.holds Try.pinned (OpenSpec.upto parserBytesSpec)

/-- 'scrollbacklaw11.ParserSequences', WHERE WHAT IT READS IS OF BULK AT MOST 1048576: true; the input reads as it did. -/
def parserSequencesUptoRow : OpenClaim := { program := "ytpkkfcfkhiaggaa", sum := "18facc26f80e5970b50ed5adb708244cb45f7213827b77ee92e8ff96c49d58f6", func := "scrollback/scrollbacklaw11.ParserSequences", spec := "parserSequences", recurses := true, apart := false, narrowed := true }
def ParserSequencesUptoSaid : Prop := parserSequencesUptoRow.holds Try.pinned (OpenSpec.upto parserSequencesSpec)

/-- 'scrollbacklaw11.ParserHolds', WHERE WHAT IT READS IS OF BULK AT MOST 1048576: true; the input reads as it did. -/
def parserHoldsUptoRow : OpenClaim := { program := "ytpkkfcfkhiaggaa", sum := "18facc26f80e5970b50ed5adb708244cb45f7213827b77ee92e8ff96c49d58f6", func := "scrollback/scrollbacklaw11.ParserHolds", spec := "parserHolds", recurses := true, apart := false, narrowed := true }
def ParserHoldsUptoSaid : Prop := parserHoldsUptoRow.holds Try.pinned (OpenSpec.upto parserHoldsSpec)

/-- 'scrollbacklaw11.ParserSteps', WHERE WHAT IT READS IS OF BULK AT MOST 1048576: true; the input reads as it did. -/
def parserStepsUptoRow : OpenClaim := { program := "ytpkkfcfkhiaggaa", sum := "18facc26f80e5970b50ed5adb708244cb45f7213827b77ee92e8ff96c49d58f6", func := "scrollback/scrollbacklaw11.ParserSteps", spec := "parserSteps", recurses := true, apart := false, narrowed := true }
def ParserStepsUptoSaid : Prop := parserStepsUptoRow.holds Try.pinned (OpenSpec.upto parserStepsSpec)

/-- 'scrollbacklaw11.ParserNil', WHERE WHAT IT READS IS OF BULK AT MOST 1048576: true; the input reads as it did. -/
def parserNilUptoRow : OpenClaim := { program := "ytpkkfcfkhiaggaa", sum := "18facc26f80e5970b50ed5adb708244cb45f7213827b77ee92e8ff96c49d58f6", func := "scrollback/scrollbacklaw11.ParserNil", spec := "parserNil", recurses := true, apart := false, narrowed := true }
def ParserNilUptoSaid : Prop := parserNilUptoRow.holds Try.pinned (OpenSpec.upto parserNilSpec)

/-- 'scrollbacklaw11.ParserLongs', WHERE WHAT IT READS IS OF BULK AT MOST 1048576: true; the input reads as it did. -/
def parserLongsUptoRow : OpenClaim := { program := "ytpkkfcfkhiaggaa", sum := "18facc26f80e5970b50ed5adb708244cb45f7213827b77ee92e8ff96c49d58f6", func := "scrollback/scrollbacklaw11.ParserLongs", spec := "parserLongs", inPlace := ["internal/abi.NoEscape", "internal/bytealg.MakeNoZero"], recurses := true, apart := false, narrowed := true }
def ParserLongsUptoSaid : Prop := parserLongsUptoRow.holds Try.pinned (OpenSpec.upto parserLongsSpec)

end Rows
end Go.Proofs.Ytpkkfcfkhiaggaa
