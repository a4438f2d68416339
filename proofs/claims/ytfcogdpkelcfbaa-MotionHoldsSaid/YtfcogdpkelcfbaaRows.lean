/-
  No cell of these rows narrows 'for every input' (looked for: loops, veiled, ifaces, maps, wideKeys, modest, calm, conditions, laid).
  DERIVED. THE GIVEN ROWS OF THIS SEAT. 5 by the template 'for every input the law returns true; each argument reads behind the call as it read before'; 0 by the template 'total and deterministic' (their statements: YtfcogdpkelcfbaaTotals.lean).
  GIVEN WITH THE SEED: the statements are not yours to turn. If you find one false, say at which input.
  Laid BY PROGRAM, IN A SANDBOX (cutbox-rows.mjs): the forced cells as the released guide's own fill.sh prints them over the translation 8cf1c95761457960… (all of the seat's roots in one cut). By AI agents, Wed Nov 11 2026. No macro, syntax, notation, axiom, sorry.
-/
import Derived.Test.YtfcogdpkelcfbaaChecked
import GoSem.Claim
import GoSem.ClaimJoined
import GoSem.ClaimMapViews
import Derived.JoinedTies
import Derived.KernelRfl
namespace Go.Proofs.Ytfcogdpkelcfbaa
/- THE CELL 'sum', in the pinned program and in every row, IS THE sha256 OF THE DUMP (.gsa) THAT YtfcogdpkelcfbaaProg.lean LOADS. Nothing in Lean hashes anything: it is a label: what it is worth is what the hold of that sum in a sandbox is worth. -/
noncomputable def Try.pinned : Pinned := { name := "ytfcogdpkelcfbaa", sum := "8cf1c95761457960fb0c51ce6e00630e363000c2e34e28252150bfa727c196ac", checked := Try.checked }
namespace Rows
def none {H : Type} : Left H := { results := [], args := [] }

/-- 'scrollbacklaw15.MotionWays': WHATEVER THE INPUT: true; the input reads as it did. -/
def motionWaysSpec : ChangeSpec := { name := "motionWays", fn := fun _ => fun
  | [d1, d2, d3] => { results := [.lit (.bool true)], args := [d1, d2, d3] }
  | _ => none }
def motionWaysRow : OpenClaim := { program := "ytfcogdpkelcfbaa", sum := "8cf1c95761457960fb0c51ce6e00630e363000c2e34e28252150bfa727c196ac", func := "scrollback/scrollbacklaw15.MotionWays", spec := "motionWays", apart := false }
def MotionWaysSaid : Prop := motionWaysRow.holds Try.pinned (OpenSpec.ofChange motionWaysSpec)

/-- ITS FALSE NEIGHBOUR: 'it returns false'. Refute it at one input. -/
def motionWaysWrong : ChangeSpec := { name := "motionWays", fn := fun _ => fun
  | [d1, d2, d3] => { results := [.lit (.bool false)], args := [d1, d2, d3] }
  | _ => none }
def MotionWaysWrongFalsely : Prop := motionWaysRow.holds Try.pinned (OpenSpec.ofChange motionWaysWrong)

/-- 'scrollbacklaw15.MotionPlaces': WHATEVER THE INPUT: true; the input reads as it did. -/
def motionPlacesSpec : ChangeSpec := { name := "motionPlaces", fn := fun _ => fun
  | [d1, d2, d3, d4] => { results := [.lit (.bool true)], args := [d1, d2, d3, d4] }
  | _ => none }
def motionPlacesRow : OpenClaim := { program := "ytfcogdpkelcfbaa", sum := "8cf1c95761457960fb0c51ce6e00630e363000c2e34e28252150bfa727c196ac", func := "scrollback/scrollbacklaw15.MotionPlaces", spec := "motionPlaces", apart := false }
def MotionPlacesSaid : Prop := motionPlacesRow.holds Try.pinned (OpenSpec.ofChange motionPlacesSpec)

/-- ITS FALSE NEIGHBOUR: 'it returns false'. Refute it at one input. -/
def motionPlacesWrong : ChangeSpec := { name := "motionPlaces", fn := fun _ => fun
  | [d1, d2, d3, d4] => { results := [.lit (.bool false)], args := [d1, d2, d3, d4] }
  | _ => none }
def MotionPlacesWrongFalsely : Prop := motionPlacesRow.holds Try.pinned (OpenSpec.ofChange motionPlacesWrong)

/-- 'scrollbacklaw15.MotionTours': WHATEVER THE INPUT: true; the input reads as it did. -/
def motionToursSpec : ChangeSpec := { name := "motionTours", fn := fun _ => fun
  | [d1, d2] => { results := [.lit (.bool true)], args := [d1, d2] }
  | _ => none }
def motionToursRow : OpenClaim := { program := "ytfcogdpkelcfbaa", sum := "8cf1c95761457960fb0c51ce6e00630e363000c2e34e28252150bfa727c196ac", func := "scrollback/scrollbacklaw15.MotionTours", spec := "motionTours", apart := false }
def MotionToursSaid : Prop := motionToursRow.holds Try.pinned (OpenSpec.ofChange motionToursSpec)

/-- ITS FALSE NEIGHBOUR: 'it returns false'. Refute it at one input. -/
def motionToursWrong : ChangeSpec := { name := "motionTours", fn := fun _ => fun
  | [d1, d2] => { results := [.lit (.bool false)], args := [d1, d2] }
  | _ => none }
def MotionToursWrongFalsely : Prop := motionToursRow.holds Try.pinned (OpenSpec.ofChange motionToursWrong)

/-- 'scrollbacklaw15.MotionEdges': WHATEVER THE INPUT: true; the input reads as it did. -/
def motionEdgesSpec : ChangeSpec := { name := "motionEdges", fn := fun _ => fun
  | [d] => { results := [.lit (.bool true)], args := [d] }
  | _ => none }
def motionEdgesRow : OpenClaim := { program := "ytfcogdpkelcfbaa", sum := "8cf1c95761457960fb0c51ce6e00630e363000c2e34e28252150bfa727c196ac", func := "scrollback/scrollbacklaw15.MotionEdges", spec := "motionEdges", apart := false }
def MotionEdgesSaid : Prop := motionEdgesRow.holds Try.pinned (OpenSpec.ofChange motionEdgesSpec)

/-- ITS FALSE NEIGHBOUR: 'it returns false'. Refute it at one input. -/
def motionEdgesWrong : ChangeSpec := { name := "motionEdges", fn := fun _ => fun
  | [d] => { results := [.lit (.bool false)], args := [d] }
  | _ => none }
def MotionEdgesWrongFalsely : Prop := motionEdgesRow.holds Try.pinned (OpenSpec.ofChange motionEdgesWrong)

/-- 'scrollbacklaw15.MotionHolds': WHATEVER THE INPUT: true; the input reads as it did. -/
def motionHoldsSpec : ChangeSpec := { name := "motionHolds", fn := fun _ => fun
  | [d1, d2, d3, d4] => { results := [.lit (.bool true)], args := [d1, d2, d3, d4] }
  | _ => none }
def motionHoldsRow : OpenClaim := { program := "ytfcogdpkelcfbaa", sum := "8cf1c95761457960fb0c51ce6e00630e363000c2e34e28252150bfa727c196ac", func := "scrollback/scrollbacklaw15.MotionHolds", spec := "motionHolds", apart := false }
def MotionHoldsSaid : Prop := motionHoldsRow.holds Try.pinned (OpenSpec.ofChange motionHoldsSpec)

/-- ITS FALSE NEIGHBOUR: 'it returns false'. Refute it at one input. -/
def motionHoldsWrong : ChangeSpec := { name := "motionHolds", fn := fun _ => fun
  | [d1, d2, d3, d4] => { results := [.lit (.bool false)], args := [d1, d2, d3, d4] }
  | _ => none }
def MotionHoldsWrongFalsely : Prop := motionHoldsRow.holds Try.pinned (OpenSpec.ofChange motionHoldsWrong)

/- THE SECOND FORM. 'bulk': how many values and letters a reading holds, each counted each time it is reached (what is shared counts as often as it is met; a slice's spare places count too). A statement '..UptoSaid' is the law's where the arguments, and the package variables that the reading takes, are together of bulk at most 1048576: NARROWER than '..Said'. Prove '..Said' where nothing that the law and all that it calls make is longer than what came in: it says more and counts as full. Else prove '..UptoSaid'. A law counts once. -/
mutual
def uptoBulk {H : Type} : DataW H → Nat
  | .lit (.string bytes) => bytes.length + 1
  | .lit _ => 1
  | .nil => 1
  | .ptr d => uptoBulk d + 1
  | .slice elems spare => uptoBulkAll elems + uptoBulkAll spare + 1
  | .agg parts => uptoBulkAll parts + 1
  | .iface _ d => uptoBulk d + 1
  | .map entries => uptoBulkEntries entries + 1
  | .held _ => 1
def uptoBulkAll {H : Type} : List (DataW H) → Nat
  | [] => 0
  | d :: r => uptoBulk d + uptoBulkAll r
def uptoBulkEntries {H : Type} : List (Lit × DataW H) → Nat
  | [] => 0
  | x :: r => uptoBulkEntry x + uptoBulkEntries r
def uptoBulkEntry {H : Type} : Lit × DataW H → Nat
  | (.string bytes, d) => bytes.length + uptoBulk d + 1
  | (_, d) => uptoBulk d + 1
 end
def uptoSmall : (H : Type) → List (DataW H) → Bool := fun _ ds => decide (uptoBulkAll ds ≤ 1048576)
def OpenSpec.upto (s : _root_.Go.ChangeSpec) : _root_.Go.OpenSpec := { _root_.Go.OpenSpec.ofChange s with cond := some uptoSmall }

/-- 'scrollbacklaw15.MotionWays', WHERE WHAT IT READS IS OF BULK AT MOST 1048576: true; the input reads as it did. -/
def motionWaysUptoRow : OpenClaim := { program := "ytfcogdpkelcfbaa", sum := "8cf1c95761457960fb0c51ce6e00630e363000c2e34e28252150bfa727c196ac", func := "scrollback/scrollbacklaw15.MotionWays", spec := "motionWays", apart := false, narrowed := true }
def MotionWaysUptoSaid : Prop := motionWaysUptoRow.holds Try.pinned (OpenSpec.upto motionWaysSpec)

/-- 'scrollbacklaw15.MotionPlaces', WHERE WHAT IT READS IS OF BULK AT MOST 1048576: true; the input reads as it did. -/
def motionPlacesUptoRow : OpenClaim := { program := "ytfcogdpkelcfbaa", sum := "8cf1c95761457960fb0c51ce6e00630e363000c2e34e28252150bfa727c196ac", func := "scrollback/scrollbacklaw15.MotionPlaces", spec := "motionPlaces", apart := false, narrowed := true }
def MotionPlacesUptoSaid : Prop := motionPlacesUptoRow.holds Try.pinned (OpenSpec.upto motionPlacesSpec)

/-- 'scrollbacklaw15.MotionTours', WHERE WHAT IT READS IS OF BULK AT MOST 1048576: true; the input reads as it did. -/
def motionToursUptoRow : OpenClaim := { program := "ytfcogdpkelcfbaa", sum := "8cf1c95761457960fb0c51ce6e00630e363000c2e34e28252150bfa727c196ac", func := "scrollback/scrollbacklaw15.MotionTours", spec := "motionTours", apart := false, narrowed := true }
def MotionToursUptoSaid : Prop := motionToursUptoRow.holds Try.pinned (OpenSpec.upto motionToursSpec)

/-- 'scrollbacklaw15.MotionEdges', WHERE WHAT IT READS IS OF BULK AT MOST 1048576: true; the input reads as it did. -/
def motionEdgesUptoRow : OpenClaim := { program := "ytfcogdpkelcfbaa", sum := "8cf1c95761457960fb0c51ce6e00630e363000c2e34e28252150bfa727c196ac", func := "scrollback/scrollbacklaw15.MotionEdges", spec := "motionEdges", apart := false, narrowed := true }
def MotionEdgesUptoSaid : Prop := motionEdgesUptoRow.holds Try.pinned (OpenSpec.upto motionEdgesSpec)

/-- 'scrollbacklaw15.MotionHolds', WHERE WHAT IT READS IS OF BULK AT MOST 1048576: true; the input reads as it did. -/
def motionHoldsUptoRow : OpenClaim := { program := "ytfcogdpkelcfbaa", sum := "8cf1c95761457960fb0c51ce6e00630e363000c2e34e28252150bfa727c196ac", func := "scrollback/scrollbacklaw15.MotionHolds", spec := "motionHolds", apart := false, narrowed := true }
def MotionHoldsUptoSaid : Prop := motionHoldsUptoRow.holds Try.pinned (OpenSpec.upto motionHoldsSpec)

end Rows
end Go.Proofs.Ytfcogdpkelcfbaa
