/-
  NARROWER THAN 'FOR EVERY INPUT', by the rows' own cells (each row's printed sentence says how): ModesSets: laid · ModesApplies: laid · ModesTexts: laid · ModesAll: laid · ModesHolds: laid.
  DERIVED. THE GIVEN ROWS OF THIS SEAT. 5 by the template 'for every input the law returns true; each argument reads behind the call as it read before'; 0 by the template 'total and deterministic' (their statements: YtcmflmmidipckaaDoorTotals.lean).
  GIVEN WITH THE SEED: the statements are not yours to turn. If you find one false, say at which input.
  Laid BY PROGRAM, IN A SANDBOX (cutbox-rows.mjs): the forced cells as the released guide's own fill.sh prints them over the translation b647a5bb278dc8c5… (all of the seat's roots in one cut). By AI agents, Wed Nov 11 2026. No macro, syntax, notation, axiom, sorry.
-/
import Derived.Test.YtcmflmmidipckaaDoorChecked
import GoSem.Claim
import GoSem.ClaimJoined
import GoSem.ClaimMapViews
import Derived.JoinedTies
import Derived.KernelRfl
namespace Go.Proofs.YtcmflmmidipckaaDoor
/- THE CELL 'sum', in the pinned program and in every row, IS THE sha256 OF THE DUMP (.gsa) THAT YtcmflmmidipckaaDoorProg.lean LOADS. Nothing in Lean hashes anything: it is a label: what it is worth is what the hold of that sum in a sandbox is worth. -/
noncomputable def Tryd.pinned : Pinned := { name := "ytcmflmmidipckaadoor", sum := "b647a5bb278dc8c54be4a80f95f788b7b45716fbd24bfc50b964c34028b81da5", checked := Tryd.checked }
namespace Rows
def none {H : Type} : Left H := { results := [], args := [] }

/- WHAT THE LISTED PACKAGE-LEVEL VARIABLES READ AS WHEN THE CALL BEGINS. Each datum BY PROGRAM (the guide's laid-datum.mjs) off the statement by which the dump's own 'gosem.cut.vars' lays the variable. In a bare row this is a premise. The card (YtcmflmmidipckaaDoorCards.lean) ties it to the program's text. -/
def laid_math_bits_deBruijn32tab {H : Type} : DataW H := .agg [.lit (.int .u8 0), .lit (.int .u8 1), .lit (.int .u8 28), .lit (.int .u8 2), .lit (.int .u8 29), .lit (.int .u8 14), .lit (.int .u8 24), .lit (.int .u8 3), .lit (.int .u8 30), .lit (.int .u8 22), .lit (.int .u8 20), .lit (.int .u8 15), .lit (.int .u8 25), .lit (.int .u8 17), .lit (.int .u8 4), .lit (.int .u8 8), .lit (.int .u8 31), .lit (.int .u8 27), .lit (.int .u8 13), .lit (.int .u8 23), .lit (.int .u8 21), .lit (.int .u8 19), .lit (.int .u8 16), .lit (.int .u8 7), .lit (.int .u8 26), .lit (.int .u8 12), .lit (.int .u8 18), .lit (.int .u8 6), .lit (.int .u8 11), .lit (.int .u8 5), .lit (.int .u8 10), .lit (.int .u8 9)]
def laid_math_bits_deBruijn64tab {H : Type} : DataW H := .agg [.lit (.int .u8 0), .lit (.int .u8 1), .lit (.int .u8 56), .lit (.int .u8 2), .lit (.int .u8 57), .lit (.int .u8 49), .lit (.int .u8 28), .lit (.int .u8 3), .lit (.int .u8 61), .lit (.int .u8 58), .lit (.int .u8 42), .lit (.int .u8 50), .lit (.int .u8 38), .lit (.int .u8 29), .lit (.int .u8 17), .lit (.int .u8 4), .lit (.int .u8 62), .lit (.int .u8 47), .lit (.int .u8 59), .lit (.int .u8 36), .lit (.int .u8 45), .lit (.int .u8 43), .lit (.int .u8 51), .lit (.int .u8 22), .lit (.int .u8 53), .lit (.int .u8 39), .lit (.int .u8 33), .lit (.int .u8 30), .lit (.int .u8 24), .lit (.int .u8 18), .lit (.int .u8 12), .lit (.int .u8 5), .lit (.int .u8 63), .lit (.int .u8 55), .lit (.int .u8 48), .lit (.int .u8 27), .lit (.int .u8 60), .lit (.int .u8 41), .lit (.int .u8 37), .lit (.int .u8 16), .lit (.int .u8 46), .lit (.int .u8 35), .lit (.int .u8 44), .lit (.int .u8 21), .lit (.int .u8 52), .lit (.int .u8 32), .lit (.int .u8 23), .lit (.int .u8 11), .lit (.int .u8 54), .lit (.int .u8 26), .lit (.int .u8 40), .lit (.int .u8 15), .lit (.int .u8 34), .lit (.int .u8 20), .lit (.int .u8 31), .lit (.int .u8 10), .lit (.int .u8 25), .lit (.int .u8 14), .lit (.int .u8 19), .lit (.int .u8 9), .lit (.int .u8 13), .lit (.int .u8 8), .lit (.int .u8 7), .lit (.int .u8 6)]
def laid_internal_strconv_uint64pow10 {H : Type} : DataW H := .agg [.lit (.int .u64 1), .lit (.int .u64 10), .lit (.int .u64 100), .lit (.int .u64 1000), .lit (.int .u64 10000), .lit (.int .u64 100000), .lit (.int .u64 1000000), .lit (.int .u64 10000000), .lit (.int .u64 100000000), .lit (.int .u64 1000000000), .lit (.int .u64 10000000000), .lit (.int .u64 100000000000), .lit (.int .u64 1000000000000), .lit (.int .u64 10000000000000), .lit (.int .u64 100000000000000), .lit (.int .u64 1000000000000000), .lit (.int .u64 10000000000000000), .lit (.int .u64 100000000000000000), .lit (.int .u64 1000000000000000000), .lit (.int .u64 10000000000000000000)]
def laid_scrollback_modes_pointers {H : Type} : DataW H := .agg [.lit (.int .i64 1000), .lit (.int .i64 1002), .lit (.int .i64 1003)]
def laid_scrollback_modes_screens {H : Type} : DataW H := .agg [.lit (.int .i64 47), .lit (.int .i64 1047), .lit (.int .i64 1049)]
def laid_scrollback_modes_order {H : Type} : DataW H := .agg [.agg [.lit (.int .i32 0), .lit (.int .i64 4)], .agg [.lit (.int .i32 63), .lit (.int .i64 1)], .agg [.lit (.int .i32 63), .lit (.int .i64 6)], .agg [.lit (.int .i32 63), .lit (.int .i64 7)], .agg [.lit (.int .i32 63), .lit (.int .i64 25)], .agg [.lit (.int .i32 63), .lit (.int .i64 1000)], .agg [.lit (.int .i32 63), .lit (.int .i64 1002)], .agg [.lit (.int .i32 63), .lit (.int .i64 1003)], .agg [.lit (.int .i32 63), .lit (.int .i64 1006)], .agg [.lit (.int .i32 63), .lit (.int .i64 2004)], .agg [.lit (.int .i32 63), .lit (.int .i64 47)], .agg [.lit (.int .i32 63), .lit (.int .i64 1047)], .agg [.lit (.int .i32 63), .lit (.int .i64 1049)]]

/-- 'scrollbacklaw22.ModesSets': WHATEVER THE INPUT: true; the input reads as it did. -/
def modesSetsSpec : ChangeSpec := { name := "modesSets", fn := fun _ => fun
  | [d1, d2, d3, d4] => { results := [.lit (.bool true)], args := [d1, d2, d3, d4] }
  | _ => none }
def modesSetsRow : OpenClaim := { program := "ytcmflmmidipckaadoor", sum := "b647a5bb278dc8c54be4a80f95f788b7b45716fbd24bfc50b964c34028b81da5", func := "scrollback/scrollbacklaw22.ModesSets", spec := "modesSets", inPlace := ["internal/abi.NoEscape"], named := ["scrollback/modes.pointers", "scrollback/modes.screens", "scrollback/modes.order", "internal/strconv.uint64pow10", "math/bits.deBruijn32tab", "math/bits.deBruijn64tab"], apart := false, laid := [("math/bits.deBruijn32tab", laid_math_bits_deBruijn32tab), ("math/bits.deBruijn64tab", laid_math_bits_deBruijn64tab), ("internal/strconv.uint64pow10", laid_internal_strconv_uint64pow10), ("scrollback/modes.pointers", laid_scrollback_modes_pointers), ("scrollback/modes.screens", laid_scrollback_modes_screens), ("scrollback/modes.order", laid_scrollback_modes_order)] }
def ModesSetsSaid : Prop := modesSetsRow.holds Tryd.pinned (OpenSpec.ofChange modesSetsSpec)

/-- ITS FALSE NEIGHBOUR: 'it returns false'. Refute it at one input. -/
def modesSetsWrong : ChangeSpec := { name := "modesSets", fn := fun _ => fun
  | [d1, d2, d3, d4] => { results := [.lit (.bool false)], args := [d1, d2, d3, d4] }
  | _ => none }
def ModesSetsWrongFalsely : Prop := modesSetsRow.holds Tryd.pinned (OpenSpec.ofChange modesSetsWrong)

/-- 'scrollbacklaw22.ModesApplies': WHATEVER THE INPUT: true; the input reads as it did. -/
def modesAppliesSpec : ChangeSpec := { name := "modesApplies", fn := fun _ => fun
  | [d1, d2] => { results := [.lit (.bool true)], args := [d1, d2] }
  | _ => none }
def modesAppliesRow : OpenClaim := { program := "ytcmflmmidipckaadoor", sum := "b647a5bb278dc8c54be4a80f95f788b7b45716fbd24bfc50b964c34028b81da5", func := "scrollback/scrollbacklaw22.ModesApplies", spec := "modesApplies", inPlace := ["internal/abi.NoEscape"], named := ["scrollback/modes.pointers", "scrollback/modes.screens", "scrollback/modes.order", "internal/strconv.uint64pow10", "math/bits.deBruijn32tab", "math/bits.deBruijn64tab"], apart := false, laid := [("math/bits.deBruijn32tab", laid_math_bits_deBruijn32tab), ("math/bits.deBruijn64tab", laid_math_bits_deBruijn64tab), ("internal/strconv.uint64pow10", laid_internal_strconv_uint64pow10), ("scrollback/modes.pointers", laid_scrollback_modes_pointers), ("scrollback/modes.screens", laid_scrollback_modes_screens), ("scrollback/modes.order", laid_scrollback_modes_order)] }
def ModesAppliesSaid : Prop := modesAppliesRow.holds Tryd.pinned (OpenSpec.ofChange modesAppliesSpec)

/-- ITS FALSE NEIGHBOUR: 'it returns false'. Refute it at one input. -/
def modesAppliesWrong : ChangeSpec := { name := "modesApplies", fn := fun _ => fun
  | [d1, d2] => { results := [.lit (.bool false)], args := [d1, d2] }
  | _ => none }
def ModesAppliesWrongFalsely : Prop := modesAppliesRow.holds Tryd.pinned (OpenSpec.ofChange modesAppliesWrong)

/-- 'scrollbacklaw22.ModesTexts': WHATEVER THE INPUT: true; the input reads as it did. -/
def modesTextsSpec : ChangeSpec := { name := "modesTexts", fn := fun _ => fun
  | [d] => { results := [.lit (.bool true)], args := [d] }
  | _ => none }
def modesTextsRow : OpenClaim := { program := "ytcmflmmidipckaadoor", sum := "b647a5bb278dc8c54be4a80f95f788b7b45716fbd24bfc50b964c34028b81da5", func := "scrollback/scrollbacklaw22.ModesTexts", spec := "modesTexts", inPlace := ["internal/abi.NoEscape"], recurses := true, named := ["scrollback/modes.order", "scrollback/modes.pointers", "scrollback/modes.screens", "internal/strconv.uint64pow10", "math/bits.deBruijn32tab", "math/bits.deBruijn64tab"], apart := false, laid := [("math/bits.deBruijn32tab", laid_math_bits_deBruijn32tab), ("math/bits.deBruijn64tab", laid_math_bits_deBruijn64tab), ("internal/strconv.uint64pow10", laid_internal_strconv_uint64pow10), ("scrollback/modes.pointers", laid_scrollback_modes_pointers), ("scrollback/modes.screens", laid_scrollback_modes_screens), ("scrollback/modes.order", laid_scrollback_modes_order)] }
def ModesTextsSaid : Prop := modesTextsRow.holds Tryd.pinned (OpenSpec.ofChange modesTextsSpec)

/-- ITS FALSE NEIGHBOUR: 'it returns false'. Refute it at one input. -/
def modesTextsWrong : ChangeSpec := { name := "modesTexts", fn := fun _ => fun
  | [d] => { results := [.lit (.bool false)], args := [d] }
  | _ => none }
def ModesTextsWrongFalsely : Prop := modesTextsRow.holds Tryd.pinned (OpenSpec.ofChange modesTextsWrong)

/-- 'scrollbacklaw22.ModesAll': WHATEVER THE INPUT: true; the input reads as it did. -/
def modesAllSpec : ChangeSpec := { name := "modesAll", fn := fun _ => fun
  | [d] => { results := [.lit (.bool true)], args := [d] }
  | _ => none }
def modesAllRow : OpenClaim := { program := "ytcmflmmidipckaadoor", sum := "b647a5bb278dc8c54be4a80f95f788b7b45716fbd24bfc50b964c34028b81da5", func := "scrollback/scrollbacklaw22.ModesAll", spec := "modesAll", inPlace := ["internal/abi.NoEscape"], named := ["scrollback/modes.pointers", "scrollback/modes.screens", "scrollback/modes.order", "internal/strconv.uint64pow10", "math/bits.deBruijn32tab", "math/bits.deBruijn64tab"], apart := false, laid := [("math/bits.deBruijn32tab", laid_math_bits_deBruijn32tab), ("math/bits.deBruijn64tab", laid_math_bits_deBruijn64tab), ("internal/strconv.uint64pow10", laid_internal_strconv_uint64pow10), ("scrollback/modes.pointers", laid_scrollback_modes_pointers), ("scrollback/modes.screens", laid_scrollback_modes_screens), ("scrollback/modes.order", laid_scrollback_modes_order)] }
def ModesAllSaid : Prop := modesAllRow.holds Tryd.pinned (OpenSpec.ofChange modesAllSpec)

/-- ITS FALSE NEIGHBOUR: 'it returns false'. Refute it at one input. -/
def modesAllWrong : ChangeSpec := { name := "modesAll", fn := fun _ => fun
  | [d] => { results := [.lit (.bool false)], args := [d] }
  | _ => none }
def ModesAllWrongFalsely : Prop := modesAllRow.holds Tryd.pinned (OpenSpec.ofChange modesAllWrong)

/-- 'scrollbacklaw22.ModesHolds': WHATEVER THE INPUT: true; the input reads as it did. -/
def modesHoldsSpec : ChangeSpec := { name := "modesHolds", fn := fun _ => fun
  | [d1, d2, d3, d4, d5, d6] => { results := [.lit (.bool true)], args := [d1, d2, d3, d4, d5, d6] }
  | _ => none }
def modesHoldsRow : OpenClaim := { program := "ytcmflmmidipckaadoor", sum := "b647a5bb278dc8c54be4a80f95f788b7b45716fbd24bfc50b964c34028b81da5", func := "scrollback/scrollbacklaw22.ModesHolds", spec := "modesHolds", inPlace := ["internal/abi.NoEscape"], named := ["scrollback/modes.pointers", "scrollback/modes.screens", "scrollback/modes.order", "internal/strconv.uint64pow10", "math/bits.deBruijn32tab", "math/bits.deBruijn64tab"], apart := false, laid := [("math/bits.deBruijn32tab", laid_math_bits_deBruijn32tab), ("math/bits.deBruijn64tab", laid_math_bits_deBruijn64tab), ("internal/strconv.uint64pow10", laid_internal_strconv_uint64pow10), ("scrollback/modes.pointers", laid_scrollback_modes_pointers), ("scrollback/modes.screens", laid_scrollback_modes_screens), ("scrollback/modes.order", laid_scrollback_modes_order)] }
def ModesHoldsSaid : Prop := modesHoldsRow.holds Tryd.pinned (OpenSpec.ofChange modesHoldsSpec)

/-- ITS FALSE NEIGHBOUR: 'it returns false'. Refute it at one input. -/
def modesHoldsWrong : ChangeSpec := { name := "modesHolds", fn := fun _ => fun
  | [d1, d2, d3, d4, d5, d6] => { results := [.lit (.bool false)], args := [d1, d2, d3, d4, d5, d6] }
  | _ => none }
def ModesHoldsWrongFalsely : Prop := modesHoldsRow.holds Tryd.pinned (OpenSpec.ofChange modesHoldsWrong)

/- THE SECOND FORM. 'bulk': how many values and letters a reading holds, each counted each time it is reached (what is shared counts as often as it is met; a slice's spare places count too). A statement '..UptoSaid' is the law's where the arguments, and the package variables that the reading takes, are together of bulk at most 1048576: NARROWER than '..Said'. Prove '..Said' where nothing that the law and all that it calls make is longer than what came in: it says more and counts as full. Else prove '..UptoSaid'. A law counts once. -/
mutual
def uptoBulk {H : Type} : DataW H → Nat
  | .lit (.string bytes) => bytes.length + 1
  | .lit _ => 1
  | .nil => 1
  | .ptr d => uptoBulk d + 1
  | .slice elems spare => uptoBulkAll elems + uptoBulkAll spare + 1
  | .agg parts => uptoBulkAll parts + 1
  | .iface _ d => uptoBulk d + 1
  | .map entries => uptoBulkEntries entries + 1
  | .held _ => 1
def uptoBulkAll {H : Type} : List (DataW H) → Nat
  | [] => 0
  | d :: r => uptoBulk d + uptoBulkAll r
def uptoBulkEntries {H : Type} : List (Lit × DataW H) → Nat
  | [] => 0
  | x :: r => uptoBulkEntry x + uptoBulkEntries r
def uptoBulkEntry {H : Type} : Lit × DataW H → Nat
  | (.string bytes, d) => bytes.length + uptoBulk d + 1
  | (_, d) => uptoBulk d + 1
 end
def uptoSmall : (H : Type) → List (DataW H) → Bool := fun _ ds => decide (uptoBulkAll ds ≤ 1048576)
def OpenSpec.upto (s : _root_.Go.ChangeSpec) : _root_.Go.OpenSpec := { _root_.Go.OpenSpec.ofChange s with cond := some uptoSmall }

/-- 'scrollbacklaw22.ModesSets', WHERE WHAT IT READS IS OF BULK AT MOST 1048576: true; the input reads as it did. -/
def modesSetsUptoRow : OpenClaim := { program := "ytcmflmmidipckaadoor", sum := "b647a5bb278dc8c54be4a80f95f788b7b45716fbd24bfc50b964c34028b81da5", func := "scrollback/scrollbacklaw22.ModesSets", spec := "modesSets", inPlace := ["internal/abi.NoEscape"], named := ["scrollback/modes.pointers", "scrollback/modes.screens", "scrollback/modes.order", "internal/strconv.uint64pow10", "math/bits.deBruijn32tab", "math/bits.deBruijn64tab"], apart := false, laid := [("math/bits.deBruijn32tab", laid_math_bits_deBruijn32tab), ("math/bits.deBruijn64tab", laid_math_bits_deBruijn64tab), ("internal/strconv.uint64pow10", laid_internal_strconv_uint64pow10), ("scrollback/modes.pointers", laid_scrollback_modes_pointers), ("scrollback/modes.screens", laid_scrollback_modes_screens), ("scrollback/modes.order", laid_scrollback_modes_order)], narrowed := true }
def ModesSetsUptoSaid : Prop := modesSetsUptoRow.holds Tryd.pinned (OpenSpec.upto modesSetsSpec)

/-- 'scrollbacklaw22.ModesApplies', WHERE WHAT IT READS IS OF BULK AT MOST 1048576: true; the input reads as it did. -/
def modesAppliesUptoRow : OpenClaim := { program := "ytcmflmmidipckaadoor", sum := "b647a5bb278dc8c54be4a80f95f788b7b45716fbd24bfc50b964c34028b81da5", func := "scrollback/scrollbacklaw22.ModesApplies", spec := "modesApplies", inPlace := ["internal/abi.NoEscape"], named := ["scrollback/modes.pointers", "scrollback/modes.screens", "scrollback/modes.order", "internal/strconv.uint64pow10", "math/bits.deBruijn32tab", "math/bits.deBruijn64tab"], apart := false, laid := [("math/bits.deBruijn32tab", laid_math_bits_deBruijn32tab), ("math/bits.deBruijn64tab", laid_math_bits_deBruijn64tab), ("internal/strconv.uint64pow10", laid_internal_strconv_uint64pow10), ("scrollback/modes.pointers", laid_scrollback_modes_pointers), ("scrollback/modes.screens", laid_scrollback_modes_screens), ("scrollback/modes.order", laid_scrollback_modes_order)], narrowed := true }
def ModesAppliesUptoSaid : Prop := modesAppliesUptoRow.holds Tryd.pinned (OpenSpec.upto modesAppliesSpec)

/-- 'scrollbacklaw22.ModesTexts', WHERE WHAT IT READS IS OF BULK AT MOST 1048576: true; the input reads as it did. -/
def modesTextsUptoRow : OpenClaim := { program := "ytcmflmmidipckaadoor", sum := "b647a5bb278dc8c54be4a80f95f788b7b45716fbd24bfc50b964c34028b81da5", func := "scrollback/scrollbacklaw22.ModesTexts", spec := "modesTexts", inPlace := ["internal/abi.NoEscape"], recurses := true, named := ["scrollback/modes.order", "scrollback/modes.pointers", "scrollback/modes.screens", "internal/strconv.uint64pow10", "math/bits.deBruijn32tab", "math/bits.deBruijn64tab"], apart := false, laid := [("math/bits.deBruijn32tab", laid_math_bits_deBruijn32tab), ("math/bits.deBruijn64tab", laid_math_bits_deBruijn64tab), ("internal/strconv.uint64pow10", laid_internal_strconv_uint64pow10), ("scrollback/modes.pointers", laid_scrollback_modes_pointers), ("scrollback/modes.screens", laid_scrollback_modes_screens), ("scrollback/modes.order", laid_scrollback_modes_order)], narrowed := true }
def ModesTextsUptoSaid : Prop := modesTextsUptoRow.holds Tryd.pinned (OpenSpec.upto modesTextsSpec)

/-- 'scrollbacklaw22.ModesAll', WHERE WHAT IT READS IS OF BULK AT MOST 1048576: true; the input reads as it did. -/
def modesAllUptoRow : OpenClaim := { program := "ytcmflmmidipckaadoor", sum := "b647a5bb278dc8c54be4a80f95f788b7b45716fbd24bfc50b964c34028b81da5", func := "scrollback/scrollbacklaw22.ModesAll", spec := "modesAll", inPlace := ["internal/abi.NoEscape"], named := ["scrollback/modes.pointers", "scrollback/modes.screens", "scrollback/modes.order", "internal/strconv.uint64pow10", "math/bits.deBruijn32tab", "math/bits.deBruijn64tab"], apart := false, laid := [("math/bits.deBruijn32tab", laid_math_bits_deBruijn32tab), ("math/bits.deBruijn64tab", laid_math_bits_deBruijn64tab), ("internal/strconv.uint64pow10", laid_internal_strconv_uint64pow10), ("scrollback/modes.pointers", laid_scrollback_modes_pointers), ("scrollback/modes.screens", laid_scrollback_modes_screens), ("scrollback/modes.order", laid_scrollback_modes_order)], narrowed := true }
def ModesAllUptoSaid : Prop := modesAllUptoRow.holds Tryd.pinned (OpenSpec.upto modesAllSpec)

/-- 'scrollbacklaw22.ModesHolds', WHERE WHAT IT READS IS OF BULK AT MOST 1048576: true; the input reads as it did. -/
def modesHoldsUptoRow : OpenClaim := { program := "ytcmflmmidipckaadoor", sum := "b647a5bb278dc8c54be4a80f95f788b7b45716fbd24bfc50b964c34028b81da5", func := "scrollback/scrollbacklaw22.ModesHolds", spec := "modesHolds", inPlace := ["internal/abi.NoEscape"], named := ["scrollback/modes.pointers", "scrollback/modes.screens", "scrollback/modes.order", "internal/strconv.uint64pow10", "math/bits.deBruijn32tab", "math/bits.deBruijn64tab"], apart := false, laid := [("math/bits.deBruijn32tab", laid_math_bits_deBruijn32tab), ("math/bits.deBruijn64tab", laid_math_bits_deBruijn64tab), ("internal/strconv.uint64pow10", laid_internal_strconv_uint64pow10), ("scrollback/modes.pointers", laid_scrollback_modes_pointers), ("scrollback/modes.screens", laid_scrollback_modes_screens), ("scrollback/modes.order", laid_scrollback_modes_order)], narrowed := true }
def ModesHoldsUptoSaid : Prop := modesHoldsUptoRow.holds Tryd.pinned (OpenSpec.upto modesHoldsSpec)

end Rows
end Go.Proofs.YtcmflmmidipckaaDoor
