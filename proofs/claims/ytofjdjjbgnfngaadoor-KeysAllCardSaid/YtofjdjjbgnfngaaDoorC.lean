/- keys: the bytes of any key. -/
import Derived.Test.YtofjdjjbgnfngaaDoorB2
import Derived.Test.YtofjdjjbgnfngaaDoorB3
import Derived.Outline
set_option linter.unusedSimpArgs false
set_option linter.unusedVariables false
set_option linter.unnecessarySimpa false
namespace Go.Proofs.YtofjdjjbgnfngaaDoor
open Go.RowKit

theorem bytes_any (code rune : Int) (sh al ct : Bool) (app nl bk : Bool) (w : World) (ht : Tab w) (hr : -2147483648 ≤ rune ∧ rune ≤ 2147483647) (hv : validK code rune = true) : Calls Tryd.prog 18 #[.agg #[.int .i64 code, .int .i32 rune, .bool sh, .bool al, .bool ct], .agg #[.bool app, .bool nl, .bool bk]] w fun e w' => if bytesI code rune sh ct nl bk = true then BytesE code rune sh al ct app nl bk w e w' else e = .returned (.tuple #[.slice none 0 0, .int .i64 9]) ∧ Below w.heap.size w w' := by
  have hc : 1 ≤ code ∧ code ≤ 27 := by unfold validK at hv; have := of_decide_eq_true hv; omega
  have hcode : code = 1 ∨ code = 2 ∨ code = 3 ∨ code = 4 ∨ code = 5 ∨ code = 6 ∨ code = 7 ∨ code = 8 ∨ code = 9 ∨ code = 10 ∨ code = 11 ∨ code = 12 ∨ code = 13 ∨ code = 14 ∨ code = 15 ∨ code = 16 ∨ code = 17 ∨ code = 18 ∨ code = 19 ∨ code = 20 ∨ code = 21 ∨ code = 22 ∨ code = 23 ∨ code = 24 ∨ code = 25 ∨ code = 26 ∨ code = 27 := by omega
  clear hc
  rcases hcode with rfl | rfl | rfl | rfl | rfl | rfl | rfl | rfl | rfl | rfl | rfl | rfl | rfl | rfl | rfl | rfl | rfl | rfl | rfl | rfl | rfl | rfl | rfl | rfl | rfl | rfl | rfl
  · exact bytes_1 rune sh al ct app nl bk w hr hv
  · exact bytes_2 rune sh al ct app nl bk w hr hv
  · exact bytes_3 rune sh al ct app nl bk w hr hv
  · exact bytes_4 rune sh al ct app nl bk w hr hv
  · exact bytes_5 rune sh al ct app nl bk w hr hv
  · exact (bytes_6 rune sh al ct app nl bk w ht hv).mono fun e w h => h
  · exact (bytes_7 rune sh al ct app nl bk w ht hv).mono fun e w h => h
  · exact (bytes_8 rune sh al ct app nl bk w ht hv).mono fun e w h => h
  · exact (bytes_9 rune sh al ct app nl bk w ht hv).mono fun e w h => h
  · exact (bytes_10 rune sh al ct app nl bk w ht hv).mono fun e w h => h
  · exact (bytes_11 rune sh al ct app nl bk w ht hv).mono fun e w h => h
  · exact (bytes_12 rune sh al ct app nl bk w ht hv).mono fun e w h => h
  · exact (bytes_13 rune sh al ct app nl bk w ht hv).mono fun e w h => h
  · exact (bytes_14 rune sh al ct app nl bk w ht hv).mono fun e w h => h
  · exact (bytes_15 rune sh al ct app nl bk w ht hv).mono fun e w h => h
  · exact (bytes_16 rune sh al ct app nl bk w ht hv).mono fun e w h => h
  · exact (bytes_17 rune sh al ct app nl bk w ht hv).mono fun e w h => h
  · exact (bytes_18 rune sh al ct app nl bk w ht hv).mono fun e w h => h
  · exact (bytes_19 rune sh al ct app nl bk w ht hv).mono fun e w h => h
  · exact (bytes_20 rune sh al ct app nl bk w ht hv).mono fun e w h => h
  · exact (bytes_21 rune sh al ct app nl bk w ht hv).mono fun e w h => h
  · exact (bytes_22 rune sh al ct app nl bk w ht hv).mono fun e w h => h
  · exact (bytes_23 rune sh al ct app nl bk w ht hv).mono fun e w h => h
  · exact (bytes_24 rune sh al ct app nl bk w ht hv).mono fun e w h => h
  · exact (bytes_25 rune sh al ct app nl bk w ht hv).mono fun e w h => h
  · exact (bytes_26 rune sh al ct app nl bk w ht hv).mono fun e w h => h
  · exact (bytes_27 rune sh al ct app nl bk w ht hv).mono fun e w h => h

end Go.Proofs.YtofjdjjbgnfngaaDoor
