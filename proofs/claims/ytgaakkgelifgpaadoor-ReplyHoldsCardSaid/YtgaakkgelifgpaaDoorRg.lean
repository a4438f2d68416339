/- reply: the examples of the chapter. -/
import Derived.Test.YtgaakkgelifgpaaDoorRf
import Derived.Test.YtgaakkgelifgpaaDoorLate3
import Derived.Outline
set_option linter.unusedSimpArgs false
set_option linter.unusedVariables false
set_option linter.unnecessarySimpa false
namespace Go.Proofs.YtgaakkgelifgpaaDoor
open Go.RowKit

theorem dstep (n : Nat) (h : ¬ n < 10) : Lib.decDigits n = Lib.decDigits (n / 10) ++ [UInt8.ofNat (48 + n % 10)] := by rw [Lib.decDigits, dif_neg h]
theorem n80 : numS 80 = ⟨#[56, 48]⟩ := by unfold numS; rw [show (80 : Int) = ((80 : Nat) : Int) from rfl, Lib.itoa_nonneg, dstep _ (by omega), Lib.decDigits_one (by omega)]; rfl
theorem n25 : numS 25 = ⟨#[50, 53]⟩ := by unfold numS; rw [show (25 : Int) = ((25 : Nat) : Int) from rfl, Lib.itoa_nonneg, dstep _ (by omega), Lib.decDigits_one (by omega)]; rfl
theorem n9999 : numS 9999 = ⟨#[57, 57, 57, 57]⟩ := by unfold numS; rw [show (9999 : Int) = ((9999 : Nat) : Int) from rfl, Lib.itoa_nonneg, dstep _ (by omega), dstep _ (by omega), dstep _ (by omega), Lib.decDigits_one (by omega)]; rfl
theorem n0 : numS 0 = ⟨#[48]⟩ := numS_dig 0 (by omega)
theorem n1 : numS 1 = ⟨#[49]⟩ := numS_dig 1 (by omega)
theorem n2 : numS 2 = ⟨#[50]⟩ := numS_dig 2 (by omega)
theorem n4 : numS 4 = ⟨#[52]⟩ := numS_dig 4 (by omega)
theorem n5 : numS 5 = ⟨#[53]⟩ := numS_dig 5 (by omega)
theorem n7 : numS 7 = ⟨#[55]⟩ := numS_dig 7 (by omega)
theorem pos_5_80 : posS 5 80 = ⟨#[27, 91, 53, 59, 56, 48, 82]⟩ := by unfold posS; rw [n5, n80]; decide +kernel
theorem pos_1_80 : posS 1 80 = ⟨#[27, 91, 49, 59, 56, 48, 82]⟩ := by unfold posS; rw [n1, n80]; decide +kernel
theorem pos_1_1 : posS 1 1 = ⟨#[27, 91, 49, 59, 49, 82]⟩ := by unfold posS; rw [n1]; decide +kernel
theorem pos_2_1 : posS 2 1 = ⟨#[27, 91, 50, 59, 49, 82]⟩ := by unfold posS; rw [n1, n2]; decide +kernel
theorem ks0 (w : World) (ht : Tab w) : Calls Tryd.prog 9 #[.int .i64 5, .agg #[.int .i64 24, .int .i64 80, .int .i64 4, .int .i64 9, .bool false], .agg #[.int .i64 0, .int .i64 0, .bool false], .string ⟨#[27, 91, 48, 110]⟩, .int .i64 0] w fun e w' => e = .returned (.bool true) ∧ Below w.heap.size w w' := states_t 5 24 80 4 9 false 0 0 false ⟨#[27, 91, 48, 110]⟩ 0 w ht rfl (by decide)
theorem ks1 (w : World) (ht : Tab w) : Calls Tryd.prog 9 #[.int .i64 6, .agg #[.int .i64 24, .int .i64 80, .int .i64 4, .int .i64 9, .bool false], .agg #[.int .i64 4, .int .i64 79, .bool false], .string ⟨#[27, 91, 53, 59, 56, 48, 82]⟩, .int .i64 0] w fun e w' => e = .returned (.bool true) ∧ Below w.heap.size w w' := states_t 6 24 80 4 9 false 4 79 false ⟨#[27, 91, 53, 59, 56, 48, 82]⟩ 0 w ht ((if_neg (by decide)).trans ((if_pos (by decide)).trans ((if_pos (by decide)).trans pos_5_80))) (by decide)
theorem ks2 (w : World) (ht : Tab w) : Calls Tryd.prog 9 #[.int .i64 6, .agg #[.int .i64 24, .int .i64 80, .int .i64 4, .int .i64 9, .bool true], .agg #[.int .i64 4, .int .i64 79, .bool false], .string ⟨#[27, 91, 49, 59, 56, 48, 82]⟩, .int .i64 0] w fun e w' => e = .returned (.bool true) ∧ Below w.heap.size w w' := states_t 6 24 80 4 9 true 4 79 false ⟨#[27, 91, 49, 59, 56, 48, 82]⟩ 0 w ht ((if_neg (by decide)).trans ((if_pos (by decide)).trans ((if_pos (by decide)).trans pos_1_80))) (by decide)
theorem ks3 (w : World) (ht : Tab w) : Calls Tryd.prog 9 #[.int .i64 6, .agg #[.int .i64 24, .int .i64 80, .int .i64 4, .int .i64 9, .bool true], .agg #[.int .i64 0, .int .i64 0, .bool false], .string ⟨#[27, 91, 49, 59, 49, 82]⟩, .int .i64 0] w fun e w' => e = .returned (.bool true) ∧ Below w.heap.size w w' := states_t 6 24 80 4 9 true 0 0 false ⟨#[27, 91, 49, 59, 49, 82]⟩ 0 w ht ((if_neg (by decide)).trans ((if_pos (by decide)).trans ((if_pos (by decide)).trans pos_1_1))) (by decide)
theorem ks4 (w : World) (ht : Tab w) : Calls Tryd.prog 9 #[.int .i64 7, .agg #[.int .i64 24, .int .i64 80, .int .i64 4, .int .i64 9, .bool false], .agg #[.int .i64 0, .int .i64 0, .bool false], .string ⟨#[]⟩, .int .i64 9] w fun e w' => e = .returned (.bool true) ∧ Below w.heap.size w w' := states_t 7 24 80 4 9 false 0 0 false ⟨#[]⟩ 9 w ht rfl (by decide)
theorem ks5 (w : World) (ht : Tab w) : Calls Tryd.prog 9 #[.int .i64 6, .agg #[.int .i64 24, .int .i64 80, .int .i64 4, .int .i64 9, .bool false], .agg #[.int .i64 24, .int .i64 0, .bool false], .string ⟨#[]⟩, .int .i64 2] w fun e w' => e = .returned (.bool true) ∧ Below w.heap.size w w' := states_t 6 24 80 4 9 false 24 0 false ⟨#[]⟩ 2 w ht ((if_neg (by decide)).trans ((if_pos (by decide)).trans (if_neg (by decide)))) (by decide)
theorem kt0 (w : World) (hg : Glob w) (ht : Tab w) : Calls Tryd.prog 12 #[.agg #[.bool true, .bool false, .bool false, .bool true, .bool false, .bool false, .bool false, .int .i64 0, .int .i64 0], .int .i32 63, .int .i64 7, .string ⟨#[27, 91, 63, 55, 59, 49, 36, 121]⟩, .int .i64 0] w fun e w' => e = .returned (.bool true) ∧ Below w.heap.size w w' := tells_t ⟨true, false, false, true, false, false, false, 0, 0⟩ 63 7 ⟨#[27, 91, 63, 55, 59, 49, 36, 121]⟩ 0 w hg ht (by rw [modeS, if_pos (by decide), show getR ⟨true, false, false, true, false, false, false, 0, 0⟩ 63 7 = 1 from by decide, modeT, n7, n1]; decide +kernel) (by decide)
theorem kt1 (w : World) (hg : Glob w) (ht : Tab w) : Calls Tryd.prog 12 #[.agg #[.bool true, .bool false, .bool false, .bool true, .bool false, .bool false, .bool false, .int .i64 0, .int .i64 0], .int .i32 0, .int .i64 4, .string ⟨#[27, 91, 52, 59, 50, 36, 121]⟩, .int .i64 0] w fun e w' => e = .returned (.bool true) ∧ Below w.heap.size w w' := tells_t ⟨true, false, false, true, false, false, false, 0, 0⟩ 0 4 ⟨#[27, 91, 52, 59, 50, 36, 121]⟩ 0 w hg ht (by rw [modeS, if_pos (by decide), show getR ⟨true, false, false, true, false, false, false, 0, 0⟩ 0 4 = 2 from by decide, modeT, n4, n2]; decide +kernel) (by decide)
theorem kt2 (w : World) (hg : Glob w) (ht : Tab w) : Calls Tryd.prog 12 #[.agg #[.bool true, .bool false, .bool false, .bool true, .bool false, .bool false, .bool false, .int .i64 0, .int .i64 0], .int .i32 63, .int .i64 9999, .string ⟨#[27, 91, 63, 57, 57, 57, 57, 59, 48, 36, 121]⟩, .int .i64 0] w fun e w' => e = .returned (.bool true) ∧ Below w.heap.size w w' := tells_t ⟨true, false, false, true, false, false, false, 0, 0⟩ 63 9999 ⟨#[27, 91, 63, 57, 57, 57, 57, 59, 48, 36, 121]⟩ 0 w hg ht (by rw [modeS, if_pos (by decide), show getR ⟨true, false, false, true, false, false, false, 0, 0⟩ 63 9999 = 0 from by decide, modeT, n9999, n0]; decide +kernel) (by decide)
theorem kt3 (w : World) (hg : Glob w) (ht : Tab w) : Calls Tryd.prog 12 #[.agg #[.bool true, .bool false, .bool false, .bool true, .bool false, .bool false, .bool false, .int .i64 0, .int .i64 0], .int .i32 62, .int .i64 4, .string ⟨#[]⟩, .int .i64 2] w fun e w' => e = .returned (.bool true) ∧ Below w.heap.size w w' := tells_t ⟨true, false, false, true, false, false, false, 0, 0⟩ 62 4 ⟨#[]⟩ 2 w hg ht (by rw [modeS, if_neg (by decide)]) (by decide)
theorem kt4 (w : World) (hg : Glob w) (ht : Tab w) : Calls Tryd.prog 12 #[.agg #[.bool true, .bool false, .bool false, .bool true, .bool false, .bool false, .bool false, .int .i64 0, .int .i64 0], .int .i32 63, .int .i64 10000, .string ⟨#[]⟩, .int .i64 2] w fun e w' => e = .returned (.bool true) ∧ Below w.heap.size w w' := tells_t ⟨true, false, false, true, false, false, false, 0, 0⟩ 63 10000 ⟨#[]⟩ 2 w hg ht (by rw [modeS, if_neg (by decide)]) (by decide)
theorem ka0 (v : Value) (w : World) (hg : Glob w) (ht : Tab w) (hv : Rd w .i64 v []) : Calls Tryd.prog 26 #[.agg #[.int .i64 4, .int .i32 99, .int .i32 0, .string ⟨#[]⟩, v, .string ⟨#[]⟩], .agg #[.int .i64 24, .int .i64 80, .int .i64 4, .int .i64 9, .bool false], .agg #[.int .i64 0, .int .i64 0, .bool false], .agg #[.bool true, .bool false, .bool false, .bool true, .bool false, .bool false, .bool false, .int .i64 0, .int .i64 0], .string ⟨#[27, 91, 63, 54, 50, 59, 50, 50, 99]⟩, .int .i64 0] w fun e w' => e = .returned (.bool true) ∧ Below w.heap.size w w' := answers_t 4 99 0 ⟨#[]⟩ ⟨#[]⟩ v [] 24 80 4 9 false 0 0 false ⟨true, false, false, true, false, false, false, 0, 0⟩ ⟨#[27, 91, 63, 54, 50, 59, 50, 50, 99]⟩ 0 w hv (by simp) (by decide) hg ht (by rw [ansP, if_neg (by decide), if_neg (by decide), if_pos (show ((⟨#[]⟩ : ByteArray) ++ Utf8.encode 99).toList = [99] from by decide +kernel), if_pos (by decide)]; rfl)
theorem ka1 (v : Value) (w : World) (hg : Glob w) (ht : Tab w) (hv : Rd w .i64 v [1]) : Calls Tryd.prog 26 #[.agg #[.int .i64 4, .int .i32 99, .int .i32 0, .string ⟨#[]⟩, v, .string ⟨#[]⟩], .agg #[.int .i64 24, .int .i64 80, .int .i64 4, .int .i64 9, .bool false], .agg #[.int .i64 0, .int .i64 0, .bool false], .agg #[.bool true, .bool false, .bool false, .bool true, .bool false, .bool false, .bool false, .int .i64 0, .int .i64 0], .string ⟨#[]⟩, .int .i64 0] w fun e w' => e = .returned (.bool true) ∧ Below w.heap.size w w' := answers_t 4 99 0 ⟨#[]⟩ ⟨#[]⟩ v [1] 24 80 4 9 false 0 0 false ⟨true, false, false, true, false, false, false, 0, 0⟩ ⟨#[]⟩ 0 w hv (by simp) (by decide) hg ht (by rw [ansP, if_neg (by decide), if_neg (by decide), if_pos (show ((⟨#[]⟩ : ByteArray) ++ Utf8.encode 99).toList = [99] from by decide +kernel), if_neg (by decide)])
theorem ka2 (v : Value) (w : World) (hg : Glob w) (ht : Tab w) (hv : Rd w .i64 v [6]) : Calls Tryd.prog 26 #[.agg #[.int .i64 4, .int .i32 110, .int .i32 0, .string ⟨#[]⟩, v, .string ⟨#[]⟩], .agg #[.int .i64 24, .int .i64 80, .int .i64 4, .int .i64 9, .bool true], .agg #[.int .i64 5, .int .i64 0, .bool false], .agg #[.bool true, .bool false, .bool false, .bool true, .bool false, .bool false, .bool false, .int .i64 0, .int .i64 0], .string ⟨#[27, 91, 50, 59, 49, 82]⟩, .int .i64 0] w fun e w' => e = .returned (.bool true) ∧ Below w.heap.size w w' := answers_t 4 110 0 ⟨#[]⟩ ⟨#[]⟩ v [6] 24 80 4 9 true 5 0 false ⟨true, false, false, true, false, false, false, 0, 0⟩ ⟨#[27, 91, 50, 59, 49, 82]⟩ 0 w hv (by simp) (by decide) hg ht (by rw [ansP, if_neg (by decide), if_neg (by decide), if_neg (by rw [show ((⟨#[]⟩ : ByteArray) ++ Utf8.encode 110).toList = [110] from by decide +kernel]; decide), if_pos (show ((⟨#[]⟩ : ByteArray) ++ Utf8.encode 110).toList = [110] from by decide +kernel), if_pos (by decide)]; refine Prod.ext ?_ (by decide); show statS 6 24 80 4 9 true 5 0 false = _; exact (if_neg (by decide)).trans ((if_pos (by decide)).trans ((if_pos (by decide)).trans pos_2_1)))
theorem ka3 (v : Value) (w : World) (hg : Glob w) (ht : Tab w) (hv : Rd w .i64 v []) : Calls Tryd.prog 26 #[.agg #[.int .i64 4, .int .i32 110, .int .i32 0, .string ⟨#[]⟩, v, .string ⟨#[]⟩], .agg #[.int .i64 24, .int .i64 80, .int .i64 4, .int .i64 9, .bool false], .agg #[.int .i64 0, .int .i64 0, .bool false], .agg #[.bool true, .bool false, .bool false, .bool true, .bool false, .bool false, .bool false, .int .i64 0, .int .i64 0], .string ⟨#[]⟩, .int .i64 0] w fun e w' => e = .returned (.bool true) ∧ Below w.heap.size w w' := answers_t 4 110 0 ⟨#[]⟩ ⟨#[]⟩ v [] 24 80 4 9 false 0 0 false ⟨true, false, false, true, false, false, false, 0, 0⟩ ⟨#[]⟩ 0 w hv (by simp) (by decide) hg ht (by rw [ansP, if_neg (by decide), if_neg (by decide), if_neg (by rw [show ((⟨#[]⟩ : ByteArray) ++ Utf8.encode 110).toList = [110] from by decide +kernel]; decide), if_pos (show ((⟨#[]⟩ : ByteArray) ++ Utf8.encode 110).toList = [110] from by decide +kernel), if_neg (by decide)])
theorem ka4 (v : Value) (w : World) (hg : Glob w) (ht : Tab w) (hv : Rd w .i64 v [25]) : Calls Tryd.prog 26 #[.agg #[.int .i64 4, .int .i32 112, .int .i32 63, .string ⟨#[36]⟩, v, .string ⟨#[]⟩], .agg #[.int .i64 24, .int .i64 80, .int .i64 4, .int .i64 9, .bool false], .agg #[.int .i64 0, .int .i64 0, .bool false], .agg #[.bool true, .bool false, .bool false, .bool true, .bool false, .bool false, .bool false, .int .i64 0, .int .i64 0], .string ⟨#[27, 91, 63, 50, 53, 59, 49, 36, 121]⟩, .int .i64 0] w fun e w' => e = .returned (.bool true) ∧ Below w.heap.size w w' := answers_t 4 112 63 ⟨#[36]⟩ ⟨#[]⟩ v [25] 24 80 4 9 false 0 0 false ⟨true, false, false, true, false, false, false, 0, 0⟩ ⟨#[27, 91, 63, 50, 53, 59, 49, 36, 121]⟩ 0 w hv (by simp) (by decide) hg ht (by rw [ansP, if_neg (by decide), if_neg (by decide), if_neg (by rw [show ((⟨#[36]⟩ : ByteArray) ++ Utf8.encode 112).toList = [36, 112] from by decide +kernel]; decide), if_neg (by rw [show ((⟨#[36]⟩ : ByteArray) ++ Utf8.encode 112).toList = [36, 112] from by decide +kernel]; decide), if_pos (show ((⟨#[36]⟩ : ByteArray) ++ Utf8.encode 112).toList = [36, 112] from by decide +kernel), if_pos (by decide)]; refine Prod.ext ?_ (by decide); show modeS ⟨true, false, false, true, false, false, false, 0, 0⟩ 63 25 = _; rw [modeS, if_pos (by decide), show getR ⟨true, false, false, true, false, false, false, 0, 0⟩ 63 25 = 1 from by decide, modeT, n25, n1]; decide +kernel)
theorem ka5 (v : Value) (w : World) (hg : Glob w) (ht : Tab w) (hv : Rd w .i64 v []) : Calls Tryd.prog 26 #[.agg #[.int .i64 3, .int .i32 90, .int .i32 0, .string ⟨#[]⟩, v, .string ⟨#[]⟩], .agg #[.int .i64 24, .int .i64 80, .int .i64 4, .int .i64 9, .bool false], .agg #[.int .i64 0, .int .i64 0, .bool false], .agg #[.bool true, .bool false, .bool false, .bool true, .bool false, .bool false, .bool false, .int .i64 0, .int .i64 0], .string ⟨#[27, 91, 63, 54, 50, 59, 50, 50, 99]⟩, .int .i64 0] w fun e w' => e = .returned (.bool true) ∧ Below w.heap.size w w' := answers_t 3 90 0 ⟨#[]⟩ ⟨#[]⟩ v [] 24 80 4 9 false 0 0 false ⟨true, false, false, true, false, false, false, 0, 0⟩ ⟨#[27, 91, 63, 54, 50, 59, 50, 50, 99]⟩ 0 w hv (by simp) (by decide) hg ht (by rw [ansP, if_pos rfl, if_pos ⟨by decide +kernel, rfl⟩]; rfl)
theorem ka6 (v : Value) (w : World) (hg : Glob w) (ht : Tab w) (hv : Rd w .i64 v []) : Calls Tryd.prog 26 #[.agg #[.int .i64 1, .int .i32 97, .int .i32 0, .string ⟨#[]⟩, v, .string ⟨#[]⟩], .agg #[.int .i64 24, .int .i64 80, .int .i64 4, .int .i64 9, .bool false], .agg #[.int .i64 0, .int .i64 0, .bool false], .agg #[.bool true, .bool false, .bool false, .bool true, .bool false, .bool false, .bool false, .int .i64 0, .int .i64 0], .string ⟨#[]⟩, .int .i64 0] w fun e w' => e = .returned (.bool true) ∧ Below w.heap.size w w' := answers_t 1 97 0 ⟨#[]⟩ ⟨#[]⟩ v [] 24 80 4 9 false 0 0 false ⟨true, false, false, true, false, false, false, 0, 0⟩ ⟨#[]⟩ 0 w hv (by simp) (by decide) hg ht (by rw [ansP, if_neg (by decide), if_pos (by decide)])

set_option maxRecDepth 100000 in
set_option maxHeartbeats 4000000 in
theorem known_any (w : World) (hG : Glob w) (hT : Tab w) : Calls Tryd.prog 10 #[] w fun e w' => e = .returned (.bool true) ∧ Below w.heap.size w w' := by
  have e0 : ∀ w1, Below w.heap.size w w1 → Box w1 w.heap.size #[.int .i64 24, .int .i64 80, .int .i64 4, .int .i64 9, .bool false] 25 → True := fun _ _ _ => trivial
  go_enter Tryd.func10, Tryd.ntmps10
  go_wp2_with (first | (go_at_call 24; (with_reducible refine (new_any _).mono ?_); rintro e w1 ⟨rfl, hb1⟩; have hl1 : Below w.heap.size w w1 := bl_trans (by repeat (first | with_reducible exact Below.refl _ _ | with_reducible assumption | with_reducible exact GW.grow _ | with_reducible refine bl_alloc ?_ _ | with_reducible refine Below.drew ?_ | (with_reducible refine Below.setCell ?_ ?_ _; rotate_left; focus (simp; first | done | omega)) | with_reducible refine bl_trans ?_ (GW.grow _) | (with_reducible refine bl_trans ?_ (by assumption)))) hb1; have xA1 : Box w1 w.heap.size #[.int .i64 24, .int .i64 80, .int .i64 4, .int .i64 9, .bool false] 25 := (hb1.block _ (by simp <;> omega)).trans (by first | with_reducible assumption | (apply Box.as; (focus (repeat (first | with_reducible assumption | (with_reducible apply Box.new; simp; done) | with_reducible apply Box.gw | with_reducible apply Box.drew | with_reducible apply Box.alloc | with_reducible apply Box.set | (with_reducible apply Box.set_other; case hg => omega)))); rfl)); have xO1 : Box w1 (w.heap.size + 1) #[.int .i64 24, .int .i64 80, .int .i64 4, .int .i64 9, .bool true] 25 := (hb1.block _ (by simp <;> omega)).trans (by first | with_reducible assumption | (apply Box.as; (focus (repeat (first | with_reducible assumption | (with_reducible apply Box.new; simp; done) | with_reducible apply Box.gw | with_reducible apply Box.drew | with_reducible apply Box.alloc | with_reducible apply Box.set | (with_reducible apply Box.set_other; case hg => omega)))); rfl)); clear hb1 e0))
  have hl0 : Below w.heap.size w (w1.alloc (.cells #[.bool true, .bool false, .bool false, .bool true, .bool false, .bool false, .bool false, .int .i64 0, .int .i64 0] 38)) := bl_alloc hl1 _
  have hG0 := hG.below hl0
  have hT0 := hT.below hl0
  have xA0 : Box (w1.alloc (.cells #[.bool true, .bool false, .bool false, .bool true, .bool false, .bool false, .bool false, .int .i64 0, .int .i64 0] 38)) _ _ _ := xA1.alloc _
  have xO0 : Box (w1.alloc (.cells #[.bool true, .bool false, .bool false, .bool true, .bool false, .bool false, .bool false, .int .i64 0, .int .i64 0] 38)) _ _ _ := xO1.alloc _
  have xM0 : Box (w1.alloc (.cells #[.bool true, .bool false, .bool false, .bool true, .bool false, .bool false, .bool false, .int .i64 0, .int .i64 0] 38)) w1.heap.size #[.bool true, .bool false, .bool false, .bool true, .bool false, .bool false, .bool false, .int .i64 0, .int .i64 0] 38 := Box.new _ _ _ rfl
  generalize w1.alloc (.cells #[.bool true, .bool false, .bool false, .bool true, .bool false, .bool false, .bool false, .int .i64 0, .int .i64 0] 38) = W0 at *
  obtain ⟨b0, hb0⟩ : ∃ b0, w1.heap.size = b0 := ⟨_, rfl⟩
  rw [hb0] at xM0 ⊢
  clear hb0 hl1 xA1 xO1
  have cA := xA0.cell
  have cO := xO0.cell
  have cM := xM0.cell
  have lA := xA0.lt
  have lO := xO0.lt
  have lM := xM0.lt
  first | refine wp_grow2 (by kernel_rfl) (by kernel_rfl) ?_ | refine wp_grow (by kernel_rfl) (by kernel_rfl) ?_
  repeat (go_big_quiet_step (first | (go_at_call 7; with_reducible exact GW.call (asks_t 0 ⟨#[27, 91, 63, 54, 50, 59, 50, 50, 99]⟩ 0 _ (by decide) (by decide))) | (go_at_call 7; with_reducible exact GW.call (asks_t 62 ⟨#[27, 91, 62, 49, 59, 49, 48, 59, 48, 99]⟩ 0 _ (by decide) (by decide))) | (go_at_call 7; with_reducible exact GW.call (asks_t 61 ⟨#[]⟩ 9 _ (by decide) (by decide))) | (go_at_call 25; with_reducible exact GW.call (at_any _ _ _)) | (go_at_call 9; with_reducible exact GW.call (ks0 _ (hT0.below (GW.grow _)))) | (go_at_call 9; with_reducible exact GW.call (ks1 _ (hT0.below (GW.grow _)))) | (go_at_call 9; with_reducible exact GW.call (ks2 _ (hT0.below (GW.grow _)))) | (go_at_call 9; with_reducible exact GW.call (ks3 _ (hT0.below (GW.grow _)))) | (go_at_call 9; with_reducible exact GW.call (ks4 _ (hT0.below (GW.grow _)))) | (go_at_call 9; with_reducible exact GW.call (ks5 _ (hT0.below (GW.grow _))))))
  refine wpQuiet_nil ?_
  rintro _ ⟨X, rfl⟩
  go_wp2_with (first | (go_at_call 12; (with_reducible refine (kt0 _ (hG0.below (GW.grow _)) (hT0.below (GW.grow _))).mono ?_); rintro e w9 ⟨rfl, hb⟩; obtain ⟨X, rfl⟩ := GW.of2 hb; clear hb) | (go_at_call 12; (with_reducible refine (kt1 _ (hG0.below (GW.grow _)) (hT0.below (GW.grow _))).mono ?_); rintro e w9 ⟨rfl, hb⟩; obtain ⟨X, rfl⟩ := GW.of2 hb; clear hb) | (go_at_call 12; (with_reducible refine (kt2 _ (hG0.below (GW.grow _)) (hT0.below (GW.grow _))).mono ?_); rintro e w9 ⟨rfl, hb⟩; obtain ⟨X, rfl⟩ := GW.of2 hb; clear hb) | (go_at_call 12; (with_reducible refine (kt3 _ (hG0.below (GW.grow _)) (hT0.below (GW.grow _))).mono ?_); rintro e w9 ⟨rfl, hb⟩; obtain ⟨X, rfl⟩ := GW.of2 hb; clear hb) | (go_at_call 12; (with_reducible refine (kt4 _ (hG0.below (GW.grow _)) (hT0.below (GW.grow _))).mono ?_); rintro e w9 ⟨rfl, hb⟩; obtain ⟨X, rfl⟩ := GW.of2 hb; clear hb))
  obtain ⟨W', hW'⟩ : ∃ W', X.world = W' := ⟨_, rfl⟩
  have hl4 : Below w.heap.size w W' := hW' ▸ bl_trans hl0 X.grow
  have xA4 : Box W' _ _ _ := hW' ▸ Box.gw xA0
  have xO4 : Box W' _ _ _ := hW' ▸ Box.gw xO0
  have xM4 : Box W' _ _ _ := hW' ▸ Box.gw xM0
  rw [hW']
  clear hW' X cA cO cM lA lO lM hl0 hG0 hT0 xA0 xO0 xM0
  obtain ⟨W0, hl0, hG0, hT0, xA0, xO0, xM0, he⟩ : ∃ W0, Below w.heap.size w W0 ∧ Glob W0 ∧ Tab W0 ∧ Box W0 _ _ _ ∧ Box W0 _ _ _ ∧ Box W0 _ _ _ ∧ W'.drew = W0 := ⟨W'.drew, hl4.drew, hG.below hl4.drew, hT.below hl4.drew, Box.drew xA4, Box.drew xO4, Box.drew xM4, rfl⟩
  have cA := xA0.cell
  have cO := xO0.cell
  have cM := xM0.cell
  have lA := xA0.lt
  have lO := xO0.lt
  have lM := xM0.lt
  refine wp_region_V Gr (by kernel_rfl) ?_
  rw [he]
  clear he hl4 xA4 xO4 xM4
  refine wpAnyV_takeG (A := ?A0) 0 rfl (by kernel_rfl) (by kernel_rfl) (by kernel_rfl) (fun _ _ _ _ h => h) ?q0 ?r0
  case q0 =>
    intro Y
    try simp only [List.getElem_toArray, List.getElem_cons_zero, List.getElem_cons_succ]
    go_big_quiet_step (first | (go_at_call 27; with_reducible exact GW.call (control_any _ _ _ _ _ _ _)) | (go_at_call 25; with_reducible exact GW.call (at_any _ _ _)))
    refine wpQuiet_nil ?_
    rfl
  refine wpAnyV_takeG (A := ?A1) 1 rfl (by kernel_rfl) (by kernel_rfl) (by kernel_rfl) (fun _ _ _ _ h => h) ?q1 ?r1
  case q1 =>
    intro Y
    try simp only [List.getElem_toArray, List.getElem_cons_zero, List.getElem_cons_succ]
    go_big_quiet_step (first | (go_at_call 27; with_reducible exact GW.call (control_any _ _ _ _ _ _ _)) | (go_at_call 25; with_reducible exact GW.call (at_any _ _ _)))
    refine wpQuiet_nil ?_
    rfl
  refine wpAnyV_takeG (A := ?A2) 2 rfl (by kernel_rfl) (by kernel_rfl) (by kernel_rfl) (fun _ _ _ _ h => h) ?q2 ?r2
  case q2 =>
    intro Y
    try simp only [List.getElem_toArray, List.getElem_cons_zero, List.getElem_cons_succ]
    go_big_quiet_step (first | (go_at_call 27; with_reducible exact GW.call (control_any _ _ _ _ _ _ _)) | (go_at_call 25; with_reducible exact GW.call (at_any _ _ _)))
    refine wpQuiet_nil ?_
    rfl
  refine wpAnyV_takeG (A := ?A3) 3 rfl (by kernel_rfl) (by kernel_rfl) (by kernel_rfl) (fun _ _ _ _ h => h) ?q3 ?r3
  case q3 =>
    intro Y
    try simp only [List.getElem_toArray, List.getElem_cons_zero, List.getElem_cons_succ]
    go_big_quiet_step (first | (go_at_call 27; with_reducible exact GW.call (control_any _ _ _ _ _ _ _)) | (go_at_call 25; with_reducible exact GW.call (at_any _ _ _)))
    refine wpQuiet_nil ?_
    rfl
  refine wpAnyV_takeG (A := ?A4) 4 rfl (by kernel_rfl) (by kernel_rfl) (by kernel_rfl) (fun _ _ _ _ h => h) ?q4 ?r4
  case q4 =>
    intro Y
    try simp only [List.getElem_toArray, List.getElem_cons_zero, List.getElem_cons_succ]
    go_big_quiet_step ((go_at_call 26; with_reducible exact GW.call (ka0 _ _ ((hG0.below Y.grow).below (GW.grow _)) ((hT0.below Y.grow).below (GW.grow _)) (Rd.nil _ _))))
    refine wpQuiet_nil ?_
    rfl
  refine wpAnyV_takeG (A := ?A5) 5 rfl (by kernel_rfl) (by kernel_rfl) (by kernel_rfl) (fun _ _ _ _ h => h) ?q5 ?r5
  case q5 =>
    intro Y
    try simp only [List.getElem_toArray, List.getElem_cons_zero, List.getElem_cons_succ]
    go_big_quiet_step (fail)
    refine wpQuiet_nil ?_
    rfl
  refine wpAnyV_takeG (A := ?A6) 6 rfl (by kernel_rfl) (by kernel_rfl) (by kernel_rfl) (fun _ _ _ _ h => h) ?q6 ?r6
  case q6 =>
    intro Y
    try simp only [List.getElem_toArray, List.getElem_cons_zero, List.getElem_cons_succ]
    go_big_quiet_step (fail)
    refine wpQuiet_nil ?_
    rfl
  refine wpAnyV_takeG (A := ?A9) 9 rfl (by kernel_rfl) (by kernel_rfl) (by kernel_rfl) (fun _ _ _ _ h => h) ?q9 ?r9
  case q9 =>
    intro Y
    try simp only [List.getElem_toArray, List.getElem_cons_zero, List.getElem_cons_succ]
    go_big_quiet_step (fail)
    refine wpQuiet_nil ?_
    rfl
  refine wpAnyV_takeG (A := ?A11) 11 rfl (by kernel_rfl) (by kernel_rfl) (by kernel_rfl) (fun _ _ _ _ h => h) ?q11 ?r11
  case q11 =>
    intro Y
    try simp only [List.getElem_toArray, List.getElem_cons_zero, List.getElem_cons_succ]
    go_big_quiet_step (fail)
    refine wpQuiet_nil ?_
    rfl
  refine wpAnyV_one 7 (by kernel_rfl) ?_
  intro W hW
  obtain ⟨X, rfl⟩ := GW.of hW
  refine wpOp_step rfl (fun K hK => ?_)
  go_simp
  refine hK _ _ ⟨bl_alloc (Below.refl _ _) _, ?_⟩
  clear hK K hW
  try simp only [Act.put, List.getElem_toArray, List.getElem_cons_zero, List.getElem_cons_succ, List.setIfInBounds_toArray, List.set_cons_zero, List.set_cons_succ]
  have hl1 : Below w.heap.size w (X.world.alloc (.cells #[.int .i64 1] 3)) := bl_alloc (bl_trans hl0 X.grow) _
  have hG1 := hG.below hl1
  have hT1 := hT.below hl1
  have xA1 : Box (X.world.alloc (.cells #[.int .i64 1] 3)) _ _ _ := (Box.gw xA0).alloc _
  have xO1 : Box (X.world.alloc (.cells #[.int .i64 1] 3)) _ _ _ := (Box.gw xO0).alloc _
  have xM1 : Box (X.world.alloc (.cells #[.int .i64 1] 3)) _ _ _ := (Box.gw xM0).alloc _
  have hr1 := Rd.lit1 X.world 3 .i64 1 X.world.heap.size rfl
  generalize X.world.alloc (.cells #[.int .i64 1] 3) = W1 at *
  obtain ⟨b1, hb1⟩ : ∃ b1, X.world.heap.size = b1 := ⟨_, rfl⟩
  rw [hb1] at hr1 ⊢
  clear hb1 X xA0 xO0 xM0 cA cO cM lA lO lM hl0 hG0 hT0 
  have cA := xA1.cell
  have cO := xO1.cell
  have cM := xM1.cell
  have lA := xA1.lt
  have lO := xO1.lt
  have lM := xM1.lt
  refine wpAnyV_takeG (A := ?A8) 8 rfl (by kernel_rfl) (by kernel_rfl) (by kernel_rfl) (fun _ _ _ _ h => h) ?q8 ?r8
  case q8 =>
    intro Y
    try simp only [List.getElem_toArray, List.getElem_cons_zero, List.getElem_cons_succ]
    go_big_quiet_step ((go_at_call 27; with_reducible exact GW.call (control_any _ _ _ _ _ _ _)))
    refine wpQuiet_nil ?_
    rfl
  refine wpAnyV_takeG (A := ?A10) 10 rfl (by kernel_rfl) (by kernel_rfl) (by kernel_rfl) (fun _ _ _ _ h => h) ?q10 ?r10
  case q10 =>
    intro Y
    try simp only [List.getElem_toArray, List.getElem_cons_zero, List.getElem_cons_succ]
    go_big_quiet_step ((go_at_call 25; with_reducible exact GW.call (at_any _ _ _)))
    refine wpQuiet_nil ?_
    rfl
  refine wpAnyV_takeG (A := ?A12) 12 rfl (by kernel_rfl) (by kernel_rfl) (by kernel_rfl) (fun _ _ _ _ h => h) ?q12 ?r12
  case q12 =>
    intro Y
    try simp only [List.getElem_toArray, List.getElem_cons_zero, List.getElem_cons_succ]
    go_big_quiet_step ((go_at_call 26; with_reducible exact GW.call (ka1 _ _ ((hG1.below Y.grow).below (GW.grow _)) ((hT1.below Y.grow).below (GW.grow _)) ((hr1.below Y.grow).below (GW.grow _)))))
    refine wpQuiet_nil ?_
    rfl
  refine wpAnyV_takeG (A := ?A13) 13 rfl (by kernel_rfl) (by kernel_rfl) (by kernel_rfl) (fun _ _ _ _ h => h) ?q13 ?r13
  case q13 =>
    intro Y
    try simp only [List.getElem_toArray, List.getElem_cons_zero, List.getElem_cons_succ]
    go_big_quiet_step (fail)
    refine wpQuiet_nil ?_
    rfl
  refine wpAnyV_takeG (A := ?A14) 14 rfl (by kernel_rfl) (by kernel_rfl) (by kernel_rfl) (fun _ _ _ _ h => h) ?q14 ?r14
  case q14 =>
    intro Y
    try simp only [List.getElem_toArray, List.getElem_cons_zero, List.getElem_cons_succ]
    go_big_quiet_step (fail)
    refine wpQuiet_nil ?_
    rfl
  refine wpAnyV_takeG (A := ?A15) 15 rfl (by kernel_rfl) (by kernel_rfl) (by kernel_rfl) (fun _ _ _ _ h => h) ?q15 ?r15
  case q15 =>
    intro Y
    try simp only [List.getElem_toArray, List.getElem_cons_zero, List.getElem_cons_succ]
    go_big_quiet_step (fail)
    refine wpQuiet_nil ?_
    rfl
  refine wpAnyV_takeG (A := ?A18) 18 rfl (by kernel_rfl) (by kernel_rfl) (by kernel_rfl) (fun _ _ _ _ h => h) ?q18 ?r18
  case q18 =>
    intro Y
    try simp only [List.getElem_toArray, List.getElem_cons_zero, List.getElem_cons_succ]
    go_big_quiet_step (fail)
    refine wpQuiet_nil ?_
    rfl
  refine wpAnyV_takeG (A := ?A20) 20 rfl (by kernel_rfl) (by kernel_rfl) (by kernel_rfl) (fun _ _ _ _ h => h) ?q20 ?r20
  case q20 =>
    intro Y
    try simp only [List.getElem_toArray, List.getElem_cons_zero, List.getElem_cons_succ]
    go_big_quiet_step (fail)
    refine wpQuiet_nil ?_
    rfl
  refine wpAnyV_one 16 (by kernel_rfl) ?_
  intro W hW
  obtain ⟨X, rfl⟩ := GW.of hW
  refine wpOp_step rfl (fun K hK => ?_)
  go_simp
  refine hK _ _ ⟨bl_alloc (Below.refl _ _) _, ?_⟩
  clear hK K hW
  try simp only [Act.put, List.getElem_toArray, List.getElem_cons_zero, List.getElem_cons_succ, List.setIfInBounds_toArray, List.set_cons_zero, List.set_cons_succ]
  have hl2 : Below w.heap.size w (X.world.alloc (.cells #[.int .i64 6] 3)) := bl_alloc (bl_trans hl1 X.grow) _
  have hG2 := hG.below hl2
  have hT2 := hT.below hl2
  have xA2 : Box (X.world.alloc (.cells #[.int .i64 6] 3)) _ _ _ := (Box.gw xA1).alloc _
  have xO2 : Box (X.world.alloc (.cells #[.int .i64 6] 3)) _ _ _ := (Box.gw xO1).alloc _
  have xM2 : Box (X.world.alloc (.cells #[.int .i64 6] 3)) _ _ _ := (Box.gw xM1).alloc _
  have hr2 := Rd.lit1 X.world 3 .i64 6 X.world.heap.size rfl
  generalize X.world.alloc (.cells #[.int .i64 6] 3) = W2 at *
  obtain ⟨b2, hb2⟩ : ∃ b2, X.world.heap.size = b2 := ⟨_, rfl⟩
  rw [hb2] at hr2 ⊢
  clear hb2 X xA1 xO1 xM1 cA cO cM lA lO lM hl1 hG1 hT1 hr1
  have cA := xA2.cell
  have cO := xO2.cell
  have cM := xM2.cell
  have lA := xA2.lt
  have lO := xO2.lt
  have lM := xM2.lt
  refine wpAnyV_takeG (A := ?A17) 17 rfl (by kernel_rfl) (by kernel_rfl) (by kernel_rfl) (fun _ _ _ _ h => h) ?q17 ?r17
  case q17 =>
    intro Y
    try simp only [List.getElem_toArray, List.getElem_cons_zero, List.getElem_cons_succ]
    go_big_quiet_step ((go_at_call 27; with_reducible exact GW.call (control_any _ _ _ _ _ _ _)))
    refine wpQuiet_nil ?_
    rfl
  refine wpAnyV_takeG (A := ?A19) 19 rfl (by kernel_rfl) (by kernel_rfl) (by kernel_rfl) (fun _ _ _ _ h => h) ?q19 ?r19
  case q19 =>
    intro Y
    try simp only [List.getElem_toArray, List.getElem_cons_zero, List.getElem_cons_succ]
    go_big_quiet_step ((go_at_call 25; with_reducible exact GW.call (at_any _ _ _)))
    refine wpQuiet_nil ?_
    rfl
  refine wpAnyV_takeG (A := ?A21) 21 rfl (by kernel_rfl) (by kernel_rfl) (by kernel_rfl) (fun _ _ _ _ h => h) ?q21 ?r21
  case q21 =>
    intro Y
    try simp only [List.getElem_toArray, List.getElem_cons_zero, List.getElem_cons_succ]
    go_big_quiet_step ((go_at_call 26; with_reducible exact GW.call (ka2 _ _ ((hG2.below Y.grow).below (GW.grow _)) ((hT2.below Y.grow).below (GW.grow _)) ((hr2.below Y.grow).below (GW.grow _)))))
    refine wpQuiet_nil ?_
    rfl
  refine wpAnyV_takeG (A := ?A22) 22 rfl (by kernel_rfl) (by kernel_rfl) (by kernel_rfl) (fun _ _ _ _ h => h) ?q22 ?r22
  case q22 =>
    intro Y
    try simp only [List.getElem_toArray, List.getElem_cons_zero, List.getElem_cons_succ]
    go_big_quiet_step (fail)
    refine wpQuiet_nil ?_
    rfl
  refine wpAnyV_takeG (A := ?A23) 23 rfl (by kernel_rfl) (by kernel_rfl) (by kernel_rfl) (fun _ _ _ _ h => h) ?q23 ?r23
  case q23 =>
    intro Y
    try simp only [List.getElem_toArray, List.getElem_cons_zero, List.getElem_cons_succ]
    go_big_quiet_step (fail)
    refine wpQuiet_nil ?_
    rfl
  refine wpAnyV_takeG (A := ?A24) 24 rfl (by kernel_rfl) (by kernel_rfl) (by kernel_rfl) (fun _ _ _ _ h => h) ?q24 ?r24
  case q24 =>
    intro Y
    try simp only [List.getElem_toArray, List.getElem_cons_zero, List.getElem_cons_succ]
    go_big_quiet_step (fail)
    refine wpQuiet_nil ?_
    rfl
  refine wpAnyV_takeG (A := ?A25) 25 rfl (by kernel_rfl) (by kernel_rfl) (by kernel_rfl) (fun _ _ _ _ h => h) ?q25 ?r25
  case q25 =>
    intro Y
    try simp only [List.getElem_toArray, List.getElem_cons_zero, List.getElem_cons_succ]
    go_big_quiet_step (first | (go_at_call 27; with_reducible exact GW.call (control_any _ _ _ _ _ _ _)) | (go_at_call 25; with_reducible exact GW.call (at_any _ _ _)))
    refine wpQuiet_nil ?_
    rfl
  refine wpAnyV_takeG (A := ?A26) 26 rfl (by kernel_rfl) (by kernel_rfl) (by kernel_rfl) (fun _ _ _ _ h => h) ?q26 ?r26
  case q26 =>
    intro Y
    try simp only [List.getElem_toArray, List.getElem_cons_zero, List.getElem_cons_succ]
    go_big_quiet_step (first | (go_at_call 27; with_reducible exact GW.call (control_any _ _ _ _ _ _ _)) | (go_at_call 25; with_reducible exact GW.call (at_any _ _ _)))
    refine wpQuiet_nil ?_
    rfl
  refine wpAnyV_takeG (A := ?A27) 27 rfl (by kernel_rfl) (by kernel_rfl) (by kernel_rfl) (fun _ _ _ _ h => h) ?q27 ?r27
  case q27 =>
    intro Y
    try simp only [List.getElem_toArray, List.getElem_cons_zero, List.getElem_cons_succ]
    go_big_quiet_step (first | (go_at_call 27; with_reducible exact GW.call (control_any _ _ _ _ _ _ _)) | (go_at_call 25; with_reducible exact GW.call (at_any _ _ _)))
    refine wpQuiet_nil ?_
    rfl
  refine wpAnyV_takeG (A := ?A28) 28 rfl (by kernel_rfl) (by kernel_rfl) (by kernel_rfl) (fun _ _ _ _ h => h) ?q28 ?r28
  case q28 =>
    intro Y
    try simp only [List.getElem_toArray, List.getElem_cons_zero, List.getElem_cons_succ]
    go_big_quiet_step (first | (go_at_call 27; with_reducible exact GW.call (control_any _ _ _ _ _ _ _)) | (go_at_call 25; with_reducible exact GW.call (at_any _ _ _)))
    refine wpQuiet_nil ?_
    rfl
  refine wpAnyV_takeG (A := ?A29) 29 rfl (by kernel_rfl) (by kernel_rfl) (by kernel_rfl) (fun _ _ _ _ h => h) ?q29 ?r29
  case q29 =>
    intro Y
    try simp only [List.getElem_toArray, List.getElem_cons_zero, List.getElem_cons_succ]
    go_big_quiet_step ((go_at_call 26; with_reducible exact GW.call (ka3 _ _ ((hG2.below Y.grow).below (GW.grow _)) ((hT2.below Y.grow).below (GW.grow _)) (Rd.nil _ _))))
    refine wpQuiet_nil ?_
    rfl
  refine wpAnyV_takeG (A := ?A30) 30 rfl (by kernel_rfl) (by kernel_rfl) (by kernel_rfl) (fun _ _ _ _ h => h) ?q30 ?r30
  case q30 =>
    intro Y
    try simp only [List.getElem_toArray, List.getElem_cons_zero, List.getElem_cons_succ]
    go_big_quiet_step (fail)
    refine wpQuiet_nil ?_
    rfl
  refine wpAnyV_takeG (A := ?A31) 31 rfl (by kernel_rfl) (by kernel_rfl) (by kernel_rfl) (fun _ _ _ _ h => h) ?q31 ?r31
  case q31 =>
    intro Y
    try simp only [List.getElem_toArray, List.getElem_cons_zero, List.getElem_cons_succ]
    go_big_quiet_step (fail)
    refine wpQuiet_nil ?_
    rfl
  refine wpAnyV_takeG (A := ?A32) 32 rfl (by kernel_rfl) (by kernel_rfl) (by kernel_rfl) (fun _ _ _ _ h => h) ?q32 ?r32
  case q32 =>
    intro Y
    try simp only [List.getElem_toArray, List.getElem_cons_zero, List.getElem_cons_succ]
    go_big_quiet_step (fail)
    refine wpQuiet_nil ?_
    rfl
  refine wpAnyV_takeG (A := ?A35) 35 rfl (by kernel_rfl) (by kernel_rfl) (by kernel_rfl) (fun _ _ _ _ h => h) ?q35 ?r35
  case q35 =>
    intro Y
    try simp only [List.getElem_toArray, List.getElem_cons_zero, List.getElem_cons_succ]
    go_big_quiet_step (fail)
    refine wpQuiet_nil ?_
    rfl
  refine wpAnyV_takeG (A := ?A37) 37 rfl (by kernel_rfl) (by kernel_rfl) (by kernel_rfl) (fun _ _ _ _ h => h) ?q37 ?r37
  case q37 =>
    intro Y
    try simp only [List.getElem_toArray, List.getElem_cons_zero, List.getElem_cons_succ]
    go_big_quiet_step (fail)
    refine wpQuiet_nil ?_
    rfl
  refine wpAnyV_one 33 (by kernel_rfl) ?_
  intro W hW
  obtain ⟨X, rfl⟩ := GW.of hW
  refine wpOp_step rfl (fun K hK => ?_)
  go_simp
  refine hK _ _ ⟨bl_alloc (Below.refl _ _) _, ?_⟩
  clear hK K hW
  try simp only [Act.put, List.getElem_toArray, List.getElem_cons_zero, List.getElem_cons_succ, List.setIfInBounds_toArray, List.set_cons_zero, List.set_cons_succ]
  have hl3 : Below w.heap.size w (X.world.alloc (.cells #[.int .i64 25] 3)) := bl_alloc (bl_trans hl2 X.grow) _
  have hG3 := hG.below hl3
  have hT3 := hT.below hl3
  have xA3 : Box (X.world.alloc (.cells #[.int .i64 25] 3)) _ _ _ := (Box.gw xA2).alloc _
  have xO3 : Box (X.world.alloc (.cells #[.int .i64 25] 3)) _ _ _ := (Box.gw xO2).alloc _
  have xM3 : Box (X.world.alloc (.cells #[.int .i64 25] 3)) _ _ _ := (Box.gw xM2).alloc _
  have hr3 := Rd.lit1 X.world 3 .i64 25 X.world.heap.size rfl
  generalize X.world.alloc (.cells #[.int .i64 25] 3) = W3 at *
  obtain ⟨b3, hb3⟩ : ∃ b3, X.world.heap.size = b3 := ⟨_, rfl⟩
  rw [hb3] at hr3 ⊢
  clear hb3 X xA2 xO2 xM2 cA cO cM lA lO lM hl2 hG2 hT2 hr2
  have cA := xA3.cell
  have cO := xO3.cell
  have cM := xM3.cell
  have lA := xA3.lt
  have lO := xO3.lt
  have lM := xM3.lt
  refine wpAnyV_takeG (A := ?A34) 34 rfl (by kernel_rfl) (by kernel_rfl) (by kernel_rfl) (fun _ _ _ _ h => h) ?q34 ?r34
  case q34 =>
    intro Y
    try simp only [List.getElem_toArray, List.getElem_cons_zero, List.getElem_cons_succ]
    go_big_quiet_step ((go_at_call 27; with_reducible exact GW.call (control_any _ _ _ _ _ _ _)))
    refine wpQuiet_nil ?_
    rfl
  refine wpAnyV_takeG (A := ?A36) 36 rfl (by kernel_rfl) (by kernel_rfl) (by kernel_rfl) (fun _ _ _ _ h => h) ?q36 ?r36
  case q36 =>
    intro Y
    try simp only [List.getElem_toArray, List.getElem_cons_zero, List.getElem_cons_succ]
    go_big_quiet_step ((go_at_call 25; with_reducible exact GW.call (at_any _ _ _)))
    refine wpQuiet_nil ?_
    rfl
  refine wpAnyV_takeG (A := ?A38) 38 rfl (by kernel_rfl) (by kernel_rfl) (by kernel_rfl) (fun _ _ _ _ h => h) ?q38 ?r38
  case q38 =>
    intro Y
    try simp only [List.getElem_toArray, List.getElem_cons_zero, List.getElem_cons_succ]
    go_big_quiet_step ((go_at_call 26; with_reducible exact GW.call (ka4 _ _ ((hG3.below Y.grow).below (GW.grow _)) ((hT3.below Y.grow).below (GW.grow _)) ((hr3.below Y.grow).below (GW.grow _)))))
    refine wpQuiet_nil ?_
    rfl
  refine wpAnyV_takeG (A := ?A39) 39 rfl (by kernel_rfl) (by kernel_rfl) (by kernel_rfl) (fun _ _ _ _ h => h) ?q39 ?r39
  case q39 =>
    intro Y
    try simp only [List.getElem_toArray, List.getElem_cons_zero, List.getElem_cons_succ]
    go_big_quiet_step (fail)
    refine wpQuiet_nil ?_
    rfl
  refine wpAnyV_takeG (A := ?A40) 40 rfl (by kernel_rfl) (by kernel_rfl) (by kernel_rfl) (fun _ _ _ _ h => h) ?q40 ?r40
  case q40 =>
    intro Y
    try simp only [List.getElem_toArray, List.getElem_cons_zero, List.getElem_cons_succ]
    go_big_quiet_step (fail)
    refine wpQuiet_nil ?_
    rfl
  refine wpAnyV_done (by kernel_rfl) ?_ _
  intro W hW
  obtain ⟨X, rfl⟩ := GW.of hW
  clear hW
  have hf := hG
  go_wp2_with fail
  first | refine wp_grow2 (by kernel_rfl) (by kernel_rfl) ?_ | refine wp_grow (by kernel_rfl) (by kernel_rfl) ?_
  repeat (go_big_quiet_step (first | (go_at_call 25; with_reducible exact GW.call (at_any _ _ _)) | (go_at_call 26; with_reducible exact GW.call (ka5 _ _ (hG3.below (GW.grow _)) (hT3.below (GW.grow _)) (Rd.nil _ _))) | (go_at_call 26; with_reducible exact GW.call (ka6 _ _ (hG3.below (GW.grow _)) (hT3.below (GW.grow _)) (Rd.nil _ _)))))
  refine wpQuiet_nil ?_
  rintro _ ⟨X, rfl⟩
  go_wp2_with fail
  go_ret
  exact ⟨rfl, bl_trans hl3 X.grow⟩

end Go.Proofs.YtgaakkgelifgpaaDoor
