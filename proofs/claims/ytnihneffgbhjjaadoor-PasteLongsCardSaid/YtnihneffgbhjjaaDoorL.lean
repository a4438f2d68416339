/- paste: the examples of the chapter. -/
import Derived.Test.YtnihneffgbhjjaaDoorK
import Derived.Lib.SlBytesConst
import Derived.Outline
set_option linter.unusedSimpArgs false
set_option linter.unusedVariables false
set_option linter.unnecessarySimpa false
namespace Go.Proofs.YtnihneffgbhjjaaDoor
open Go.RowKit

theorem rd_lit (W : World) (ys : List Int) (h : ys.length ≤ 1000) : Rd (W.alloc (.cells (ys.map (Value.int .u8)).toArray 5)) .u8 (.slice (some ⟨W.heap.size, 0, none⟩) ys.length ys.length) ys := Rd.new W 5 .u8 ys W.heap.size ys.length rfl rfl (by unfold maxLen; omega)
theorem rd_litF (W : World) (ys : List Int) (fz : Nat × Nat) (h : ys.length ≤ 1000) : Rd (W.alloc (.cells (ys.map (Value.int .u8)).toArray 5 fz)) .u8 (.slice (some ⟨W.heap.size, 0, none⟩) ys.length ys.length) ys := by
  refine ⟨_, _, rfl, Nat.le_refl _, by unfold maxLen; omega, .inr ⟨W.heap.size, 0, rfl, by simp, fun i x hx => ?_⟩⟩
  rw [cell_of_row (W.alloc _) W.heap.size (0 + i) _ 5 fz (heap_alloc_new W _)]
  simp [hx]
def IsB (l : List Int) : Bool := l.all fun x => decide (0 ≤ x ∧ x < 256)
theorem isB_of {l : List Int} (h : IsB l = true) : ∀ x ∈ l, Byte x := fun x hx => of_decide_eq_true (p := 0 ≤ x ∧ x < 256) (List.all_eq_true.1 h x hx)
theorem kc0 (W : World) (hg : Gl W) : Calls Tryd.prog 11 #[.slice (some ⟨W.heap.size, 0, none⟩) 8 8, .string ⟨#[97, 13, 98, 13, 9, 99]⟩, .int .i64 0] (W.alloc (.cells #[.int .u8 97, .int .u8 13, .int .u8 10, .int .u8 98, .int .u8 10, .int .u8 9, .int .u8 27, .int .u8 99] 5 (8, 9))) fun e w' => e = .returned (.bool true) ∧ Below (W.alloc (.cells #[.int .u8 97, .int .u8 13, .int .u8 10, .int .u8 98, .int .u8 10, .int .u8 9, .int .u8 27, .int .u8 99] 5 (8, 9))).heap.size (W.alloc (.cells #[.int .u8 97, .int .u8 13, .int .u8 10, .int .u8 98, .int .u8 10, .int .u8 9, .int .u8 27, .int .u8 99] 5 (8, 9))) w' := by
  have h := cleans_ok _ [97, 13, 10, 98, 10, 9, 27, 99] _ (rd_litF W [97, 13, 10, 98, 10, 9, 27, 99] (8, 9) (by decide)) (isB_of (by decide)) (by decide)
  rw [show strOfNums (clnB [97, 13, 10, 98, 10, 9, 27, 99]) = ⟨#[97, 13, 98, 13, 9, 99]⟩ by decide +kernel] at h
  exact h
theorem kp0 (W : World) (hg : Gl W) : Calls Tryd.prog 12 #[.slice (some ⟨W.heap.size, 0, none⟩) 1 1, .bool true, .string ⟨#[27, 91, 50, 48, 48, 126, 120, 27, 91, 50, 48, 49, 126]⟩, .int .i64 0] (W.alloc (.cells #[.int .u8 120] 5 (1, 2))) fun e w' => e = .returned (.bool true) ∧ Below (W.alloc (.cells #[.int .u8 120] 5 (1, 2))).heap.size (W.alloc (.cells #[.int .u8 120] 5 (1, 2))) w' := by
  have h := pastes_ok _ true [120] _ (rd_litF W [120] (1, 2) (by decide)) (isB_of (by decide)) (by decide)
  rw [show strOfNums (pasteB true [120]) = ⟨#[27, 91, 50, 48, 48, 126, 120, 27, 91, 50, 48, 49, 126]⟩ by decide +kernel] at h
  exact h
theorem kp1 (W : World) (hg : Gl W) : Calls Tryd.prog 12 #[.slice (some ⟨W.heap.size, 0, none⟩) 1 1, .bool true, .string ⟨#[]⟩, .int .i64 0] (W.alloc (.cells #[.int .u8 27] 5 (1, 2))) fun e w' => e = .returned (.bool true) ∧ Below (W.alloc (.cells #[.int .u8 27] 5 (1, 2))).heap.size (W.alloc (.cells #[.int .u8 27] 5 (1, 2))) w' := by
  have h := pastes_ok _ true [27] _ (rd_litF W [27] (1, 2) (by decide)) (isB_of (by decide)) (by decide)
  rw [show strOfNums (pasteB true [27]) = ⟨#[]⟩ by decide +kernel] at h
  exact h
theorem kp2 (W : World) (hg : Gl W) : Calls Tryd.prog 12 #[.slice (some ⟨W.heap.size, 0, none⟩) 1 1, .bool false, .string ⟨#[120]⟩, .int .i64 0] (W.alloc (.cells #[.int .u8 120] 5 (1, 2))) fun e w' => e = .returned (.bool true) ∧ Below (W.alloc (.cells #[.int .u8 120] 5 (1, 2))).heap.size (W.alloc (.cells #[.int .u8 120] 5 (1, 2))) w' := by
  have h := pastes_ok _ false [120] _ (rd_litF W [120] (1, 2) (by decide)) (isB_of (by decide)) (by decide)
  rw [show strOfNums (pasteB false [120]) = ⟨#[120]⟩ by decide +kernel] at h
  exact h
theorem kl0 (W : World) (hg : Gl W) : Calls Tryd.prog 13 #[.slice (some ⟨W.heap.size, 0, none⟩) 5 5, .agg #[.int .i64 2, .int .i64 4, .int .i64 1, .int .i64 1, .bool true], .int .i64 0] (W.alloc (.cells #[.int .u8 97, .int .u8 10, .int .u8 255, .int .u8 27, .int .u8 98] 5)) fun e w' => e = .returned (.bool true) ∧ Below (W.alloc (.cells #[.int .u8 97, .int .u8 10, .int .u8 255, .int .u8 27, .int .u8 98] 5)).heap.size (W.alloc (.cells #[.int .u8 97, .int .u8 10, .int .u8 255, .int .u8 27, .int .u8 98] 5)) w' := by
  have h := looks_ok _ [97, 10, 255, 27, 98] _ (hg.below (bl_alloc (Below.refl _ _) _)) (rd_lit W [97, 10, 255, 27, 98] (by decide)) (isB_of (by decide)) (by decide)
  have e1 : linesN [97, 10, 255, 27, 98] = 2 := by decide +kernel
  have e2 : (clnD [97, 10, 255, 27, 98]).length = 4 := by decide +kernel
  have e3 : leftR (decL [97, 10, 255, 27, 98]) = 1 := by decide +kernel
  have e4 : malN [97, 10, 255, 27, 98] = 1 := by decide +kernel
  have e5 : riskN [97, 10, 255, 27, 98] = true := by decide +kernel
  unfold lookV at h
  rw [e1, e2, e3, e4, e5] at h
  exact h
theorem kq0 (W : World) (hg : Gl W) : Calls Tryd.prog 14 #[.slice (some ⟨W.heap.size, 0, none⟩) 6 6, .int .i64 4, .slice (some ⟨W.heap.size + 1, 0, none⟩) 2 2, .int .i64 0] ((W.alloc (.cells #[.int .u8 97, .int .u8 195, .int .u8 169, .int .u8 230, .int .u8 188, .int .u8 162] 5 (6, 7))).alloc (.cells #[.string ⟨#[97, 195, 169]⟩, .string ⟨#[230, 188, 162]⟩] 9)) fun e w' => e = .returned (.bool true) ∧ Below ((W.alloc (.cells #[.int .u8 97, .int .u8 195, .int .u8 169, .int .u8 230, .int .u8 188, .int .u8 162] 5 (6, 7))).alloc (.cells #[.string ⟨#[97, 195, 169]⟩, .string ⟨#[230, 188, 162]⟩] 9)).heap.size ((W.alloc (.cells #[.int .u8 97, .int .u8 195, .int .u8 169, .int .u8 230, .int .u8 188, .int .u8 162] 5 (6, 7))).alloc (.cells #[.string ⟨#[97, 195, 169]⟩, .string ⟨#[230, 188, 162]⟩] 9)) w' := by
  have hw := OwnS.rds (ownS_lit (W.alloc (.cells #[.int .u8 97, .int .u8 195, .int .u8 169, .int .u8 230, .int .u8 188, .int .u8 162] 5 (6, 7))) [⟨#[97, 195, 169]⟩, ⟨#[230, 188, 162]⟩] (by simp))
  have hz : (W.alloc (.cells #[.int .u8 97, .int .u8 195, .int .u8 169, .int .u8 230, .int .u8 188, .int .u8 162] 5 (6, 7))).heap.size = W.heap.size + 1 := by simp
  have h := parts_ok (.slice (some ⟨W.heap.size, 0, none⟩) 6 6) (.slice (some ⟨(W.alloc (.cells #[.int .u8 97, .int .u8 195, .int .u8 169, .int .u8 230, .int .u8 188, .int .u8 162] 5 (6, 7))).heap.size, 0, none⟩) 2 2) 4 [97, 195, 169, 230, 188, 162] ((W.alloc (.cells #[.int .u8 97, .int .u8 195, .int .u8 169, .int .u8 230, .int .u8 188, .int .u8 162] 5 (6, 7))).alloc (.cells #[.string ⟨#[97, 195, 169]⟩, .string ⟨#[230, 188, 162]⟩] 9)) (hg.below (bl_alloc (bl_alloc (Below.refl _ _) _) _)) ((rd_litF W [97, 195, 169, 230, 188, 162] (6, 7) (by decide)).below (bl_alloc (Below.refl _ _) _)) (isB_of (by decide)) (by decide) (by decide) (by decide) (by
    rw [show ((pcsL 4 (clnD [97, 195, 169, 230, 188, 162])).map fun p => strOfNums (encL p)) = [⟨#[97, 195, 169]⟩, ⟨#[230, 188, 162]⟩] by decide +kernel]
    exact hw)
  rw [hz] at h
  exact h
theorem kq1 (W : World) (hg : Gl W) : Calls Tryd.prog 14 #[.slice (some ⟨W.heap.size, 0, none⟩) 1 1, .int .i64 3, .slice none 0 0, .int .i64 2] (W.alloc (.cells #[.int .u8 120] 5 (1, 2))) fun e w' => e = .returned (.bool true) ∧ Below (W.alloc (.cells #[.int .u8 120] 5 (1, 2))).heap.size (W.alloc (.cells #[.int .u8 120] 5 (1, 2))) w' := by
  have h := parts_arg _ 3 [120] _ (rd_litF W [120] (1, 2) (by decide)) (isB_of (by decide)) (by decide) (by decide)
  exact h
set_option maxHeartbeats 8000000 in
set_option maxRecDepth 100000 in
theorem known_any (w : World) (hg : Gl w) : Calls Tryd.prog 8 #[] w fun e w' => e = .returned (.bool true) ∧ Below w.heap.size w w' := by
  have kk0 : ∀ W : World, (convert 22 22 (.slice (some ⟨W.heap.size, 0, none⟩) 8 8)).run Tryd.prog (W.alloc (.cells #[.int .u8 97, .int .u8 13, .int .u8 10, .int .u8 98, .int .u8 10, .int .u8 9, .int .u8 27, .int .u8 99] 5)) = .ok (.slice (some ⟨W.heap.size, 0, none⟩) 8 8) (W.alloc (.cells #[.int .u8 97, .int .u8 13, .int .u8 10, .int .u8 98, .int .u8 10, .int .u8 9, .int .u8 27, .int .u8 99] 5 (8, 9))) := fun W => Lib.run_convert_bytes_const (P := Tryd.prog) W 22 5 #[.int .u8 97, .int .u8 13, .int .u8 10, .int .u8 98, .int .u8 10, .int .u8 9, .int .u8 27, .int .u8 99] 8 8 Tryd.underlying22 Tryd.underlying5
  have kk1 : ∀ W : World, (convert 22 22 (.slice (some ⟨W.heap.size, 0, none⟩) 1 1)).run Tryd.prog (W.alloc (.cells #[.int .u8 120] 5)) = .ok (.slice (some ⟨W.heap.size, 0, none⟩) 1 1) (W.alloc (.cells #[.int .u8 120] 5 (1, 2))) := fun W => Lib.run_convert_bytes_const (P := Tryd.prog) W 22 5 #[.int .u8 120] 1 1 Tryd.underlying22 Tryd.underlying5
  have kk2 : ∀ W : World, (convert 22 22 (.slice (some ⟨W.heap.size, 0, none⟩) 1 1)).run Tryd.prog (W.alloc (.cells #[.int .u8 27] 5)) = .ok (.slice (some ⟨W.heap.size, 0, none⟩) 1 1) (W.alloc (.cells #[.int .u8 27] 5 (1, 2))) := fun W => Lib.run_convert_bytes_const (P := Tryd.prog) W 22 5 #[.int .u8 27] 1 1 Tryd.underlying22 Tryd.underlying5
  have kk3 : ∀ W : World, (convert 22 22 (.slice (some ⟨W.heap.size, 0, none⟩) 6 6)).run Tryd.prog (W.alloc (.cells #[.int .u8 97, .int .u8 195, .int .u8 169, .int .u8 230, .int .u8 188, .int .u8 162] 5)) = .ok (.slice (some ⟨W.heap.size, 0, none⟩) 6 6) (W.alloc (.cells #[.int .u8 97, .int .u8 195, .int .u8 169, .int .u8 230, .int .u8 188, .int .u8 162] 5 (6, 7))) := fun W => Lib.run_convert_bytes_const (P := Tryd.prog) W 22 5 #[.int .u8 97, .int .u8 195, .int .u8 169, .int .u8 230, .int .u8 188, .int .u8 162] 6 6 Tryd.underlying22 Tryd.underlying5
  go_enter Tryd.func8, Tryd.ntmps8
  go_wp2_with (first | (go_at_call 11; (with_reducible refine (kc0 _ (hg.below (Below.refl _ _))).mono ?_); rintro e w1 ⟨rfl, hb1⟩; have hl1 := bl_trans (bl_alloc (Below.refl _ _) _) hb1; clear hb1) | (go_at_call 12; (with_reducible refine (kp0 _ (hg.below hl1)).mono ?_); rintro e w2 ⟨rfl, hb2⟩; have hl2 := bl_trans (bl_alloc hl1 _) hb2; clear hb2) | (go_at_call 12; (with_reducible refine (kp1 _ (hg.below hl2)).mono ?_); rintro e w3 ⟨rfl, hb3⟩; have hl3 := bl_trans (bl_alloc hl2 _) hb3; clear hb3) | (go_at_call 12; (with_reducible refine (kp2 _ (hg.below hl3)).mono ?_); rintro e w4 ⟨rfl, hb4⟩; have hl4 := bl_trans (bl_alloc hl3 _) hb4; clear hb4) | (go_at_call 13; (with_reducible refine (kl0 _ (hg.below hl4)).mono ?_); rintro e w5 ⟨rfl, hb5⟩; have hl5 := bl_trans (bl_alloc hl4 _) hb5; clear hb5) | (go_at_call 14; (with_reducible refine (kq0 _ (hg.below hl5)).mono ?_); rintro e w6 ⟨rfl, hb6⟩; have hl6 := bl_trans (bl_alloc (bl_alloc hl5 _) _) hb6; clear hb6) | (go_at_call 14; (with_reducible refine (kq1 _ (hg.below hl6)).mono ?_); rintro e w7 ⟨rfl, hb7⟩; have hl7 := bl_trans (bl_alloc hl6 _) hb7; clear hb7))
  go_ret
  exact ⟨rfl, hl7⟩

end Go.Proofs.YtnihneffgbhjjaaDoor
