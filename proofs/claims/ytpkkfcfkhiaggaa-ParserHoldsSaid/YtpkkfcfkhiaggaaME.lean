/- params: Add, whole; Reset. -/
import Derived.Test.YtpkkfcfkhiaggaaMD
import Derived.Outline
set_option linter.unusedSimpArgs false
set_option linter.unusedVariables false
set_option linter.unnecessarySimpa false
namespace Go.Proofs.Ytpkkfcfkhiaggaa.Pm
open Go.RowKit

theorem add_any (D : Nat) (t : TypeId) (pre rest : List Value) (ws : List Int) (ov : Bool) (r : Int) (w : World) (hd : BldV w D t pre rest ws ov) (hr : fineR r = true) (hok : ∀ x ∈ ws, -1 ≤ x ∧ x ≤ 9999) :
    Calls Try.prog 64 #[.pointer (some ⟨D, pre.length, none⟩), .int .i32 r] w (Added D t pre rest w (addB ws ov r) (addO ws ov r)) := by
  have hf : r = 59 ∨ (48 ≤ r ∧ r ≤ 57) := by simpa [fineR] using hr
  by_cases h59 : r = 59
  · by_cases hn : ws = []
    · rw [show addB ws ov r = openB [-1] by simp [addB, h59, hn], show addO ws ov r = openO [-1] ov by simp [addO, h59, hn]]
      exact add_E59 D t pre rest ws ov r w hd hn h59
    · rw [show addB ws ov r = openB ws by simp [addB, h59, hn], show addO ws ov r = openO ws ov by simp [addO, h59, hn]]
      exact add_N59 D t pre rest ws ov r w hd hn h59
  · have h2 : 48 ≤ r ∧ r ≤ 57 := by omega
    rw [show addO ws ov r = ov by simp [addO, h59]]
    cases ov with
    | true =>
      by_cases hn : ws = []
      · rw [show addB ws true r = [-1] by simp [addB, h59, hn]]
        exact add_Eov D t pre rest ws true r w hd hn h2 rfl
      · rw [show addB ws true r = ws by simp [addB, h59, hn]]
        exact add_Nov D t pre rest ws true r w hd hn h2 rfl
    | false =>
      by_cases hn : ws = []
      · rw [show addB ws false r = digB [-1] r by simp [addB, h59, hn]]
        exact add_E D t pre rest ws false r w hd hn h2 rfl
      · rw [show addB ws false r = digB ws r by simp [addB, h59, hn]]
        exact add_N D t pre rest ws false r w hd hn h2 rfl hok

theorem reset_nil (w : World) : Calls Try.prog 76 #[.pointer none] w fun e w' => e = .returned (.tuple #[]) ∧ w = w' := by
  go_enter Try.func76, Try.ntmps76
  go_wp2_with fail
  go_end0
  exact ⟨rfl, rfl⟩
theorem list_nil (w : World) : Calls Try.prog 63 #[.pointer none] w fun e w' => e = .returned (.slice none 0 0) ∧ w = w' := by
  go_enter Try.func63, Try.ntmps63
  go_wp2_with fail
  go_ret
  exact ⟨rfl, rfl⟩

set_option maxRecDepth 100000 in
set_option maxHeartbeats 4000000 in
theorem reset_any (D : Nat) (t : TypeId) (pre rest : List Value) (ws : List Int) (ov : Bool) (w : World) (hd : BldV w D t pre rest ws ov) :
    Calls Try.prog 76 #[.pointer (some ⟨D, pre.length, none⟩)] w fun e w' => e = .returned (.tuple #[]) ∧ Bar D w w' ∧ BldV w' D t pre rest [] false := by
  obtain ⟨ls, hl, hw, ht, hx⟩ := hd
  obtain ⟨y1, y2, y3, y4, y5⟩ := BldF.of hl hx
  have y10 := y1 0 (by omega)
  rw [Nat.add_zero] at y10
  go_enter Try.func76, Try.ntmps76
  go_wp2_with fail
  go_end0
  have g0 := Box.bset hl hx 0 (by omega) 0
  rw [Nat.add_zero] at g0
  have g1 := Box.bset (by simp only [List.length_set]; exact hl) g0 1 (by omega) 0
  have g2 := Box.bset (by simp only [List.length_set]; exact hl) g1 2 (by omega) 0
  have g3 := Box.bset (by simp only [List.length_set]; exact hl) g2 3 (by omega) 0
  have g4 := Box.bset (by simp only [List.length_set]; exact hl) g3 4 (by omega) 0
  have g5 := Box.bset (by simp only [List.length_set]; exact hl) g4 5 (by omega) 0
  have g6 := Box.bset (by simp only [List.length_set]; exact hl) g5 6 (by omega) 0
  have g7 := Box.bset (by simp only [List.length_set]; exact hl) g6 7 (by omega) 0
  have g8 := Box.bset (by simp only [List.length_set]; exact hl) g7 8 (by omega) 0
  have g9 := Box.bset (by simp only [List.length_set]; exact hl) g8 9 (by omega) 0
  have g10 := Box.bset (by simp only [List.length_set]; exact hl) g9 10 (by omega) 0
  have g11 := Box.bset (by simp only [List.length_set]; exact hl) g10 11 (by omega) 0
  have g12 := Box.bset (by simp only [List.length_set]; exact hl) g11 12 (by omega) 0
  have g13 := Box.bset (by simp only [List.length_set]; exact hl) g12 13 (by omega) 0
  have g14 := Box.bset (by simp only [List.length_set]; exact hl) g13 14 (by omega) 0
  have g15 := Box.bset (by simp only [List.length_set]; exact hl) g14 15 (by omega) 0
  have g16 := Box.bsetn (by simp only [List.length_set]; exact hl) g15 0
  have g17 := Box.bseto (by simp only [List.length_set]; exact hl) g16 false
  refine ⟨rfl, by repeat (first | with_reducible exact Bar.refl _ _ | with_reducible apply Bar.set), _, ?_, by simp, by simp, g17⟩
  simp only [List.length_set]; exact hl

end Go.Proofs.Ytpkkfcfkhiaggaa.Pm
