/- modes: the reference: Is; the program: change, Set, Get. -/
import Derived.Test.YtgaakkgelifgpaaDoorC
import Derived.Outline
set_option linter.unusedSimpArgs false
set_option linter.unusedVariables false
set_option linter.unnecessarySimpa false
namespace Go.Proofs.YtgaakkgelifgpaaDoor
open Go.RowKit

def isL : List Int := [1, 6, 7, 25, 1006, 2004, 1000, 1002, 1003, 47, 1047, 1049]
def isC (n : Int) : Bool := isL.contains n
theorem isL_cells (w : World) (j : Nat) (hj : j < 12) : (w.alloc (.cells #[.int .i64 1, .int .i64 6, .int .i64 7, .int .i64 25, .int .i64 1006, .int .i64 2004, .int .i64 1000, .int .i64 1002, .int .i64 1003, .int .i64 47, .int .i64 1047, .int .i64 1049] 3)).cell? ⟨w.heap.size, j, none⟩ = some (.int .i64 (isL.getD j 0)) := by
  have h := Box.new w #[.int .i64 1, .int .i64 6, .int .i64 7, .int .i64 25, .int .i64 1006, .int .i64 2004, .int .i64 1000, .int .i64 1002, .int .i64 1003, .int .i64 47, .int .i64 1047, .int .i64 1049] 3 rfl
  rw [h.cell]
  have key : ∀ j : Fin 12, (#[Value.int .i64 1, Value.int .i64 6, Value.int .i64 7, Value.int .i64 25, Value.int .i64 1006, Value.int .i64 2004, Value.int .i64 1000, Value.int .i64 1002, Value.int .i64 1003, Value.int .i64 47, Value.int .i64 1047, Value.int .i64 1049] : Array Value)[j.val]? = some (.int .i64 (isL.getD j.val 0)) := by
    intro j; match j with
    | ⟨0, _⟩ | ⟨1, _⟩ | ⟨2, _⟩ | ⟨3, _⟩ | ⟨4, _⟩ | ⟨5, _⟩ | ⟨6, _⟩ | ⟨7, _⟩ | ⟨8, _⟩ | ⟨9, _⟩ | ⟨10, _⟩ | ⟨11, _⟩ => rfl
  exact key ⟨j, hj⟩
theorem isL_take (k : Nat) (n : Int) (h : k < 12) : (isL.take (k + 1)).contains n = ((isL.take k).contains n || decide (n = isL.getD k 0)) := by
  have e : isL.take (k + 1) = isL.take k ++ [isL.getD k 0] := by
    rw [List.take_succ_eq_append_getElem (by exact h)]
    rw [List.getD_eq_getElem?_getD, List.getElem?_eq_getElem (show k < isL.length from h)]; rfl
  rw [e, Bool.eq_iff_iff]; simp
set_option maxRecDepth 100000 in
set_option maxHeartbeats 4000000 in
theorem is_any (p n : Int) (w : World) : Calls Tryd.prog 29 #[.int .i32 p, .int .i64 n] w fun e w' => e = .returned (.bool (isM p n)) ∧ Below w.heap.size w w' := by
  by_cases h0 : p = 0
  · have e : isM p n = decide (n = 4) := if_pos h0
    rw [e]
    subst h0
    go_enter Tryd.func29, Tryd.ntmps29
    go_wp2_with fail
    all_goals
      go_ret
      exact ⟨ret_bool (by first | rfl | (simp; done) | (rw [Bool.eq_iff_iff]; simp)), (by repeat (first | with_reducible exact Below.refl _ _ | with_reducible assumption | with_reducible exact GW.grow _ | with_reducible refine bl_alloc ?_ _ | with_reducible refine Below.drew ?_ | (with_reducible refine Below.setCell ?_ ?_ _; rotate_left; focus (simp; first | done | omega)) | with_reducible refine bl_trans ?_ (GW.grow _) | (with_reducible refine bl_trans ?_ (by assumption))))⟩
  · have e : isM p n = (decide (p = 63) && isC n) := if_neg h0
    rw [e]
    go_enter Tryd.func29, Tryd.ntmps29
    go_wp2_with fail
    go_loopw [6] (fun i wr => ∃ (k : Nat), k ≤ 12 ∧ i = .int .i64 k ∧ Hid ((isL.take k).contains n = false) ∧ (∀ j, j < 12 → wr.cell? ⟨w.heap.size, j, none⟩ = some (.int .i64 (isL.getD j 0))) ∧ Below w.heap.size w wr) (fun i _ => 12 - (intOf i).toNat)
    case atStart => exact ⟨0, by omega, rfl, rfl, fun j hj => isL_cells w j hj, (by repeat (first | with_reducible exact Below.refl _ _ | with_reducible assumption | with_reducible exact GW.grow _ | with_reducible refine bl_alloc ?_ _ | with_reducible refine Below.drew ?_ | (with_reducible refine Below.setCell ?_ ?_ _; rotate_left; focus (simp; first | done | omega)) | with_reducible refine bl_trans ?_ (GW.grow _) | (with_reducible refine bl_trans ?_ (by assumption))))⟩
    case round =>
      obtain ⟨k, hk, rfl, HF, hc, hb⟩ := hrel
      by_cases hlt : k < 12
      · have d := hc k hlt
        have HT := Lib.hid (isL_take k n hlt)
        have HC := Lib.hid hc
        clear hc
        generalize isL.getD k 0 = x at *
        have r1 : (0 : Int) ≤ (k : Int) := by omega
        have r2 : (k : Int) < 12 := by omega
        by_cases hxn : x = n
        · have HG : Hid (isC n = true) := by
            have := HT.out
            rw [HF.out, Bool.false_or, decide_eq_true hxn.symm] at this
            unfold Hid isC
            rw [List.contains_iff_mem] at this ⊢
            exact List.mem_of_mem_take this
          clear HT
          subst hxn
          go_wp2_with fail
          go_ret
          exact ⟨ret_bool (by rw [HG.out, Bool.eq_iff_iff]; simp), hb⟩
        · have HN : Hid ((isL.take (k + 1)).contains n = false) := by
            have := HT.out
            rw [HF.out, Bool.false_or, decide_eq_false (fun e => hxn e.symm)] at this
            exact this
          clear HT
          go_wp2_with fail
          go_roundw
          case rel => exact ⟨k + 1, by omega, by go_num, HN, HC.out, hb⟩
          case measure => simp [intOf]; omega
      · have e2 : isL.take k = isL := List.take_of_length_le (show isL.length ≤ k by simp [isL]; omega)
        have HF2 : Hid (isC n = false) := by have := HF.out; rw [e2] at this; exact this
        clear hc e2
        go_wp2_with fail
        go_ret
        exact ⟨ret_bool (by rw [HF2.out]; simp), hb⟩

end Go.Proofs.YtgaakkgelifgpaaDoor
