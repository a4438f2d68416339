/- style: the reference's small functions. Printed by mk_k.py. -/
import Derived.Test.YtdoeiaekimbecaaDoorJ
import Derived.Outline
set_option linter.unusedSimpArgs false
set_option linter.unusedVariables false
set_option linter.unnecessarySimpa false
namespace Go.Proofs.YtdoeiaekimbecaaDoor
open Go.RowKit

set_option maxHeartbeats 1000000 in
theorem rgroup_any (v : Value) (l : List Int) (w : World) (h : Rd w .i64 v l) (h0 : 0 < l.length) : Calls Tryd.prog 21 #[v] w fun e w' => e = .returned (.int .i64 (groupN l)) ∧ Below w.heap.size w w' := by
  obtain ⟨b, off, cap, rfl, hbl, c0, c1⟩ := cells01 h h0
  have HG : Hid (groupN l = if (l.getD 0 0 = 38 ∨ l.getD 0 0 = 48) ∧ 2 ≤ l.length then (if l.getD 1 0 = 5 then min 3 l.length else if l.getD 1 0 = 2 then min 5 l.length else 1) else 1) := Lib.hid rfl
  have hll : l.length ≤ 9223372036854775807 := by obtain ⟨_, _, hv, q1, q2, _⟩ := h; unfold maxLen at q2; omega
  have HLL := Lib.hid hll
  clear h hll
  generalize l.getD 0 0 = x at *
  generalize l.getD 1 0 = y at *
  generalize groupN l = gn at *
  by_cases hx : x = 38 ∨ x = 48
  · by_cases h2 : 2 ≤ l.length
    · have c1' := c1 h2
      rw [if_pos ⟨hx, h2⟩] at HG
      clear c1
      have hy : y = 5 ∨ y = 2 ∨ (y ≠ 5 ∧ y ≠ 2) := by omega
      rcases hx with rfl | rfl
      all_goals
        rcases hy with rfl | rfl | ⟨hy5, hy2⟩
        · rw [if_pos rfl] at HG
          go_enter Tryd.func21, Tryd.ntmps21
          go_wp2_with fail
          go_ret
          exact ⟨ret_int (by rw [HG.out]; omega), Below.refl _ _⟩
        · rw [if_neg (by decide), if_pos rfl] at HG
          go_enter Tryd.func21, Tryd.ntmps21
          go_wp2_with fail
          go_ret
          exact ⟨ret_int (by rw [HG.out]; omega), Below.refl _ _⟩
        · rw [if_neg hy5, if_neg hy2] at HG
          have n5 : (y == 5) = false := by (rw [beq_eq_false_iff_ne]; exact hy5)
          have n2 : (y == 2) = false := by (rw [beq_eq_false_iff_ne]; exact hy2)
          have n5b : (y != 5) = true := by (rw [bne_iff_ne]; exact hy5)
          have n2b : (y != 2) = true := by (rw [bne_iff_ne]; exact hy2)
          have hI : ¬ ((l.length : Int) < 2) := by omega
          go_enter Tryd.func21, Tryd.ntmps21
          go_wp2_with fail
          go_ret
          exact ⟨ret_int (by rw [HG.out]; rfl), Below.refl _ _⟩
    · rw [if_neg (fun h => h2 h.2)] at HG
      have h3 : (l.length : Int) < 2 := by omega
      clear c1
      rcases hx with rfl | rfl
      all_goals
        go_enter Tryd.func21, Tryd.ntmps21
        go_wp2_with fail
        go_ret
        exact ⟨ret_int (by rw [HG.out]; rfl), Below.refl _ _⟩
  · rw [if_neg (fun h => hx h.1)] at HG
    have n1 : (x != 38) = true := by rw [bne_iff_ne]; omega
    have n2 : (x != 48) = true := by rw [bne_iff_ne]; omega
    clear hx c1
    go_enter Tryd.func21, Tryd.ntmps21
    go_wp2_with fail
    go_ret
    exact ⟨ret_int (by rw [HG.out]; rfl), Below.refl _ _⟩

theorem rnumbers_any (w : World) : Calls Tryd.prog 26 #[] w (RetOwn w 3 .i64 [1, 2, 3, 4, 5, 7, 8, 9]) := by
  go_enter Tryd.func26, Tryd.ntmps26
  go_wp2_with fail
  go_ret
  exact ⟨_, rfl, Own.new _ _ _ [_, _, _, _, _, _, _, _] _ _ (by simp) (by simp) (by simp [maxLen]), (by repeat (first | with_reducible exact Below.refl _ _ | with_reducible assumption | with_reducible exact GW.grow _ | with_reducible refine bl_alloc ?_ _ | with_reducible refine Below.drew ?_ | (with_reducible refine Below.setCell ?_ ?_ _; rotate_left; focus (simp; first | done | omega)) | with_reducible refine bl_trans ?_ (GW.grow _) | (with_reducible refine bl_trans ?_ (by assumption))))⟩
theorem rflag_any (k : Nat) (w : World) (hk : k < 8) : Calls Tryd.prog 25 #[.int .i64 (k : Int)] w fun e w' => e = .returned (.int .u8 (mF k)) ∧ Below w.heap.size w w' := by
  go_enter Tryd.func25, Tryd.ntmps25
  go_wp2_with fail
  go_loopw [3, 4] (fun f i wr => ∃ j : Nat, j ≤ k ∧ i = .int .i64 j ∧ f = .int .u8 (mF j) ∧ Below w.heap.size w wr) (fun _ i _ => k - (intOf i).toNat)
  case atStart => exact ⟨0, by omega, rfl, rfl, Below.refl _ _⟩
  case round =>
    obtain ⟨j, hj, rfl, rfl, hbel⟩ := hrel
    by_cases hlt : j < k
    · have hjs : j = 0 ∨ j = 1 ∨ j = 2 ∨ j = 3 ∨ j = 4 ∨ j = 5 ∨ j = 6 := by omega
      rcases hjs with rfl | rfl | rfl | rfl | rfl | rfl | rfl
      · have e0 : mF 0 = 1 := rfl
        have e1 : mF 1 = 2 := rfl
        rw [e0]
        have hlt2 : (0 : Int) < (k : Int) := by omega
        go_wp2_with fail
        go_roundw
        case rel => exact ⟨1, by omega, rfl, by rw [e1], hbel⟩
        case measure => first | (simp [intOf]; done) | (simp [intOf]; omega)
      · have e0 : mF 1 = 2 := rfl
        have e1 : mF 2 = 4 := rfl
        rw [e0]
        have hlt2 : (1 : Int) < (k : Int) := by omega
        go_wp2_with fail
        go_roundw
        case rel => exact ⟨2, by omega, rfl, by rw [e1], hbel⟩
        case measure => first | (simp [intOf]; done) | (simp [intOf]; omega)
      · have e0 : mF 2 = 4 := rfl
        have e1 : mF 3 = 8 := rfl
        rw [e0]
        have hlt2 : (2 : Int) < (k : Int) := by omega
        go_wp2_with fail
        go_roundw
        case rel => exact ⟨3, by omega, rfl, by rw [e1], hbel⟩
        case measure => first | (simp [intOf]; done) | (simp [intOf]; omega)
      · have e0 : mF 3 = 8 := rfl
        have e1 : mF 4 = 16 := rfl
        rw [e0]
        have hlt2 : (3 : Int) < (k : Int) := by omega
        go_wp2_with fail
        go_roundw
        case rel => exact ⟨4, by omega, rfl, by rw [e1], hbel⟩
        case measure => first | (simp [intOf]; done) | (simp [intOf]; omega)
      · have e0 : mF 4 = 16 := rfl
        have e1 : mF 5 = 32 := rfl
        rw [e0]
        have hlt2 : (4 : Int) < (k : Int) := by omega
        go_wp2_with fail
        go_roundw
        case rel => exact ⟨5, by omega, rfl, by rw [e1], hbel⟩
        case measure => first | (simp [intOf]; done) | (simp [intOf]; omega)
      · have e0 : mF 5 = 32 := rfl
        have e1 : mF 6 = 64 := rfl
        rw [e0]
        have hlt2 : (5 : Int) < (k : Int) := by omega
        go_wp2_with fail
        go_roundw
        case rel => exact ⟨6, by omega, rfl, by rw [e1], hbel⟩
        case measure => first | (simp [intOf]; done) | (simp [intOf]; omega)
      · have e0 : mF 6 = 64 := rfl
        have e1 : mF 7 = 128 := rfl
        rw [e0]
        have hlt2 : (6 : Int) < (k : Int) := by omega
        go_wp2_with fail
        go_roundw
        case rel => exact ⟨7, by omega, rfl, by rw [e1], hbel⟩
        case measure => first | (simp [intOf]; done) | (simp [intOf]; omega)
    · obtain rfl : j = k := by omega
      go_wp2_with fail
      go_ret
      exact ⟨rfl, hbel⟩
theorem part_hi (n : Int) (w : World) (h : 255 < n) : Calls Tryd.prog 41 #[.int .i64 n] w fun e w' => e = .returned (.int .i64 (-1)) ∧ w' = w := by
  go_enter Tryd.func41, Tryd.ntmps41
  go_wp2_with fail
  go_ret
  exact ⟨rfl, rfl⟩
theorem part_lo (n : Int) (w : World) (h : n ≤ 255) : Calls Tryd.prog 41 #[.int .i64 n] w fun e w' => e = .returned (.int .i64 (max 0 n)) ∧ w' = w := by
  go_enter Tryd.func41, Tryd.ntmps41
  go_wp2_with fail
  go_ret
  exact ⟨ret_int (by omega), rfl⟩
set_option maxHeartbeats 4000000 in
theorem rcolor_short (v : Value) (l : List Int) (w : World) (h : Rd w .i64 v l) (h0 : 0 < l.length) (h3 : l.length ≠ 3) (h5 : l.length ≠ 5) : Calls Tryd.prog 35 #[v] w (ExtE l w) := by
  obtain ⟨b, off, cap, rfl, hbl, hlc, hcm, hc⟩ := cellsN h h0
  have HB : Hid (extB l = false) := Lib.hid (by unfold extB; simp [h3, h5])
  have n3 : ((l.length : Int) == 3) = false := by rw [beq_eq_false_iff_ne]; omega
  have n5 : ((l.length : Int) == 5) = false := by rw [beq_eq_false_iff_ne]; omega
  clear hc h hcm h3 h5
  go_enter Tryd.func35, Tryd.ntmps35
  go_wp2_with fail
  refine ret_row_tmp (n := 5) rfl rfl Tryd.underlying24 rfl (by kernel_rfl) rfl ⟨_, by simp (maxDischargeDepth := 6) [go_sem] <;> rfl, rfl, ?_⟩
  exact ⟨coZ, false, rfl, HB.out.symm, (fun h => by cases h), (by repeat (first | with_reducible exact Below.refl _ _ | with_reducible assumption | with_reducible exact GW.grow _ | with_reducible refine bl_alloc ?_ _ | with_reducible refine Below.drew ?_ | (with_reducible refine Below.setCell ?_ ?_ _; rotate_left; focus (simp; first | done | omega)) | with_reducible refine bl_trans ?_ (GW.grow _) | (with_reducible refine bl_trans ?_ (by assumption))))⟩
set_option maxHeartbeats 4000000 in
set_option maxRecDepth 100000 in
theorem rcolor_3 (v : Value) (a0 a1 a2 : Int) (w : World) (h : Rd w .i64 v [a0, a1, a2]) : Calls Tryd.prog 35 #[v] w (ExtE [a0, a1, a2] w) := by
  obtain ⟨b, off, cap, rfl, hbl, hlc, hcm, hc⟩ := cellsN h (by simp)
  have c1 := hc 1 (by simp)
  have c2 := hc 2 (by simp)
  simp only [List.getD_cons_succ, List.getD_cons_zero] at c1 c2
  have e9 : ([a0, a1, a2] : List Int).length = 3 := rfl
  rw [e9] at hlc ⊢
  clear hc h e9
  unfold ExtE
  by_cases h1 : a1 = 5
  · subst h1
    by_cases hx0 : a2 ≤ 255
    · have hb : extB [a0, 5, a2] = true := by simp [extB, hx0]
      go_enter Tryd.func35, Tryd.ntmps35
      go_wp2_with (first | (go_at_call 41; (with_reducible refine (part_lo a2 _ hx0).mono ?_); rintro e w1 ⟨rfl, rfl⟩))
      refine ret_row_tmp (n := 5) rfl rfl Tryd.underlying24 rfl (by kernel_rfl) rfl ⟨_, by simp (maxDischargeDepth := 6) [go_sem] <;> rfl, rfl, ?_⟩
      exact ⟨coI (max 0 a2), true, rfl, hb.symm, fun _ => rfl, (by repeat (first | with_reducible exact Below.refl _ _ | with_reducible assumption | with_reducible exact GW.grow _ | with_reducible refine bl_alloc ?_ _ | with_reducible refine Below.drew ?_ | (with_reducible refine Below.setCell ?_ ?_ _; rotate_left; focus (simp; first | done | omega)) | with_reducible refine bl_trans ?_ (GW.grow _) | (with_reducible refine bl_trans ?_ (by assumption))))⟩
    · have hy : 255 < a2 := by omega
      have hb : extB [a0, 5, a2] = false := by simp [extB, hx0]
      go_enter Tryd.func35, Tryd.ntmps35
      go_wp2_with (first | (go_at_call 41; (with_reducible refine (part_hi a2 _ hy).mono ?_); rintro e w1 ⟨rfl, rfl⟩))
      refine ret_row_tmp (n := 5) rfl rfl Tryd.underlying24 rfl (by kernel_rfl) rfl ⟨_, by simp (maxDischargeDepth := 6) [go_sem] <;> rfl, rfl, ?_⟩
      exact ⟨coZ, false, rfl, hb.symm, (fun h => by cases h), (by repeat (first | with_reducible exact Below.refl _ _ | with_reducible assumption | with_reducible exact GW.grow _ | with_reducible refine bl_alloc ?_ _ | with_reducible refine Below.drew ?_ | (with_reducible refine Below.setCell ?_ ?_ _; rotate_left; focus (simp; first | done | omega)) | with_reducible refine bl_trans ?_ (GW.grow _) | (with_reducible refine bl_trans ?_ (by assumption))))⟩
  · have n1 : (a1 == 5) = false := by rw [beq_eq_false_iff_ne]; exact h1
    have hb : extB [a0, a1, a2] = false := by simp [extB, h1]
    clear h1
    go_enter Tryd.func35, Tryd.ntmps35
    go_wp2_with fail
    refine ret_row_tmp (n := 5) rfl rfl Tryd.underlying24 rfl (by kernel_rfl) rfl ⟨_, by simp (maxDischargeDepth := 6) [go_sem] <;> rfl, rfl, ?_⟩
    exact ⟨coZ, false, rfl, hb.symm, (fun h => by cases h), (by repeat (first | with_reducible exact Below.refl _ _ | with_reducible assumption | with_reducible exact GW.grow _ | with_reducible refine bl_alloc ?_ _ | with_reducible refine Below.drew ?_ | (with_reducible refine Below.setCell ?_ ?_ _; rotate_left; focus (simp; first | done | omega)) | with_reducible refine bl_trans ?_ (GW.grow _) | (with_reducible refine bl_trans ?_ (by assumption))))⟩
set_option maxHeartbeats 4000000 in
set_option maxRecDepth 100000 in
theorem rcolor_5 (v : Value) (a0 a1 a2 a3 a4 : Int) (w : World) (h : Rd w .i64 v [a0, a1, a2, a3, a4]) : Calls Tryd.prog 35 #[v] w (ExtE [a0, a1, a2, a3, a4] w) := by
  obtain ⟨b, off, cap, rfl, hbl, hlc, hcm, hc⟩ := cellsN h (by simp)
  have c1 := hc 1 (by simp)
  have c2 := hc 2 (by simp)
  have c3 := hc 3 (by simp)
  have c4 := hc 4 (by simp)
  simp only [List.getD_cons_succ, List.getD_cons_zero] at c1 c2 c3 c4
  have e9 : ([a0, a1, a2, a3, a4] : List Int).length = 5 := rfl
  rw [e9] at hlc ⊢
  clear hc h e9
  unfold ExtE
  by_cases h1 : a1 = 2
  · subst h1
    by_cases hx0 : a2 ≤ 255
    · by_cases hx1 : a3 ≤ 255
      · by_cases hx2 : a4 ≤ 255
        · have hb : extB [a0, 2, a2, a3, a4] = true := by simp [extB, hx0, hx1, hx2]
          go_enter Tryd.func35, Tryd.ntmps35
          go_wp2_with (first | (go_at_call 41; (with_reducible refine (part_lo a2 _ hx0).mono ?_); rintro e w1 ⟨rfl, rfl⟩) | (go_at_call 41; (with_reducible refine (part_lo a3 _ hx1).mono ?_); rintro e w1 ⟨rfl, rfl⟩) | (go_at_call 41; (with_reducible refine (part_lo a4 _ hx2).mono ?_); rintro e w1 ⟨rfl, rfl⟩))
          refine wp_name (fun Z => Below w.heap.size w Z ∧ Box Z w.heap.size coZ.a 24) ⟨(by repeat (first | with_reducible exact Below.refl _ _ | with_reducible assumption | with_reducible exact GW.grow _ | with_reducible refine bl_alloc ?_ _ | with_reducible refine Below.drew ?_ | (with_reducible refine Below.setCell ?_ ?_ _; rotate_left; focus (simp; first | done | omega)) | with_reducible refine bl_trans ?_ (GW.grow _) | (with_reducible refine bl_trans ?_ (by assumption)))), (by first | with_reducible assumption | (apply Box.as; (focus (repeat (first | with_reducible assumption | (with_reducible apply Box.new; simp; done) | with_reducible apply Box.gw | with_reducible apply Box.drew | with_reducible apply Box.alloc | with_reducible apply Box.set | (with_reducible apply Box.set_other; case hg => omega)))); rfl))⟩ ?_
          rintro W0 ⟨hW0, xD⟩
          have d2 := (hW0.cell (p := ⟨b, off + 2, none⟩) hbl).trans c2
          have d3 := (hW0.cell (p := ⟨b, off + 3, none⟩) hbl).trans c3
          have d4 := (hW0.cell (p := ⟨b, off + 4, none⟩) hbl).trans c4
          have hbw : b < W0.heap.size := Nat.lt_of_lt_of_le hbl hW0.size
          have wr2 : IntKind.u8.wrap (max 0 a2) = max 0 a2 := IntWalk.u8_in _ (by omega)
          have wr3 : IntKind.u8.wrap (max 0 a3) = max 0 a3 := IntWalk.u8_in _ (by omega)
          have wr4 : IntKind.u8.wrap (max 0 a4) = max 0 a4 := IntWalk.u8_in _ (by omega)
          have hS : Below W0.heap.size W0 W0.drew := (Below.refl _ _).drew
          refine wp_region_late (fun Z => Below W0.heap.size W0 Z) [16] (by kernel_rfl) ?_
          refine wpAnyG_pure (v := ?v0) 0 rfl (by kernel_rfl) (by kernel_rfl) (by kernel_rfl) (by kernel_rfl) (fun _ _ _ h => h) (Or.inl ⟨by rfl, ?h0⟩) (fun _ => hS) (fun _ => ?r0)
          case h0 => (intro w _; go_simp; try with_reducible rfl)
          try simp only [Act.put, List.getElem_toArray, List.getElem_cons_zero, List.getElem_cons_succ, List.setIfInBounds_toArray, List.set_cons_zero, List.set_cons_succ]
          refine wpAnyG_pure (v := ?v1) 1 rfl (by kernel_rfl) (by kernel_rfl) (by kernel_rfl) (by kernel_rfl) (fun _ _ _ h => h) (Or.inl ⟨by rfl, ?h1⟩) (fun _ => hS) (fun _ => ?r1)
          case h1 => (intro w _; go_simp; try with_reducible rfl)
          try simp only [Act.put, List.getElem_toArray, List.getElem_cons_zero, List.getElem_cons_succ, List.setIfInBounds_toArray, List.set_cons_zero, List.set_cons_succ]
          refine wpAnyG_load (v := ?v2) 2 rfl (by kernel_rfl) (by kernel_rfl) (by kernel_rfl) (by kernel_rfl) (fun _ _ _ h => h) (Or.inl ⟨by rfl, ?h2⟩) hS (fun _ => ?r2)
          case h2 => (intro Z hZ; obtain ⟨z1, z2⟩ := bcell hZ; go_simp; try with_reducible rfl)
          try simp only [Act.put, List.getElem_toArray, List.getElem_cons_zero, List.getElem_cons_succ, List.setIfInBounds_toArray, List.set_cons_zero, List.set_cons_succ]
          refine wpAnyG_pure (v := ?v5) 5 rfl (by kernel_rfl) (by kernel_rfl) (by kernel_rfl) (by kernel_rfl) (fun _ _ _ h => h) (Or.inl ⟨by rfl, ?h5⟩) (fun _ => hS) (fun _ => ?r5)
          case h5 => (intro w _; go_simp; try with_reducible rfl)
          try simp only [Act.put, List.getElem_toArray, List.getElem_cons_zero, List.getElem_cons_succ, List.setIfInBounds_toArray, List.set_cons_zero, List.set_cons_succ]
          refine wpAnyG_pure (v := ?v6) 6 rfl (by kernel_rfl) (by kernel_rfl) (by kernel_rfl) (by kernel_rfl) (fun _ _ _ h => h) (Or.inl ⟨by rfl, ?h6⟩) (fun _ => hS) (fun _ => ?r6)
          case h6 => (intro w _; go_simp; try with_reducible rfl)
          try simp only [Act.put, List.getElem_toArray, List.getElem_cons_zero, List.getElem_cons_succ, List.setIfInBounds_toArray, List.set_cons_zero, List.set_cons_succ]
          refine wpAnyG_load (v := ?v7) 7 rfl (by kernel_rfl) (by kernel_rfl) (by kernel_rfl) (by kernel_rfl) (fun _ _ _ h => h) (Or.inl ⟨by rfl, ?h7⟩) hS (fun _ => ?r7)
          case h7 => (intro Z hZ; obtain ⟨z1, z2⟩ := bcell hZ; go_simp; try with_reducible rfl)
          try simp only [Act.put, List.getElem_toArray, List.getElem_cons_zero, List.getElem_cons_succ, List.setIfInBounds_toArray, List.set_cons_zero, List.set_cons_succ]
          refine wpAnyG_pure (v := ?v10) 10 rfl (by kernel_rfl) (by kernel_rfl) (by kernel_rfl) (by kernel_rfl) (fun _ _ _ h => h) (Or.inl ⟨by rfl, ?h10⟩) (fun _ => hS) (fun _ => ?r10)
          case h10 => (intro w _; go_simp; try with_reducible rfl)
          try simp only [Act.put, List.getElem_toArray, List.getElem_cons_zero, List.getElem_cons_succ, List.setIfInBounds_toArray, List.set_cons_zero, List.set_cons_succ]
          refine wpAnyG_pure (v := ?v11) 11 rfl (by kernel_rfl) (by kernel_rfl) (by kernel_rfl) (by kernel_rfl) (fun _ _ _ h => h) (Or.inl ⟨by rfl, ?h11⟩) (fun _ => hS) (fun _ => ?r11)
          case h11 => (intro w _; go_simp; try with_reducible rfl)
          try simp only [Act.put, List.getElem_toArray, List.getElem_cons_zero, List.getElem_cons_succ, List.setIfInBounds_toArray, List.set_cons_zero, List.set_cons_succ]
          refine wpAnyG_load (v := ?v12) 12 rfl (by kernel_rfl) (by kernel_rfl) (by kernel_rfl) (by kernel_rfl) (fun _ _ _ h => h) (Or.inl ⟨by rfl, ?h12⟩) hS (fun _ => ?r12)
          case h12 => (intro Z hZ; obtain ⟨z1, z2⟩ := bcell hZ; go_simp; try with_reducible rfl)
          try simp only [Act.put, List.getElem_toArray, List.getElem_cons_zero, List.getElem_cons_succ, List.setIfInBounds_toArray, List.set_cons_zero, List.set_cons_succ]
          refine wpAnyG_one 3 rfl (by kernel_rfl) ?_
          refine wpOp_step rfl (fun K hK => ?_)
          go_simp
          with_reducible refine (part_lo a2 _ hx0).mono ?_
          rintro e w1 ⟨rfl, rfl⟩
          go_simp
          refine hK _ _ ⟨fun _ => hS, ?_⟩
          clear hK K
          try simp only [Act.put, List.getElem_toArray, List.getElem_cons_zero, List.getElem_cons_succ, List.setIfInBounds_toArray, List.set_cons_zero, List.set_cons_succ]
          refine wpAnyG_pure (v := ?v4) 4 rfl (by kernel_rfl) (by kernel_rfl) (by kernel_rfl) (by kernel_rfl) (fun _ _ _ h => h) (Or.inl ⟨by rfl, ?h4⟩) (fun _ => hS) (fun _ => ?r4)
          case h4 => (intro w _; go_simp; try with_reducible rfl)
          try simp only [Act.put, List.getElem_toArray, List.getElem_cons_zero, List.getElem_cons_succ, List.setIfInBounds_toArray, List.set_cons_zero, List.set_cons_succ]
          refine wpAnyG_one 8 rfl (by kernel_rfl) ?_
          refine wpOp_step rfl (fun K hK => ?_)
          go_simp
          with_reducible refine (part_lo a3 _ hx1).mono ?_
          rintro e w2 ⟨rfl, rfl⟩
          go_simp
          refine hK _ _ ⟨fun _ => hS, ?_⟩
          clear hK K
          try simp only [Act.put, List.getElem_toArray, List.getElem_cons_zero, List.getElem_cons_succ, List.setIfInBounds_toArray, List.set_cons_zero, List.set_cons_succ]
          refine wpAnyG_pure (v := ?v9) 9 rfl (by kernel_rfl) (by kernel_rfl) (by kernel_rfl) (by kernel_rfl) (fun _ _ _ h => h) (Or.inl ⟨by rfl, ?h9⟩) (fun _ => hS) (fun _ => ?r9)
          case h9 => (intro w _; go_simp; try with_reducible rfl)
          try simp only [Act.put, List.getElem_toArray, List.getElem_cons_zero, List.getElem_cons_succ, List.setIfInBounds_toArray, List.set_cons_zero, List.set_cons_succ]
          refine wpAnyG_one 13 rfl (by kernel_rfl) ?_
          refine wpOp_step rfl (fun K hK => ?_)
          go_simp
          with_reducible refine (part_lo a4 _ hx2).mono ?_
          rintro e w3 ⟨rfl, rfl⟩
          go_simp
          refine hK _ _ ⟨fun _ => hS, ?_⟩
          clear hK K
          try simp only [Act.put, List.getElem_toArray, List.getElem_cons_zero, List.getElem_cons_succ, List.setIfInBounds_toArray, List.set_cons_zero, List.set_cons_succ]
          refine wpAnyG_pure (v := ?v14) 14 rfl (by kernel_rfl) (by kernel_rfl) (by kernel_rfl) (by kernel_rfl) (fun _ _ _ h => h) (Or.inl ⟨by rfl, ?h14⟩) (fun _ => hS) (fun _ => ?r14)
          case h14 => (intro w _; go_simp; try with_reducible rfl)
          try simp only [Act.put, List.getElem_toArray, List.getElem_cons_zero, List.getElem_cons_succ, List.setIfInBounds_toArray, List.set_cons_zero, List.set_cons_succ]
          refine wpAnyG_pure (v := ?v15) 15 rfl (by kernel_rfl) (by kernel_rfl) (by kernel_rfl) (by kernel_rfl) (fun _ _ _ h => h) (Or.inl ⟨by rfl, ?h15⟩) (fun _ => hS) (fun _ => ?r15)
          case h15 => (intro w _; go_simp; try with_reducible rfl)
          try simp only [Act.put, List.getElem_toArray, List.getElem_cons_zero, List.getElem_cons_succ, List.setIfInBounds_toArray, List.set_cons_zero, List.set_cons_succ]
          have zc := xD.cell
          have zf := xD.free
          have zl := xD.lt
          refine wpAnyG_one 16 rfl (by kernel_rfl) ?_
          refine wpOp_step rfl (fun K hK => ?_)
          go_simp
          refine hK _ _ ⟨fun h => absurd (h 16 (by simp)) (by simp), ?_⟩
          clear hK K
          try simp only [Act.put, List.getElem_toArray, List.getElem_cons_zero, List.getElem_cons_succ, List.setIfInBounds_toArray, List.set_cons_zero, List.set_cons_succ]
          refine wpAnyG_one 17 rfl (by kernel_rfl) ?_
          refine wpOp_step rfl (fun K hK => ?_)
          go_simp
          refine hK _ _ ⟨fun h => absurd (h 16 (by simp)) (by simp), ?_⟩
          clear hK K
          try simp only [Act.put, List.getElem_toArray, List.getElem_cons_zero, List.getElem_cons_succ, List.setIfInBounds_toArray, List.set_cons_zero, List.set_cons_succ]
          refine wpAnyG_done (by kernel_rfl) ?_ _
          go_wp2_with fail
          have xE := set5 (Box.drew xD) (.int .i64 2) (.int .u8 0) (.int .u8 (max 0 a2)) (.int .u8 (max 0 a3)) (.int .u8 (max 0 a4))
          have xl := xE.lt
          refine ret_row_tmp (n := 5) rfl rfl Tryd.underlying24 rfl (by kernel_rfl) rfl ⟨_, by simp (maxDischargeDepth := 6) [go_sem, Box.row xD, xl] <;> rfl, rfl, ?_⟩
          exact ⟨coT (max 0 a2) (max 0 a3) (max 0 a4), true, rfl, hb.symm, fun _ => rfl, Bar.to_below (bl_trans hW0 hS) (Bar5 _ _ _ _ _ _ _) (Nat.le_refl _)⟩
        · have hy : 255 < a4 := by omega
          have hb : extB [a0, 2, a2, a3, a4] = false := by simp [extB, hx2]
          go_enter Tryd.func35, Tryd.ntmps35
          go_wp2_with (first | (go_at_call 41; (with_reducible refine (part_lo a2 _ hx0).mono ?_); rintro e w1 ⟨rfl, rfl⟩) | (go_at_call 41; (with_reducible refine (part_lo a3 _ hx1).mono ?_); rintro e w1 ⟨rfl, rfl⟩) | (go_at_call 41; (with_reducible refine (part_hi a4 _ hy).mono ?_); rintro e w1 ⟨rfl, rfl⟩))
          refine ret_row_tmp (n := 5) rfl rfl Tryd.underlying24 rfl (by kernel_rfl) rfl ⟨_, by simp (maxDischargeDepth := 6) [go_sem] <;> rfl, rfl, ?_⟩
          exact ⟨coZ, false, rfl, hb.symm, (fun h => by cases h), (by repeat (first | with_reducible exact Below.refl _ _ | with_reducible assumption | with_reducible exact GW.grow _ | with_reducible refine bl_alloc ?_ _ | with_reducible refine Below.drew ?_ | (with_reducible refine Below.setCell ?_ ?_ _; rotate_left; focus (simp; first | done | omega)) | with_reducible refine bl_trans ?_ (GW.grow _) | (with_reducible refine bl_trans ?_ (by assumption))))⟩
      · have hy : 255 < a3 := by omega
        have hb : extB [a0, 2, a2, a3, a4] = false := by simp [extB, hx1]
        go_enter Tryd.func35, Tryd.ntmps35
        go_wp2_with (first | (go_at_call 41; (with_reducible refine (part_lo a2 _ hx0).mono ?_); rintro e w1 ⟨rfl, rfl⟩) | (go_at_call 41; (with_reducible refine (part_hi a3 _ hy).mono ?_); rintro e w1 ⟨rfl, rfl⟩))
        refine ret_row_tmp (n := 5) rfl rfl Tryd.underlying24 rfl (by kernel_rfl) rfl ⟨_, by simp (maxDischargeDepth := 6) [go_sem] <;> rfl, rfl, ?_⟩
        exact ⟨coZ, false, rfl, hb.symm, (fun h => by cases h), (by repeat (first | with_reducible exact Below.refl _ _ | with_reducible assumption | with_reducible exact GW.grow _ | with_reducible refine bl_alloc ?_ _ | with_reducible refine Below.drew ?_ | (with_reducible refine Below.setCell ?_ ?_ _; rotate_left; focus (simp; first | done | omega)) | with_reducible refine bl_trans ?_ (GW.grow _) | (with_reducible refine bl_trans ?_ (by assumption))))⟩
    · have hy : 255 < a2 := by omega
      have hb : extB [a0, 2, a2, a3, a4] = false := by simp [extB, hx0]
      go_enter Tryd.func35, Tryd.ntmps35
      go_wp2_with (first | (go_at_call 41; (with_reducible refine (part_hi a2 _ hy).mono ?_); rintro e w1 ⟨rfl, rfl⟩))
      refine ret_row_tmp (n := 5) rfl rfl Tryd.underlying24 rfl (by kernel_rfl) rfl ⟨_, by simp (maxDischargeDepth := 6) [go_sem] <;> rfl, rfl, ?_⟩
      exact ⟨coZ, false, rfl, hb.symm, (fun h => by cases h), (by repeat (first | with_reducible exact Below.refl _ _ | with_reducible assumption | with_reducible exact GW.grow _ | with_reducible refine bl_alloc ?_ _ | with_reducible refine Below.drew ?_ | (with_reducible refine Below.setCell ?_ ?_ _; rotate_left; focus (simp; first | done | omega)) | with_reducible refine bl_trans ?_ (GW.grow _) | (with_reducible refine bl_trans ?_ (by assumption))))⟩
  · have n1 : (a1 == 2) = false := by rw [beq_eq_false_iff_ne]; exact h1
    have hb : extB [a0, a1, a2, a3, a4] = false := by simp [extB, h1]
    clear h1
    go_enter Tryd.func35, Tryd.ntmps35
    go_wp2_with fail
    refine ret_row_tmp (n := 5) rfl rfl Tryd.underlying24 rfl (by kernel_rfl) rfl ⟨_, by simp (maxDischargeDepth := 6) [go_sem] <;> rfl, rfl, ?_⟩
    exact ⟨coZ, false, rfl, hb.symm, (fun h => by cases h), (by repeat (first | with_reducible exact Below.refl _ _ | with_reducible assumption | with_reducible exact GW.grow _ | with_reducible refine bl_alloc ?_ _ | with_reducible refine Below.drew ?_ | (with_reducible refine Below.setCell ?_ ?_ _; rotate_left; focus (simp; first | done | omega)) | with_reducible refine bl_trans ?_ (GW.grow _) | (with_reducible refine bl_trans ?_ (by assumption))))⟩
theorem rcolor_any (v : Value) (l : List Int) (w : World) (h : Rd w .i64 v l) (h0 : 0 < l.length) : Calls Tryd.prog 35 #[v] w (ExtE l w) := by
  by_cases h3 : l.length = 3
  · obtain ⟨a0, a1, a2, rfl⟩ : ∃ a0 a1 a2, l = [a0, a1, a2] := by
      match l, h3 with
      | [a, b, c], _ => exact ⟨a, b, c, rfl⟩
    exact rcolor_3 v a0 a1 a2 w h
  by_cases h5 : l.length = 5
  · obtain ⟨a0, a1, a2, a3, a4, rfl⟩ : ∃ a0 a1 a2 a3 a4, l = [a0, a1, a2, a3, a4] := by
      match l, h5 with
      | [a, b, c, d, e], _ => exact ⟨a, b, c, d, e, rfl⟩
    exact rcolor_5 v a0 a1 a2 a3 a4 w h
  · exact rcolor_short v l w h h0 h3 h5

end Go.Proofs.YtdoeiaekimbecaaDoor
