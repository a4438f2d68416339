/- params: equal lists; which numbers are parameters. -/
import Derived.Test.YtdbjebjmhjljbaaDoorA
set_option linter.unusedSimpArgs false
set_option linter.unusedVariables false
set_option linter.unnecessarySimpa false
namespace Go.Proofs.YtdbjebjmhjljbaaDoor
open Go.RowKit

def sameB (xs ys : List Int) : Bool := decide (xs = ys)

theorem take_eq_succ {xs ys : List Int} {k : Nat} (h : xs.take k = ys.take k) (h1 : k < xs.length) (h2 : k < ys.length) (he : xs[k] = ys[k]) : xs.take (k + 1) = ys.take (k + 1) := by
  rw [List.take_succ_eq_append_getElem h1, List.take_succ_eq_append_getElem h2, h, he]
theorem take_ne {xs ys : List Int} {k : Nat} (h1 : k < xs.length) (h2 : k < ys.length) (he : xs[k] ≠ ys[k]) : xs ≠ ys := by
  rintro rfl; exact he rfl

set_option maxHeartbeats 1000000 in
theorem same_any (v1 v2 : Value) (xs ys : List Int) (w : World) (h1 : Rd w .i64 v1 xs) (h2 : Rd w .i64 v2 ys) :
    Calls Tryd.prog 28 #[v1, v2] w fun e w' => e = .returned (.bool (sameB xs ys)) ∧ Below w.heap.size w w' := by
  obtain ⟨p1, cap1, rfl, l1, m1, c1⟩ := h1
  obtain ⟨p2, cap2, rfl, l2, m2, c2⟩ := h2
  unfold maxLen at m1 m2
  by_cases hl : xs.length = ys.length
  · have hne : (((xs.length : Nat) : Int) != (ys.length : Int)) = false := by simp [hl]
    have H : Hid (xs.length = ys.length) := hl
    clear hl
    go_enter Tryd.func28, Tryd.ntmps28
    go_wp2_with fail
    go_loopw [5] (fun i wr => ∃ k : Nat, k ≤ xs.length ∧ i = .int .i64 k ∧ Below w.heap.size w wr ∧ xs.take k = ys.take k) (fun i _ => xs.length - (intOf i).toNat)
    case atStart => exact ⟨0, by omega, rfl, (by repeat (first | with_reducible exact Below.refl _ _ | with_reducible assumption | with_reducible exact GW.grow _ | with_reducible refine bl_alloc ?_ _ | with_reducible refine Below.drew ?_ | (with_reducible refine Below.setCell ?_ ?_ _; rotate_left; focus (simp; first | done | omega)) | with_reducible refine bl_trans ?_ (GW.grow _) | (with_reducible refine bl_trans ?_ (by assumption)))), rfl⟩
    case round =>
      obtain ⟨k, hk, rfl, hbl, ht⟩ := hrel
      have T : Hid (xs.take k = ys.take k) := ht
      clear ht
      by_cases hlt : k < xs.length
      · have hlt2 : k < ys.length := by have := H.out; omega
        obtain ⟨b1, o1, rfl, q1, d1⟩ := Rd.at c1 l1 hlt
        obtain ⟨b2, o2, rfl, q2, d2⟩ := Rd.at c2 l2 hlt2
        have d3 : wr.cell? ⟨b1, o1 + k, none⟩ = some (.int .i64 xs[k]) := by rw [hbl.cell (p := ⟨b1, _, none⟩) q1]; exact d1
        have d4 : wr.cell? ⟨b2, o2 + k, none⟩ = some (.int .i64 ys[k]) := by rw [hbl.cell (p := ⟨b2, _, none⟩) q2]; exact d2
        have q3 : b1 < wr.heap.size := Nat.lt_of_lt_of_le q1 hbl.size
        have q4 : b2 < wr.heap.size := Nat.lt_of_lt_of_le q2 hbl.size
        clear c1 c2 d1 d2
        by_cases he : xs[k] = ys[k]
        · have hb : (xs[k] != ys[k]) = false := by simp [he]
          have T1 : Hid (xs.take (k + 1) = ys.take (k + 1)) := take_eq_succ T.out hlt hlt2 he
          clear he T
          have r1 : (0 : Int) ≤ (k : Int) := by omega
          have r2 : (k : Int) < (xs.length : Int) := by omega
          have r3 : (k : Int) < (ys.length : Int) := by omega
          go_wp2_with fail
          first | refine wp_grow2 (by kernel_rfl) (by kernel_rfl) ?_ | refine wp_grow (by kernel_rfl) (by kernel_rfl) ?_
          repeat (go_big_quiet_step (fail))
          refine wpQuiet_nil ?_
          rintro _ ⟨X, rfl⟩
          go_wp2_with fail
          go_roundw
          case rel => first | exact ⟨k + 1, by omega, by go_num, (by repeat (first | with_reducible exact Below.refl _ _ | with_reducible assumption | with_reducible exact GW.grow _ | with_reducible refine bl_alloc ?_ _ | with_reducible refine Below.drew ?_ | (with_reducible refine Below.setCell ?_ ?_ _; rotate_left; focus (simp; first | done | omega)) | with_reducible refine bl_trans ?_ (GW.grow _) | (with_reducible refine bl_trans ?_ (by assumption)))), T1.out⟩ | ((repeat apply Exists.intro); exact ⟨⟨k + 1, by omega, by go_num, (by repeat (first | with_reducible exact Below.refl _ _ | with_reducible assumption | with_reducible exact GW.grow _ | with_reducible refine bl_alloc ?_ _ | with_reducible refine Below.drew ?_ | (with_reducible refine Below.setCell ?_ ?_ _; rotate_left; focus (simp; first | done | omega)) | with_reducible refine bl_trans ?_ (GW.grow _) | (with_reducible refine bl_trans ?_ (by assumption)))), T1.out⟩, rfl⟩)
          case measure => simp [intOf]; omega
        · have hb : (xs[k] != ys[k]) = true := by simp [he]
          have T1 : Hid (xs ≠ ys) := take_ne hlt hlt2 he
          clear he T
          have r1 : (0 : Int) ≤ (k : Int) := by omega
          have r2 : (k : Int) < (xs.length : Int) := by omega
          have r3 : (k : Int) < (ys.length : Int) := by omega
          go_wp2_with fail
          first | refine wp_grow2 (by kernel_rfl) (by kernel_rfl) ?_ | refine wp_grow (by kernel_rfl) (by kernel_rfl) ?_
          repeat (go_big_quiet_step (fail))
          refine wpQuiet_nil ?_
          rintro _ ⟨X, rfl⟩
          go_wp2_with fail
          go_ret
          exact ⟨ret_bool (by simp [sameB, T1.out]), (by repeat (first | with_reducible exact Below.refl _ _ | with_reducible assumption | with_reducible exact GW.grow _ | with_reducible refine bl_alloc ?_ _ | with_reducible refine Below.drew ?_ | (with_reducible refine Below.setCell ?_ ?_ _; rotate_left; focus (simp; first | done | omega)) | with_reducible refine bl_trans ?_ (GW.grow _) | (with_reducible refine bl_trans ?_ (by assumption))))⟩
      · go_wp2_with fail
        go_ret
        exact ⟨ret_bool (by
          have h1 := T.out
          have h2 := H.out
          rw [List.take_of_length_le (by omega), List.take_of_length_le (by omega)] at h1
          simp [sameB, h1]), (by repeat (first | with_reducible exact Below.refl _ _ | with_reducible assumption | with_reducible exact GW.grow _ | with_reducible refine bl_alloc ?_ _ | with_reducible refine Below.drew ?_ | (with_reducible refine Below.setCell ?_ ?_ _; rotate_left; focus (simp; first | done | omega)) | with_reducible refine bl_trans ?_ (GW.grow _) | (with_reducible refine bl_trans ?_ (by assumption))))⟩
  · have hne : (((xs.length : Nat) : Int) != (ys.length : Int)) = true := by simp; omega
    have H : Hid (xs ≠ ys) := fun h => hl (by rw [h])
    clear hl
    go_enter Tryd.func28, Tryd.ntmps28
    go_wp2_with fail
    go_ret
    exact ⟨ret_bool (by simp [sameB, H.out]), (by repeat (first | with_reducible exact Below.refl _ _ | with_reducible assumption | with_reducible exact GW.grow _ | with_reducible refine bl_alloc ?_ _ | with_reducible refine Below.drew ?_ | (with_reducible refine Below.setCell ?_ ?_ _; rotate_left; focus (simp; first | done | omega)) | with_reducible refine bl_trans ?_ (GW.grow _) | (with_reducible refine bl_trans ?_ (by assumption))))⟩


theorem same_true (v1 v2 : Value) (xs ys : List Int) (w : World) (h1 : Rd w .i64 v1 xs) (h2 : Rd w .i64 v2 ys) (h : Hid (xs = ys)) :
    Calls Tryd.prog 28 #[v1, v2] w fun e w' => e = .returned (.bool true) ∧ Below w.heap.size w w' := by
  have := h.out
  subst this
  have e : sameB xs xs = true := by simp [sameB]
  rw [← e]
  exact same_any v1 v2 xs xs w h1 h2

/-- Whether numbers are parameters. -/
def okP (n : Int) : Bool := decide (-1 ≤ n ∧ n ≤ 9999)
def validP (l : List Int) : Bool := l.all okP && decide (l.length ≤ 16) && !(decide (l.length = 1) && decide (l.getD 0 0 < 0))
theorem all_take_succ (l : List Int) (k : Nat) (h : k < l.length) (f : Int → Bool) (h1 : (l.take k).all f = true) (h2 : f l[k] = true) : (l.take (k + 1)).all f = true := by
  rw [List.take_succ_eq_append_getElem h, List.all_append, h1]; simp [h2]
theorem not_all (l : List Int) (k : Nat) (h : k < l.length) (f : Int → Bool) (h2 : f l[k] = false) : l.all f = false := by
  rw [List.all_eq_false]; exact ⟨l[k], List.getElem_mem h, by simp [h2]⟩
theorem validP_no (l : List Int) (h : l.all okP = false) : validP l = false := by simp [validP, h]
set_option maxRecDepth 100000 in
set_option maxHeartbeats 1000000 in
theorem valid_any (v : Value) (l : List Int) (w : World) (h : Rd w .i64 v l) : Calls Tryd.prog 10 #[v] w fun e w' => e = .returned (.bool (validP l)) ∧ Below w.heap.size w w' := by
  obtain ⟨p, cap, rfl, l1, m1, c1⟩ := h
  unfold maxLen at m1
  go_enter Tryd.func10, Tryd.ntmps10
  go_wp2_with fail
  go_loopw [4, 7] (fun x i wr => ∃ k : Nat, k ≤ l.length ∧ i = .int .i64 k ∧ (l.take k).all okP = true ∧ Below w.heap.size w wr) (fun x i _ => l.length - (intOf i).toNat)
  case atStart => exact ⟨0, by omega, rfl, rfl, Below.refl _ _⟩
  case round =>
    obtain ⟨k, hk, rfl, hal, hbel⟩ := hrel
    have HA := Lib.hid hal
    clear hal
    by_cases hlt : k < l.length
    · obtain ⟨b1, o1, rfl, q1, d1⟩ := Rd.at c1 l1 hlt
      have d3 : wr.cell? ⟨b1, o1 + k, none⟩ = some (.int .i64 l[k]) := by rw [hbel.cell (p := ⟨b1, _, none⟩) q1]; exact d1
      clear c1 d1
      have r1 : (0 : Int) ≤ (k : Int) := by omega
      have r2 : (k : Int) < (l.length : Int) := by omega
      have S := Lib.hid (all_take_succ l k hlt okP HA.out)
      have Nn := Lib.hid (fun h => validP_no l (not_all l k hlt okP h))
      have OK : Hid (okP l[k] = decide (-1 ≤ l[k] ∧ l[k] ≤ 9999)) := rfl
      generalize l[k] = x at *
      by_cases x1 : x < -1
      · have OF := Lib.hid (Nn.out (by rw [OK.out]; simp; omega))
        go_wp2_with fail
        go_ret
        exact ⟨ret_bool OF.out.symm, hbel⟩
      · by_cases x2 : 9999 < x
        · have OF := Lib.hid (Nn.out (by rw [OK.out]; simp; omega))
          go_wp2_with fail
          go_ret
          exact ⟨ret_bool OF.out.symm, hbel⟩
        · have OT := Lib.hid (S.out (by rw [OK.out]; simp; omega))
          go_wp2_with fail
          go_roundw
          case rel => first | exact ⟨k + 1, by omega, by go_num, OT.out, hbel⟩ | ((repeat apply Exists.intro); exact ⟨⟨k + 1, by omega, by go_num, OT.out, hbel⟩, rfl⟩)
          case measure => simp [intOf]; omega
    · have hall : l.all okP = true := by have := HA.out; rwa [List.take_of_length_le (by omega)] at this
      have VP : Hid (validP l = (decide (l.length ≤ 16) && !(decide (l.length = 1) && decide (l.getD 0 0 < 0)))) := by unfold Hid validP; rw [hall, Bool.true_and]
      clear hall HA
      by_cases hl1 : l.length = 1
      · obtain ⟨b1, o1, rfl, q1, d1⟩ := Rd.at c1 l1 (i := 0) (by omega)
        have d3 : wr.cell? ⟨b1, o1, none⟩ = some (.int .i64 l[0]) := by rw [hbel.cell (p := ⟨b1, _, none⟩) q1]; simpa using d1
        have hg : Hid (l.getD 0 0 = l[0]) := by unfold Hid; simp [hl1]
        clear c1 d1
        have V2 : Hid (validP l = !decide (l[0] < 0)) := by unfold Hid; rw [VP.out, hg.out, show decide (l.length ≤ 16) = true by simp [hl1], show decide (l.length = 1) = true by simp [hl1]]; simp
        generalize l[0] = x at *
        have L1 := Lib.hid hl1
        have z1 : ((l.length : Int) == 1) = true := by rw [beq_iff_eq]; omega
        have z2 : decide ((l.length : Int) ≤ 16) = true := by rw [decide_eq_true_eq]; omega
        have z3 : (0 : Int) < (l.length : Int) := by omega
        clear hl1
        by_cases hx : x < 0
        all_goals
          go_wp2_with fail
          go_ret
          exact ⟨ret_bool (by rw [V2.out]; simp; try omega), hbel⟩
      · have V2 : Hid (validP l = decide (l.length ≤ 16)) := by unfold Hid; rw [VP.out]; simp [hl1]
        have z1 : ((l.length : Int) == 1) = false := by rw [beq_eq_false_iff_ne]; omega
        clear c1
        by_cases h16 : l.length ≤ 16
        · have z2 : decide ((l.length : Int) ≤ 16) = true := by rw [decide_eq_true_eq]; omega
          go_wp2_with fail
          go_ret
          exact ⟨ret_bool (by rw [V2.out]; simp [h16]), hbel⟩
        · have z2 : decide ((l.length : Int) ≤ 16) = false := by rw [decide_eq_false_iff_not]; omega
          go_wp2_with fail
          go_ret
          exact ⟨ret_bool (by rw [V2.out]; simp [h16]), hbel⟩

set_option maxRecDepth 100000 in
set_option maxHeartbeats 1000000 in
theorem rvalid_any (v : Value) (l : List Int) (w : World) (h : Rd w .i64 v l) : Calls Tryd.prog 11 #[v] w fun e w' => e = .returned (.bool (validP l)) ∧ Below w.heap.size w w' := by
  obtain ⟨p, cap, rfl, l1, m1, c1⟩ := h
  unfold maxLen at m1
  by_cases h16 : 16 < l.length
  · have e : validP l = false := by simp [validP]; omega
    rw [e]
    clear c1 e
    go_enter Tryd.func11, Tryd.ntmps11
    go_wp2_with fail
    go_ret
    exact ⟨rfl, Below.refl _ _⟩
  · have V16 : Hid (decide (l.length ≤ 16) = true) := by unfold Hid; rw [decide_eq_true_eq]; omega
    go_enter Tryd.func11, Tryd.ntmps11
    go_wp2_with fail
    go_loopw [3] (fun i wr => ∃ k : Nat, k ≤ l.length ∧ i = .int .i64 k ∧ (l.take k).all okP = true ∧ (∀ (j : Nat) (x : Int), j < k → l[j]? = some x → ¬ (x = -1 ∧ l.length = 1)) ∧ Below w.heap.size w wr) (fun i _ => l.length - (intOf i).toNat)
    case atStart => exact ⟨0, by omega, rfl, rfl, fun j x h => by omega, Below.refl _ _⟩
    case round =>
      obtain ⟨k, hk, rfl, hal, hno, hbel⟩ := hrel
      have HA := Lib.hid hal
      have HO := Lib.hid hno
      clear hal hno
      by_cases hlt : k < l.length
      · obtain ⟨b1, o1, rfl, q1, d1⟩ := Rd.at c1 l1 hlt
        have d3 : wr.cell? ⟨b1, o1 + k, none⟩ = some (.int .i64 l[k]) := by rw [hbel.cell (p := ⟨b1, _, none⟩) q1]; exact d1
        clear c1 d1
        have r1 : (0 : Int) ≤ (k : Int) := by omega
        have r2 : (k : Int) < (l.length : Int) := by omega
        have S := Lib.hid (all_take_succ l k hlt okP HA.out)
        have Nn := Lib.hid (fun h => validP_no l (not_all l k hlt okP h))
        have OK : Hid (okP l[k] = decide (-1 ≤ l[k] ∧ l[k] ≤ 9999)) := rfl
        have G : Hid (l[k]? = some l[k]) := List.getElem?_eq_getElem hlt
        have G0 : Hid (k = 0 → l.getD 0 0 = l[k]) := fun h => by subst h; simp [hlt]
        generalize l[k] = x at *
        by_cases x1 : x < -1
        · have OF := Lib.hid (Nn.out (by rw [OK.out]; simp; omega))
          go_wp2_with fail
          go_ret
          exact ⟨ret_bool OF.out.symm, hbel⟩
        · by_cases x2 : 9999 < x
          · have OF := Lib.hid (Nn.out (by rw [OK.out]; simp; omega))
            go_wp2_with fail
            go_ret
            exact ⟨ret_bool OF.out.symm, hbel⟩
          · have OT := Lib.hid (S.out (by rw [OK.out]; simp; omega))
            by_cases x3 : x = -1 ∧ l.length = 1
            · obtain ⟨rfl, x4⟩ := x3
              have z1 : ((l.length : Int) == 1) = true := by rw [beq_iff_eq]; omega
              have OF : Hid (validP l = false) := by unfold Hid validP; rw [G0.out (by omega)]; simp [x4]
              clear x4
              go_wp2_with fail
              go_ret
              exact ⟨ret_bool OF.out.symm, hbel⟩
            · have HN : Hid (∀ (j : Nat) (y : Int), j < k + 1 → l[j]? = some y → ¬ (y = -1 ∧ l.length = 1)) := fun j y hj hy => by
                by_cases e : j = k
                · subst e; have g := G.out; rw [hy] at g; cases g; exact x3
                · exact HO.out j y (by omega) hy
              by_cases x5 : x = -1
              · have z1 : ((l.length : Int) == 1) = false := by rw [beq_eq_false_iff_ne]; omega
                subst x5
                clear x3
                go_wp2_with fail
                go_roundw
                case rel => first | exact ⟨k + 1, by omega, by go_num, OT.out, HN.out, hbel⟩ | ((repeat apply Exists.intro); exact ⟨⟨k + 1, by omega, by go_num, OT.out, HN.out, hbel⟩, rfl⟩)
                case measure => simp [intOf]; omega
              · have z1 : (x == -1) = false := by rw [beq_eq_false_iff_ne]; exact x5
                clear x3
                go_wp2_with fail
                go_roundw
                case rel => first | exact ⟨k + 1, by omega, by go_num, OT.out, HN.out, hbel⟩ | ((repeat apply Exists.intro); exact ⟨⟨k + 1, by omega, by go_num, OT.out, HN.out, hbel⟩, rfl⟩)
                case measure => simp [intOf]; omega
      · have hall : l.all okP = true := by have := HA.out; rwa [List.take_of_length_le (by omega)] at this
        have VP : Hid (validP l = true) := by
          unfold Hid validP
          rw [hall, V16.out]
          simp only [Bool.true_and, Bool.not_eq_true', Bool.and_eq_false_iff, decide_eq_false_iff_not]
          by_cases e : l.length = 1
          · right
            have hx := List.getElem?_eq_getElem (l := l) (i := 0) (by omega)
            have h1 := HO.out 0 _ (by omega) hx
            have h2 := List.all_eq_true.1 hall _ (List.getElem_mem (l := l) (n := 0) (by omega))
            simp only [okP, decide_eq_true_eq] at h2
            rw [show l.getD 0 0 = l[0] by simp [e]]
            omega
          · exact .inl e
        clear hall HA c1
        go_wp2_with fail
        go_ret
        exact ⟨ret_bool VP.out.symm, hbel⟩

end Go.Proofs.YtdbjebjmhjljbaaDoor
