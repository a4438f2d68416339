/- params: equal lists; which numbers are parameters. -/
import Derived.Test.YtpkkfcfkhiaggaaMA
set_option linter.unusedSimpArgs false
set_option linter.unusedVariables false
set_option linter.unnecessarySimpa false
namespace Go.Proofs.Ytpkkfcfkhiaggaa.Pm
open Go.RowKit

def sameB (xs ys : List Int) : Bool := decide (xs = ys)

theorem take_eq_succ {xs ys : List Int} {k : Nat} (h : xs.take k = ys.take k) (h1 : k < xs.length) (h2 : k < ys.length) (he : xs[k] = ys[k]) : xs.take (k + 1) = ys.take (k + 1) := by
  rw [List.take_succ_eq_append_getElem h1, List.take_succ_eq_append_getElem h2, h, he]
theorem take_ne {xs ys : List Int} {k : Nat} (h1 : k < xs.length) (h2 : k < ys.length) (he : xs[k] ≠ ys[k]) : xs ≠ ys := by
  rintro rfl; exact he rfl

set_option maxHeartbeats 1000000 in
theorem same_any (v1 v2 : Value) (xs ys : List Int) (w : World) (h1 : Rd w .i64 v1 xs) (h2 : Rd w .i64 v2 ys) :
    Calls Try.prog 58 #[v1, v2] w fun e w' => e = .returned (.bool (sameB xs ys)) ∧ Below w.heap.size w w' := by
  obtain ⟨p1, cap1, rfl, l1, m1, c1⟩ := h1
  obtain ⟨p2, cap2, rfl, l2, m2, c2⟩ := h2
  unfold maxLen at m1 m2
  by_cases hl : xs.length = ys.length
  · have hne : (((xs.length : Nat) : Int) != (ys.length : Int)) = false := by simp [hl]
    have H : Hid (xs.length = ys.length) := hl
    clear hl
    go_enter Try.func58, Try.ntmps58
    go_wp2_with fail
    go_loopw [5] (fun i wr => ∃ k : Nat, k ≤ xs.length ∧ i = .int .i64 k ∧ Below w.heap.size w wr ∧ xs.take k = ys.take k) (fun i _ => xs.length - (intOf i).toNat)
    case atStart => exact ⟨0, by omega, rfl, (by repeat (first | with_reducible exact Below.refl _ _ | with_reducible assumption | with_reducible exact GW.grow _ | with_reducible refine bl_alloc ?_ _ | with_reducible refine Below.drew ?_ | (with_reducible refine Below.setCell ?_ ?_ _; rotate_left; focus (simp; first | done | omega)) | with_reducible refine bl_trans ?_ (GW.grow _) | (with_reducible refine bl_trans ?_ (by assumption)))), rfl⟩
    case round =>
      obtain ⟨k, hk, rfl, hbl, ht⟩ := hrel
      have T : Hid (xs.take k = ys.take k) := ht
      clear ht
      by_cases hlt : k < xs.length
      · have hlt2 : k < ys.length := by have := H.out; omega
        obtain ⟨b1, o1, rfl, q1, d1⟩ := Rd.at c1 l1 hlt
        obtain ⟨b2, o2, rfl, q2, d2⟩ := Rd.at c2 l2 hlt2
        have d3 : wr.cell? ⟨b1, o1 + k, none⟩ = some (.int .i64 xs[k]) := by rw [hbl.cell (p := ⟨b1, _, none⟩) q1]; exact d1
        have d4 : wr.cell? ⟨b2, o2 + k, none⟩ = some (.int .i64 ys[k]) := by rw [hbl.cell (p := ⟨b2, _, none⟩) q2]; exact d2
        have q3 : b1 < wr.heap.size := Nat.lt_of_lt_of_le q1 hbl.size
        have q4 : b2 < wr.heap.size := Nat.lt_of_lt_of_le q2 hbl.size
        clear c1 c2 d1 d2
        by_cases he : xs[k] = ys[k]
        · have hb : (xs[k] != ys[k]) = false := by simp [he]
          have T1 : Hid (xs.take (k + 1) = ys.take (k + 1)) := take_eq_succ T.out hlt hlt2 he
          clear he T
          have r1 : (0 : Int) ≤ (k : Int) := by omega
          have r2 : (k : Int) < (xs.length : Int) := by omega
          have r3 : (k : Int) < (ys.length : Int) := by omega
          go_wp2_with fail
          first | refine wp_grow2 (by kernel_rfl) (by kernel_rfl) ?_ | refine wp_grow (by kernel_rfl) (by kernel_rfl) ?_
          repeat (go_big_quiet_step (fail))
          refine wpQuiet_nil ?_
          rintro _ ⟨X, rfl⟩
          go_wp2_with fail
          go_roundw
          case rel => first | exact ⟨k + 1, by omega, by go_num, (by repeat (first | with_reducible exact Below.refl _ _ | with_reducible assumption | with_reducible exact GW.grow _ | with_reducible refine bl_alloc ?_ _ | with_reducible refine Below.drew ?_ | (with_reducible refine Below.setCell ?_ ?_ _; rotate_left; focus (simp; first | done | omega)) | with_reducible refine bl_trans ?_ (GW.grow _) | (with_reducible refine bl_trans ?_ (by assumption)))), T1.out⟩ | ((repeat apply Exists.intro); exact ⟨⟨k + 1, by omega, by go_num, (by repeat (first | with_reducible exact Below.refl _ _ | with_reducible assumption | with_reducible exact GW.grow _ | with_reducible refine bl_alloc ?_ _ | with_reducible refine Below.drew ?_ | (with_reducible refine Below.setCell ?_ ?_ _; rotate_left; focus (simp; first | done | omega)) | with_reducible refine bl_trans ?_ (GW.grow _) | (with_reducible refine bl_trans ?_ (by assumption)))), T1.out⟩, rfl⟩)
          case measure => simp [intOf]; omega
        · have hb : (xs[k] != ys[k]) = true := by simp [he]
          have T1 : Hid (xs ≠ ys) := take_ne hlt hlt2 he
          clear he T
          have r1 : (0 : Int) ≤ (k : Int) := by omega
          have r2 : (k : Int) < (xs.length : Int) := by omega
          have r3 : (k : Int) < (ys.length : Int) := by omega
          go_wp2_with fail
          first | refine wp_grow2 (by kernel_rfl) (by kernel_rfl) ?_ | refine wp_grow (by kernel_rfl) (by kernel_rfl) ?_
          repeat (go_big_quiet_step (fail))
          refine wpQuiet_nil ?_
          rintro _ ⟨X, rfl⟩
          go_wp2_with fail
          go_ret
          exact ⟨ret_bool (by simp [sameB, T1.out]), (by repeat (first | with_reducible exact Below.refl _ _ | with_reducible assumption | with_reducible exact GW.grow _ | with_reducible refine bl_alloc ?_ _ | with_reducible refine Below.drew ?_ | (with_reducible refine Below.setCell ?_ ?_ _; rotate_left; focus (simp; first | done | omega)) | with_reducible refine bl_trans ?_ (GW.grow _) | (with_reducible refine bl_trans ?_ (by assumption))))⟩
      · go_wp2_with fail
        go_ret
        exact ⟨ret_bool (by
          have h1 := T.out
          have h2 := H.out
          rw [List.take_of_length_le (by omega), List.take_of_length_le (by omega)] at h1
          simp [sameB, h1]), (by repeat (first | with_reducible exact Below.refl _ _ | with_reducible assumption | with_reducible exact GW.grow _ | with_reducible refine bl_alloc ?_ _ | with_reducible refine Below.drew ?_ | (with_reducible refine Below.setCell ?_ ?_ _; rotate_left; focus (simp; first | done | omega)) | with_reducible refine bl_trans ?_ (GW.grow _) | (with_reducible refine bl_trans ?_ (by assumption))))⟩
  · have hne : (((xs.length : Nat) : Int) != (ys.length : Int)) = true := by simp; omega
    have H : Hid (xs ≠ ys) := fun h => hl (by rw [h])
    clear hl
    go_enter Try.func58, Try.ntmps58
    go_wp2_with fail
    go_ret
    exact ⟨ret_bool (by simp [sameB, H.out]), (by repeat (first | with_reducible exact Below.refl _ _ | with_reducible assumption | with_reducible exact GW.grow _ | with_reducible refine bl_alloc ?_ _ | with_reducible refine Below.drew ?_ | (with_reducible refine Below.setCell ?_ ?_ _; rotate_left; focus (simp; first | done | omega)) | with_reducible refine bl_trans ?_ (GW.grow _) | (with_reducible refine bl_trans ?_ (by assumption))))⟩


theorem same_true (v1 v2 : Value) (xs ys : List Int) (w : World) (h1 : Rd w .i64 v1 xs) (h2 : Rd w .i64 v2 ys) (h : Hid (xs = ys)) :
    Calls Try.prog 58 #[v1, v2] w fun e w' => e = .returned (.bool true) ∧ Below w.heap.size w w' := by
  have := h.out
  subst this
  have e : sameB xs xs = true := by simp [sameB]
  rw [← e]
  exact same_any v1 v2 xs xs w h1 h2

/-- Whether numbers are parameters. -/
def okP (n : Int) : Bool := decide (-1 ≤ n ∧ n ≤ 9999)
def validP (l : List Int) : Bool := l.all okP && decide (l.length ≤ 16) && !(decide (l.length = 1) && decide (l.getD 0 0 < 0))
theorem all_take_succ (l : List Int) (k : Nat) (h : k < l.length) (f : Int → Bool) (h1 : (l.take k).all f = true) (h2 : f l[k] = true) : (l.take (k + 1)).all f = true := by
  rw [List.take_succ_eq_append_getElem h, List.all_append, h1]; simp [h2]
theorem not_all (l : List Int) (k : Nat) (h : k < l.length) (f : Int → Bool) (h2 : f l[k] = false) : l.all f = false := by
  rw [List.all_eq_false]; exact ⟨l[k], List.getElem_mem h, by simp [h2]⟩
theorem validP_no (l : List Int) (h : l.all okP = false) : validP l = false := by simp [validP, h]
end Go.Proofs.Ytpkkfcfkhiaggaa.Pm
