/- params: equal lists; which numbers are parameters. -/
import Derived.Test.YtdoeiaekimbecaaDoorMA
set_option linter.unusedSimpArgs false
set_option linter.unusedVariables false
set_option linter.unnecessarySimpa false
namespace Go.Proofs.YtdoeiaekimbecaaDoor.Pm
open Go.RowKit

def sameB (xs ys : List Int) : Bool := decide (xs = ys)

theorem take_eq_succ {xs ys : List Int} {k : Nat} (h : xs.take k = ys.take k) (h1 : k < xs.length) (h2 : k < ys.length) (he : xs[k] = ys[k]) : xs.take (k + 1) = ys.take (k + 1) := by
  rw [List.take_succ_eq_append_getElem h1, List.take_succ_eq_append_getElem h2, h, he]
theorem take_ne {xs ys : List Int} {k : Nat} (h1 : k < xs.length) (h2 : k < ys.length) (he : xs[k] ≠ ys[k]) : xs ≠ ys := by
  rintro rfl; exact he rfl

/-- Whether numbers are parameters. -/
def okP (n : Int) : Bool := decide (-1 ≤ n ∧ n ≤ 9999)
def validP (l : List Int) : Bool := l.all okP && decide (l.length ≤ 16) && !(decide (l.length = 1) && decide (l.getD 0 0 < 0))
theorem all_take_succ (l : List Int) (k : Nat) (h : k < l.length) (f : Int → Bool) (h1 : (l.take k).all f = true) (h2 : f l[k] = true) : (l.take (k + 1)).all f = true := by
  rw [List.take_succ_eq_append_getElem h, List.all_append, h1]; simp [h2]
theorem not_all (l : List Int) (k : Nat) (h : k < l.length) (f : Int → Bool) (h2 : f l[k] = false) : l.all f = false := by
  rw [List.all_eq_false]; exact ⟨l[k], List.getElem_mem h, by simp [h2]⟩
theorem validP_no (l : List Int) (h : l.all okP = false) : validP l = false := by simp [validP, h]
set_option maxRecDepth 100000 in
set_option maxHeartbeats 1000000 in
theorem valid_any (v : Value) (l : List Int) (w : World) (h : Rd w .i64 v l) : Calls Tryd.prog 42 #[v] w fun e w' => e = .returned (.bool (validP l)) ∧ Below w.heap.size w w' := by
  obtain ⟨p, cap, rfl, l1, m1, c1⟩ := h
  unfold maxLen at m1
  go_enter Tryd.func42, Tryd.ntmps42
  go_wp2_with fail
  go_loopw [4, 7] (fun x i wr => ∃ k : Nat, k ≤ l.length ∧ i = .int .i64 k ∧ (l.take k).all okP = true ∧ Below w.heap.size w wr) (fun x i _ => l.length - (intOf i).toNat)
  case atStart => exact ⟨0, by omega, rfl, rfl, Below.refl _ _⟩
  case round =>
    obtain ⟨k, hk, rfl, hal, hbel⟩ := hrel
    have HA := Lib.hid hal
    clear hal
    by_cases hlt : k < l.length
    · obtain ⟨b1, o1, rfl, q1, d1⟩ := Rd.at c1 l1 hlt
      have d3 : wr.cell? ⟨b1, o1 + k, none⟩ = some (.int .i64 l[k]) := by rw [hbel.cell (p := ⟨b1, _, none⟩) q1]; exact d1
      clear c1 d1
      have r1 : (0 : Int) ≤ (k : Int) := by omega
      have r2 : (k : Int) < (l.length : Int) := by omega
      have S := Lib.hid (all_take_succ l k hlt okP HA.out)
      have Nn := Lib.hid (fun h => validP_no l (not_all l k hlt okP h))
      have OK : Hid (okP l[k] = decide (-1 ≤ l[k] ∧ l[k] ≤ 9999)) := rfl
      generalize l[k] = x at *
      by_cases x1 : x < -1
      · have OF := Lib.hid (Nn.out (by rw [OK.out]; simp; omega))
        go_wp2_with fail
        go_ret
        exact ⟨ret_bool OF.out.symm, hbel⟩
      · by_cases x2 : 9999 < x
        · have OF := Lib.hid (Nn.out (by rw [OK.out]; simp; omega))
          go_wp2_with fail
          go_ret
          exact ⟨ret_bool OF.out.symm, hbel⟩
        · have OT := Lib.hid (S.out (by rw [OK.out]; simp; omega))
          go_wp2_with fail
          go_roundw
          case rel => first | exact ⟨k + 1, by omega, by go_num, OT.out, hbel⟩ | ((repeat apply Exists.intro); exact ⟨⟨k + 1, by omega, by go_num, OT.out, hbel⟩, rfl⟩)
          case measure => simp [intOf]; omega
    · have hall : l.all okP = true := by have := HA.out; rwa [List.take_of_length_le (by omega)] at this
      have VP : Hid (validP l = (decide (l.length ≤ 16) && !(decide (l.length = 1) && decide (l.getD 0 0 < 0)))) := by unfold Hid validP; rw [hall, Bool.true_and]
      clear hall HA
      by_cases hl1 : l.length = 1
      · obtain ⟨b1, o1, rfl, q1, d1⟩ := Rd.at c1 l1 (i := 0) (by omega)
        have d3 : wr.cell? ⟨b1, o1, none⟩ = some (.int .i64 l[0]) := by rw [hbel.cell (p := ⟨b1, _, none⟩) q1]; simpa using d1
        have hg : Hid (l.getD 0 0 = l[0]) := by unfold Hid; simp [hl1]
        clear c1 d1
        have V2 : Hid (validP l = !decide (l[0] < 0)) := by unfold Hid; rw [VP.out, hg.out, show decide (l.length ≤ 16) = true by simp [hl1], show decide (l.length = 1) = true by simp [hl1]]; simp
        generalize l[0] = x at *
        have L1 := Lib.hid hl1
        have z1 : ((l.length : Int) == 1) = true := by rw [beq_iff_eq]; omega
        have z2 : decide ((l.length : Int) ≤ 16) = true := by rw [decide_eq_true_eq]; omega
        have z3 : (0 : Int) < (l.length : Int) := by omega
        clear hl1
        by_cases hx : x < 0
        all_goals
          go_wp2_with fail
          go_ret
          exact ⟨ret_bool (by rw [V2.out]; simp; try omega), hbel⟩
      · have V2 : Hid (validP l = decide (l.length ≤ 16)) := by unfold Hid; rw [VP.out]; simp [hl1]
        have z1 : ((l.length : Int) == 1) = false := by rw [beq_eq_false_iff_ne]; omega
        clear c1
        by_cases h16 : l.length ≤ 16
        · have z2 : decide ((l.length : Int) ≤ 16) = true := by rw [decide_eq_true_eq]; omega
          go_wp2_with fail
          go_ret
          exact ⟨ret_bool (by rw [V2.out]; simp [h16]), hbel⟩
        · have z2 : decide ((l.length : Int) ≤ 16) = false := by rw [decide_eq_false_iff_not]; omega
          go_wp2_with fail
          go_ret
          exact ⟨ret_bool (by rw [V2.out]; simp [h16]), hbel⟩

end Go.Proofs.YtdoeiaekimbecaaDoor.Pm
