/- params: the functions that only read. -/
import Derived.Test.YtdbjebjmhjljbaaDoorSl
import Derived.Outline
set_option linter.unusedSimpArgs false
set_option linter.unusedVariables false
set_option linter.unnecessarySimpa false
namespace Go.Proofs.YtdbjebjmhjljbaaDoor
open Go.RowKit

def fineR (r : Int) : Bool := decide (r = 59 ∨ (48 ≤ r ∧ r ≤ 57))
theorem fine_any (r : Int) (w : World) : Calls Tryd.prog 26 #[.int .i32 r] w fun e w' => e = .returned (.bool (fineR r)) ∧ w = w' := by
  go_enter Tryd.func26, Tryd.ntmps26
  go_wp2_with fail
  all_goals
    go_ret
    exact ⟨ret_bool (by rw [Bool.eq_iff_iff]; simp [fineR]; try omega), rfl⟩

/-- The parameter with an index, or another number. -/
def getP (l : List Int) (i m : Int) : Int := if 0 ≤ i ∧ i < l.length ∧ 0 ≤ l.getD i.toNat 0 then l.getD i.toNat 0 else m
theorem get_any (v : Value) (l : List Int) (i m : Int) (w : World) (h : Rd w .i64 v l) : Calls Tryd.prog 12 #[v, .int .i64 i, .int .i64 m] w fun e w' => e = .returned (.int .i64 (getP l i m)) ∧ w = w' := by
  obtain ⟨p, cap, rfl, l1, m1, c1⟩ := h
  unfold maxLen at m1
  by_cases h0 : 0 ≤ i ∧ i < l.length
  · obtain ⟨j, rfl⟩ : ∃ j : Nat, i = j := ⟨i.toNat, by omega⟩
    have hj : j < l.length := by omega
    obtain ⟨b1, o1, rfl, q1, d1⟩ := Rd.at c1 l1 hj
    have hg : getP l j m = if 0 ≤ l[j] then l[j] else m := by unfold getP; simp [hj]
    rw [hg]
    clear c1 hg
    generalize l[j] = x at *
    have r1 : (0 : Int) ≤ (j : Int) := by omega
    have r2 : (j : Int) < (l.length : Int) := by omega
    by_cases hx : 0 ≤ x
    · rw [if_pos hx]
      go_enter Tryd.func12, Tryd.ntmps12
      go_wp2_with fail
      go_ret
      exact ⟨rfl, rfl⟩
    · rw [if_neg hx]
      go_enter Tryd.func12, Tryd.ntmps12
      go_wp2_with fail
      go_ret
      exact ⟨rfl, rfl⟩
  · have hg : getP l i m = m := by unfold getP; rw [if_neg (by omega)]
    rw [hg]
    clear c1 hg
    by_cases hi : i < 0
    all_goals
      go_enter Tryd.func12, Tryd.ntmps12
      go_wp2_with fail
      go_ret
      exact ⟨rfl, rfl⟩
theorem rget_any (v : Value) (l : List Int) (i m : Int) (w : World) (h : Rd w .i64 v l) : Calls Tryd.prog 13 #[v, .int .i64 i, .int .i64 m] w fun e w' => e = .returned (.int .i64 (getP l i m)) ∧ w = w' := by
  obtain ⟨p, cap, rfl, l1, m1, c1⟩ := h
  unfold maxLen at m1
  by_cases h0 : 0 ≤ i ∧ i < l.length
  · obtain ⟨j, rfl⟩ : ∃ j : Nat, i = j := ⟨i.toNat, by omega⟩
    have hj : j < l.length := by omega
    obtain ⟨b1, o1, rfl, q1, d1⟩ := Rd.at c1 l1 hj
    have hg : getP l j m = if 0 ≤ l[j] then l[j] else m := by unfold getP; simp [hj]
    rw [hg]
    clear c1 hg
    generalize l[j] = x at *
    have r1 : (0 : Int) ≤ (j : Int) := by omega
    have r2 : (j : Int) < (l.length : Int) := by omega
    by_cases hx : 0 ≤ x
    · rw [if_pos hx]
      go_enter Tryd.func13, Tryd.ntmps13
      go_wp2_with fail
      go_ret
      exact ⟨rfl, rfl⟩
    · rw [if_neg hx]
      go_enter Tryd.func13, Tryd.ntmps13
      go_wp2_with fail
      go_ret
      exact ⟨rfl, rfl⟩
  · have hg : getP l i m = m := by unfold getP; rw [if_neg (by omega)]
    rw [hg]
    clear c1 hg
    by_cases hi : i < 0
    all_goals
      go_enter Tryd.func13, Tryd.ntmps13
      go_wp2_with fail
      go_ret
      exact ⟨rfl, rfl⟩
def oneP (l : List Int) (i : Int) : Int := if getP l i 0 = 0 then 1 else getP l i 0
theorem one_any (v : Value) (l : List Int) (i : Int) (w : World) (h : Rd w .i64 v l) : Calls Tryd.prog 14 #[v, .int .i64 i] w fun e w' => e = .returned (.int .i64 (oneP l i)) ∧ w = w' := by
  unfold oneP
  generalize hg : getP l i 0 = g
  have G := Lib.hid hg
  clear hg
  by_cases h0 : g = 0
  all_goals
    go_enter Tryd.func14, Tryd.ntmps14
    go_wp2_with (go_at_call 12; (with_reducible refine (get_any _ l i 0 _ h).mono ?_); rintro e w' ⟨rfl, rfl⟩; rw [G.out])
    go_ret
    exact ⟨ret_int (by simp [h0]), rfl⟩

end Go.Proofs.YtdbjebjmhjljbaaDoor
