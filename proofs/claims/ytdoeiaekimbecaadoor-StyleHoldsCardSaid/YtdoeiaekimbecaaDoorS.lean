/- style: plain facts: the program's and the reference's answers are the same. -/
import Derived.Test.YtdoeiaekimbecaaDoorM
import Derived.Test.YtdoeiaekimbecaaDoorO
import Derived.Outline
set_option linter.unusedSimpArgs false
set_option linter.unusedVariables false
set_option linter.unnecessarySimpa false
namespace Go.Proofs.YtdoeiaekimbecaaDoor
open Go.RowKit

theorem and_zero (b : Int) : bits .and .u8 0 b = 0 := by rw [and_def, show BitVec.ofInt 8 0 = 0#8 from rfl, BitVec.zero_and]; rfl
theorem andNot_zero (b : Int) : bits .andNot .u8 0 b = 0 := by rw [andNot_def, show BitVec.ofInt 8 0 = 0#8 from rfl, BitVec.zero_and]; rfl
theorem andNot_self (a : Int) : bits .andNot .u8 a a = 0 := by rw [andNot_def, BitVec.and_not_self]; rfl
theorem andNot_12 (a : Int) : bits .andNot .u8 (bits .andNot .u8 a 1) 2 = bits .andNot .u8 a 3 := by
  rw [andNot_def (bits _ _ _ _), andNot_def a 1, back8, andNot_def a 3]
  congr 2
  rw [BitVec.and_assoc]
  rfl
theorem u8_range (n : Int) : 0 ≤ IntKind.u8.wrap n ∧ IntKind.u8.wrap n ≤ 255 := by rw [IntKind.wrap_u8]; omega
theorem or_range (a b : Int) : 0 ≤ bits .or .u8 a b ∧ bits .or .u8 a b ≤ 255 := u8_range _
theorem andNot_range (a b : Int) : 0 ≤ bits .andNot .u8 a b ∧ bits .andNot .u8 a b ≤ 255 := u8_range _

/-! Flags. -/
theorem flags_same (n x : Int) (hn : 1 ≤ n) : flagsR n x 8 = flagsK n (if n = 22 then bits .andNot .u8 x 3 else x) 8 := by
  by_cases h : n = 1 ∨ n = 2 ∨ n = 3 ∨ n = 4 ∨ n = 5 ∨ n = 7 ∨ n = 8 ∨ n = 9 ∨ n = 21 ∨ n = 22 ∨ n = 23 ∨ n = 24 ∨ n = 25 ∨ n = 27 ∨ n = 28 ∨ n = 29
  · have b1 : bits .and .u8 1 3 = 1 := by decide
    have b2 : bits .and .u8 2 3 = 2 := by decide
    have b4 : bits .and .u8 4 3 = 0 := by decide
    have b8 : bits .and .u8 8 3 = 0 := by decide
    have b16 : bits .and .u8 16 3 = 0 := by decide
    have b32 : bits .and .u8 32 3 = 0 := by decide
    have b64 : bits .and .u8 64 3 = 0 := by decide
    have b128 : bits .and .u8 128 3 = 0 := by decide
    rcases h with rfl | rfl | rfl | rfl | rfl | rfl | rfl | rfl | rfl | rfl | rfl | rfl | rfl | rfl | rfl | rfl
    all_goals simp [flagsR, flagR, flagsK, flagStep, mF, mN, ms, b1, b2, b4, b8, b16, b32, b64, b128, andNot_12]
  · simp only [not_or] at h
    obtain ⟨h1, h2, h3, h4, h5, h7, h8, h9, h21, h22, h23, h24, h25, h27, h28, h29⟩ := h
    simp [flagsR, flagR, flagsK, flagStep, mF, mN, ms, h1, h2, h3, h4, h5, h7, h8, h9, h21, h22, h23, h24, h25, h27, h28, h29]
theorem one_same (p : Pn) (g : List Int) : oneGR p g = oneG p g := by
  unfold oneGR oneG
  split
  · rfl
  · unfold oneR oneN
    rw [flags_same _ _ (by omega)]
theorem apply_same (k : Nat) : ∀ (p : Pn) (l : List Int), applyRF k p l = applyF k p l := by
  induction k with
  | zero => intro p l; rfl
  | succ k ih => intro p l; simp only [applyRF, applyF, one_same, ih]
theorem applyR_eq (p : Pn) (l : List Int) : applyR p l = applyN p l := apply_same _ _ _
theorem flags_far (n x : Int) (hn : 30 ≤ n) : flagsK n (if n = 22 then bits .andNot .u8 x 3 else x) 8 = x := by
  rw [if_neg (by omega)]
  simp [flagsK, flagStep, ms, show n ≠ 1 by omega, show n ≠ 2 by omega, show n ≠ 3 by omega, show n ≠ 4 by omega, show n ≠ 5 by omega, show n ≠ 7 by omega, show n ≠ 8 by omega, show n ≠ 9 by omega, show n ≠ 21 by omega, show n ≠ 22 by omega, show n ≠ 23 by omega, show n ≠ 24 by omega, show n ≠ 25 by omega, show n ≠ 27 by omega, show n ≠ 28 by omega, show n ≠ 29 by omega]

/-! Codes. -/
theorem valid_zero {c : Co} (h : validC c = true) : c.k = 0 ↔ coZ = c := by
  obtain ⟨k, i, r, g, b⟩ := c
  unfold validC at h
  constructor
  · intro hk
    simp only at hk
    subst hk
    simp only [if_pos, decide_eq_true_eq] at h
    obtain ⟨rfl, rfl, rfl, rfl⟩ := h
    rfl
  · intro hk; rw [← hk]; rfl
theorem chgK_zero (x : Int) (k : Nat) : chgK 0 x k = codK x k := by
  induction k with
  | zero => rfl
  | succ k ih =>
    rw [chgK_succ, codK_succ, ih]
    congr 1
    unfold chg1
    rw [and_zero]
    by_cases h : bits .and .u8 x (mF k) = 0 <;> simp [h]
theorem rcodes_eq (p : Pn) (h : validP p = true) : rcodesN p = codesN p := by
  unfold validP at h
  rw [Bool.and_eq_true] at h
  obtain ⟨h1, h2⟩ := h
  have e0 : weightN 0 p.x = false := by unfold weightN; rw [andNot_zero, and_zero]; rfl
  have e1 : headN 0 p.x = [] := by unfold headN; rw [e0]; rfl
  have e2 : lessN 0 p.x = 0 := by unfold lessN; rw [e0]; rfl
  unfold rcodesN codesN chgN pnZ
  simp only [e1, e2, chgK_zero, List.nil_append]
  have f1 := valid_zero h1
  have f2 := valid_zero h2
  by_cases q1 : p.f.k = 0
  · rw [if_pos q1, if_pos (f1.1 q1)]
    by_cases q2 : p.b.k = 0
    · rw [if_pos q2, if_pos (f2.1 q2)]; simp
    · rw [if_neg q2, if_neg (fun h => q2 (f2.2 h))]; simp
  · rw [if_neg q1, if_neg (fun h => q1 (f1.2 h))]
    by_cases q2 : p.b.k = 0
    · rw [if_pos q2, if_pos (f2.1 q2)]; simp
    · rw [if_neg q2, if_neg (fun h => q2 (f2.2 h))]; simp
theorem chgK_self (x : Int) (k : Nat) : chgK x x k = [] := by
  induction k with
  | zero => rfl
  | succ k ih =>
    rw [chgK_succ, ih]
    unfold chg1
    by_cases h : bits .and .u8 x (mF k) = 0 <;> simp [h]
theorem chgN_self (a : Pn) : chgN a a = [] := by
  have e0 : weightN a.x a.x = false := by unfold weightN; rw [andNot_self, and_zero]; rfl
  unfold chgN headN lessN
  rw [e0]
  simp [chgK_self]
theorem rbetween_eq (a b : Pn) (hb : validP b = true) : rbetweenN a b = betweenN a b := by
  unfold rbetweenN betweenN
  by_cases h : a = b
  · subst h; rw [if_pos rfl, chgN_self, if_neg (by simp)]
  · rw [if_neg h, rcodes_eq b hb]

end Go.Proofs.YtdoeiaekimbecaaDoor
