/- style: plain facts for the stage's theorem: codes make a pen, changes make a pen out of another, pens stay valid, lists may be parted. Printed by mk_y.py. -/
import Derived.Test.YtdoeiaekimbecaaDoorS
import Derived.Outline
set_option linter.unusedSimpArgs false
set_option linter.unusedVariables false
set_option linter.unnecessarySimpa false
namespace Go.Proofs.YtdoeiaekimbecaaDoor
open Go.RowKit

theorem group_one (n : Int) (l : List Int) (h1 : n ≠ 38) (h2 : n ≠ 48) : groupN (n :: l) = 1 := by
  unfold groupN
  rw [if_neg]
  rintro ⟨h | h, _⟩
  · exact h1 (by simpa using h)
  · exact h2 (by simpa using h)
theorem apply_cons1 (p : Pn) (n : Int) (l : List Int) (h1 : n ≠ 38) (h2 : n ≠ 48) : applyN p (n :: l) = applyN (oneG p [n]) l := by
  rw [applyN_step p _ (by simp), group_one n l h1 h2]
  rfl
theorem colorG_id (c : Co) (g : List Int) (m : Int) (h : m < 0 ∨ (10 ≤ m ∧ m < 60) ∨ 68 ≤ m) : colorG c g m = c := by
  unfold colorG
  rw [if_neg (by omega), if_neg (by omega), if_neg (by omega), if_neg (by omega)]
theorem oneG_small (p : Pn) (n : Int) (h1 : 1 ≤ n) (h2 : n < 30) : oneG p [n] = ⟨p.f, p.b, flagsK n (if n = 22 then bits .andNot .u8 p.x 3 else p.x) 8⟩ := by
  unfold oneG oneN
  simp only [List.getD_cons_zero]
  rw [if_neg (by omega), colorG_id _ _ _ (by omega), colorG_id _ _ _ (by omega)]
theorem oneG_far (p : Pn) (n : Int) (g : List Int) (h1 : 30 ≤ n) : oneG p (n :: g) = ⟨colorG p.f (n :: g) (n - 30), colorG p.b (n :: g) (n - 40), p.x⟩ := by
  unfold oneG oneN
  simp only [List.getD_cons_zero]
  rw [if_neg (by omega), flags_far _ _ h1]
theorem apply_zero (p : Pn) (l : List Int) : applyN p (0 :: l) = applyN pnZ l := by
  rw [apply_cons1 p 0 l (by decide) (by decide)]
  rfl

/-! Colors. -/
theorem colorG_zero (c : Co) (g : List Int) : colorG c g 9 = coZ := by
  unfold colorG; rw [if_neg (by omega), if_neg (by omega), if_pos rfl]
theorem colorG_low (c : Co) (g : List Int) (m : Int) (h : 0 ≤ m ∧ m < 8) : colorG c g m = coI m := by unfold colorG; rw [if_pos h]
theorem colorG_high (c : Co) (g : List Int) (m : Int) (h : 60 ≤ m ∧ m < 68) : colorG c g m = coI (m - 60 + 8) := by unfold colorG; rw [if_neg (by omega), if_pos h]
theorem colorG_ext (c : Co) (g : List Int) (h : extB g = true) : colorG c g 8 = extC g := by unfold colorG; rw [if_neg (by omega), if_neg (by omega), if_neg (by omega), if_pos ⟨rfl, h⟩]
theorem color_kinds {c : Co} (h : validC c = true) : c = coZ ∨ c = coI c.i ∨ c = coT c.r c.g c.b := by
  obtain ⟨k, i, r, g, b⟩ := c
  unfold validC at h
  simp only at h
  split at h
  · next h0 =>
    simp only [decide_eq_true_eq] at h
    obtain ⟨rfl, rfl, rfl, rfl⟩ := h
    subst h0
    exact .inl rfl
  · split at h
    · next h1 =>
      simp only [decide_eq_true_eq] at h
      obtain ⟨rfl, rfl, rfl⟩ := h
      subst h1
      exact .inr (.inl rfl)
    · split at h
      · next h2 =>
        simp only [decide_eq_true_eq] at h
        subst h h2
        exact .inr (.inr rfl)
      · cases h
theorem apply_fore (f b : Co) (x : Int) (c : Co) (l : List Int) (hv : validC c = true) (hw : wfC c) : applyN ⟨f, b, x⟩ (numsN c 30 ++ l) = applyN ⟨c, b, x⟩ l := by
  obtain ⟨⟨i1, i2⟩, ⟨r1, r2⟩, ⟨g1, g2⟩, ⟨b1, b2⟩⟩ := hw
  rcases color_kinds hv with hc | hc | hc
  · subst hc
    rw [show numsN coZ 30 = [39] from rfl, List.singleton_append, apply_cons1 _ _ _ (by decide) (by decide), oneG_far _ _ _ (by decide)]
    simp only
    rw [show (39 : Int) - 30 = 9 from rfl, colorG_zero, colorG_id _ _ _ (by omega)]
  · rw [hc]
    generalize c.i = i at *
    clear hc hv
    by_cases h8 : i < 8
    · rw [show numsN (coI i) 30 = [30 + i] by unfold numsN coI; simp only; rw [if_neg (by decide), if_neg (by decide), if_pos h8], List.singleton_append, apply_cons1 _ _ _ (by omega) (by omega), oneG_far _ _ _ (by omega)]
      simp only
      rw [colorG_low _ _ _ (by omega), colorG_id _ _ _ (by omega), show 30 + i - 30 = i by omega]
    by_cases h16 : i < 16
    · rw [show numsN (coI i) 30 = [30 + 60 + i - 8] by unfold numsN coI; simp only; rw [if_neg (by decide), if_neg (by decide), if_neg h8, if_pos h16], List.singleton_append, apply_cons1 _ _ _ (by omega) (by omega), oneG_far _ _ _ (by omega)]
      simp only
      rw [colorG_high _ _ _ (by omega), colorG_id _ _ _ (by omega), show 30 + 60 + i - 8 - 30 - 60 + 8 = i by omega]
    · rw [show numsN (coI i) 30 = [38, 5, i] by unfold numsN coI; simp only; rw [if_neg (by decide), if_neg (by decide), if_neg h8, if_neg h16]; rfl]
      rw [applyN_step _ _ (by simp), show groupN ([38, 5, i] ++ l) = 3 by unfold groupN; rw [if_pos ⟨by simp, by simp⟩, if_pos (by simp)]; simp; try omega]
      show applyN (oneG _ [38, 5, i]) l = _
      rw [oneG_far _ _ _ (by decide)]
      simp only
      rw [show (38 : Int) - 30 = 8 from rfl, colorG_ext _ _ (by simp [extB]; omega), colorG_id _ _ _ (by omega), show extC [38, 5, i] = coI i by (show coI (max 0 i) = coI i; rw [show max 0 i = i by omega])]
  · rw [hc]
    generalize c.r = r at *
    generalize c.g = g at *
    generalize c.b = y at *
    clear hc hv
    rw [show numsN (coT r g y) 30 = [38, 2, r, g, y] from rfl]
    rw [applyN_step _ _ (by simp), show groupN ([38, 2, r, g, y] ++ l) = 5 by unfold groupN; rw [if_pos ⟨by simp, by simp⟩, if_neg (by simp), if_pos (by simp)]; simp; try omega]
    show applyN (oneG _ [38, 2, r, g, y]) l = _
    rw [oneG_far _ _ _ (by decide)]
    simp only
    rw [show (38 : Int) - 30 = 8 from rfl, colorG_ext _ _ (by simp [extB]; omega), colorG_id _ _ _ (by omega), show extC [38, 2, r, g, y] = coT r g y by unfold extC; simp; rw [show max 0 r = r by omega, show max 0 g = g by omega, show max 0 y = y by omega]]
theorem apply_back (f b : Co) (x : Int) (c : Co) (l : List Int) (hv : validC c = true) (hw : wfC c) : applyN ⟨f, b, x⟩ (numsN c 40 ++ l) = applyN ⟨f, c, x⟩ l := by
  obtain ⟨⟨i1, i2⟩, ⟨r1, r2⟩, ⟨g1, g2⟩, ⟨b1, b2⟩⟩ := hw
  rcases color_kinds hv with hc | hc | hc
  · subst hc
    rw [show numsN coZ 40 = [49] from rfl, List.singleton_append, apply_cons1 _ _ _ (by decide) (by decide), oneG_far _ _ _ (by decide)]
    simp only
    rw [show (49 : Int) - 40 = 9 from rfl, colorG_zero, colorG_id _ _ _ (by omega)]
  · rw [hc]
    generalize c.i = i at *
    clear hc hv
    by_cases h8 : i < 8
    · rw [show numsN (coI i) 40 = [40 + i] by unfold numsN coI; simp only; rw [if_neg (by decide), if_neg (by decide), if_pos h8], List.singleton_append, apply_cons1 _ _ _ (by omega) (by omega), oneG_far _ _ _ (by omega)]
      simp only
      rw [colorG_id _ _ _ (by omega), colorG_low _ _ _ (by omega), show 40 + i - 40 = i by omega]
    by_cases h16 : i < 16
    · rw [show numsN (coI i) 40 = [40 + 60 + i - 8] by unfold numsN coI; simp only; rw [if_neg (by decide), if_neg (by decide), if_neg h8, if_pos h16], List.singleton_append, apply_cons1 _ _ _ (by omega) (by omega), oneG_far _ _ _ (by omega)]
      simp only
      rw [colorG_id _ _ _ (by omega), colorG_high _ _ _ (by omega), show 40 + 60 + i - 8 - 40 - 60 + 8 = i by omega]
    · rw [show numsN (coI i) 40 = [48, 5, i] by unfold numsN coI; simp only; rw [if_neg (by decide), if_neg (by decide), if_neg h8, if_neg h16]; rfl]
      rw [applyN_step _ _ (by simp), show groupN ([48, 5, i] ++ l) = 3 by unfold groupN; rw [if_pos ⟨by simp, by simp⟩, if_pos (by simp)]; simp; try omega]
      show applyN (oneG _ [48, 5, i]) l = _
      rw [oneG_far _ _ _ (by decide)]
      simp only
      rw [show (48 : Int) - 40 = 8 from rfl, colorG_ext _ _ (by simp [extB]; omega), colorG_id _ _ _ (by omega), show extC [48, 5, i] = coI i by (show coI (max 0 i) = coI i; rw [show max 0 i = i by omega])]
  · rw [hc]
    generalize c.r = r at *
    generalize c.g = g at *
    generalize c.b = y at *
    clear hc hv
    rw [show numsN (coT r g y) 40 = [48, 2, r, g, y] from rfl]
    rw [applyN_step _ _ (by simp), show groupN ([48, 2, r, g, y] ++ l) = 5 by unfold groupN; rw [if_pos ⟨by simp, by simp⟩, if_neg (by simp), if_pos (by simp)]; simp; try omega]
    show applyN (oneG _ [48, 2, r, g, y]) l = _
    rw [oneG_far _ _ _ (by decide)]
    simp only
    rw [show (48 : Int) - 40 = 8 from rfl, colorG_ext _ _ (by simp [extB]; omega), colorG_id _ _ _ (by omega), show extC [48, 2, r, g, y] = coT r g y by unfold extC; simp; rw [show max 0 r = r by omega, show max 0 g = g by omega, show max 0 y = y by omega]]

/-! Flags. -/
def pw : Nat → Int
  | 0 => 1
  | 1 => 2
  | 2 => 4
  | 3 => 8
  | 4 => 16
  | 5 => 32
  | 6 => 64
  | 7 => 128
  | _ => 256
theorem orL : ∀ k : Fin 8, ∀ f : Fin 256, bits .or .u8 (f.val : Int) (mF k.val) = if (f.val : Int) / pw k.val % 2 = 1 then (f.val : Int) else (f.val : Int) + pw k.val := by decide +kernel
theorem offL : ∀ k : Fin 8, ∀ f : Fin 256, bits .andNot .u8 (f.val : Int) (mF k.val) = if (f.val : Int) / pw k.val % 2 = 1 then (f.val : Int) - pw k.val else (f.val : Int) := by decide +kernel
theorem andL : ∀ k : Fin 8, ∀ f : Fin 256, (bits .and .u8 (f.val : Int) (mF k.val) = 0 ↔ (f.val : Int) / pw k.val % 2 = 0) := by decide +kernel
theorem off3 : ∀ f : Fin 256, bits .andNot .u8 (f.val : Int) 3 = (f.val : Int) - (f.val : Int) % 4 := by decide +kernel
theorem and3 : ∀ f : Fin 256, bits .and .u8 (f.val : Int) 3 = (f.val : Int) % 4 := by decide +kernel
theorem offC : ∀ c : Fin 4, ∀ f : Fin 256, bits .andNot .u8 (c.val : Int) (f.val : Int) = 0 → ((c.val : Int) % 2 = 1 → (f.val : Int) % 2 = 1) ∧ ((c.val : Int) / 2 = 1 → (f.val : Int) / 2 % 2 = 1) := by decide +kernel
theorem fin_of (f : Int) (h : 0 ≤ f ∧ f ≤ 255) : ∃ x : Fin 256, (x.val : Int) = f := ⟨⟨f.toNat, by omega⟩, by simp; omega⟩
theorem or_at (k : Nat) (hk : k < 8) (f : Int) (h : 0 ≤ f ∧ f ≤ 255) : bits .or .u8 f (mF k) = if f / pw k % 2 = 1 then f else f + pw k := by
  obtain ⟨x, rfl⟩ := fin_of f h; exact orL ⟨k, hk⟩ x
theorem off_at (k : Nat) (hk : k < 8) (f : Int) (h : 0 ≤ f ∧ f ≤ 255) : bits .andNot .u8 f (mF k) = if f / pw k % 2 = 1 then f - pw k else f := by
  obtain ⟨x, rfl⟩ := fin_of f h; exact offL ⟨k, hk⟩ x
theorem and_at (k : Nat) (hk : k < 8) (f : Int) (h : 0 ≤ f ∧ f ≤ 255) : bits .and .u8 f (mF k) = 0 ↔ f / pw k % 2 = 0 := by
  obtain ⟨x, rfl⟩ := fin_of f h; exact andL ⟨k, hk⟩ x
theorem off3_at (f : Int) (h : 0 ≤ f ∧ f ≤ 255) : bits .andNot .u8 f 3 = f - f % 4 := by
  obtain ⟨x, rfl⟩ := fin_of f h; exact off3 x
theorem on_step (f b : Co) (x : Int) (k : Nat) (hk : k < 8) : oneG ⟨f, b, x⟩ [mN k] = ⟨f, b, bits .or .u8 x (mF k)⟩ := by
  have := mN_le k hk
  rw [oneG_small _ _ (by omega) (by omega)]
  match k, hk with
  | 0, _ | 1, _ | 2, _ | 3, _ | 4, _ | 5, _ | 6, _ | 7, _ => simp [flagsK, flagStep, ms, mN, mF]
theorem off_step (f b : Co) (x : Int) (k : Nat) (hk : k < 8) (h2 : 2 ≤ k) : oneG ⟨f, b, x⟩ [mN k + 20] = ⟨f, b, bits .andNot .u8 x (mF k)⟩ := by
  have := mN_le k hk
  have b4 : bits .and .u8 4 3 = 0 := by decide
  have b8 : bits .and .u8 8 3 = 0 := by decide
  have b16 : bits .and .u8 16 3 = 0 := by decide
  have b32 : bits .and .u8 32 3 = 0 := by decide
  have b64 : bits .and .u8 64 3 = 0 := by decide
  have b128 : bits .and .u8 128 3 = 0 := by decide
  rw [oneG_small _ _ (by omega) (by omega)]
  match k, hk, h2 with
  | 2, _, _ | 3, _, _ | 4, _, _ | 5, _, _ | 6, _, _ | 7, _, _ => simp [flagsK, flagStep, ms, mN, mF, b4, b8, b16, b32, b64, b128]
theorem step22 (f b : Co) (x : Int) : oneG ⟨f, b, x⟩ [22] = ⟨f, b, bits .andNot .u8 x 3⟩ := by
  have b2 : bits .and .u8 2 3 = 2 := by decide
  rw [oneG_small _ _ (by omega) (by omega)]
  simp [flagsK, flagStep, ms, b2]
/-- The lower flags out of b, the others out of a. -/
def mix (k : Nat) (a b : Int) : Int := b % pw k + (a / pw k) * pw k
theorem mix_range (k : Nat) (hk : k < 8) (a b : Int) (ha : 0 ≤ a ∧ a ≤ 255) (hb : 0 ≤ b ∧ b ≤ 255) : 0 ≤ mix k a b ∧ mix k a b ≤ 255 := by
  match k, hk with
  | 0, _ | 1, _ | 2, _ | 3, _ | 4, _ | 5, _ | 6, _ | 7, _ => simp only [mix, pw]; omega
theorem mix_on (k : Nat) (hk : k < 8) (a b : Int) (ha : 0 ≤ a ∧ a ≤ 255) (hb : 0 ≤ b ∧ b ≤ 255) (h1 : a / pw k % 2 = 0) (h2 : ¬ b / pw k % 2 = 0) : bits .or .u8 (mix k a b) (mF k) = mix (k + 1) a b := by
  rw [or_at k hk _ (mix_range k hk a b ha hb)]
  by_cases hc : mix k a b / pw k % 2 = 1
  · rw [if_pos hc]
    match k, hk with
    | 0, _ | 1, _ | 2, _ | 3, _ | 4, _ | 5, _ | 6, _ | 7, _ => simp only [mix, pw, Nat.reduceAdd] at *; omega
  · rw [if_neg hc]
    match k, hk with
    | 0, _ | 1, _ | 2, _ | 3, _ | 4, _ | 5, _ | 6, _ | 7, _ => simp only [mix, pw, Nat.reduceAdd] at *; omega
theorem mix_off (k : Nat) (hk : k < 8) (a b : Int) (ha : 0 ≤ a ∧ a ≤ 255) (hb : 0 ≤ b ∧ b ≤ 255) (h1 : ¬ a / pw k % 2 = 0) (h2 : b / pw k % 2 = 0) : bits .andNot .u8 (mix k a b) (mF k) = mix (k + 1) a b := by
  rw [off_at k hk _ (mix_range k hk a b ha hb)]
  by_cases hc : mix k a b / pw k % 2 = 1
  · rw [if_pos hc]
    match k, hk with
    | 0, _ | 1, _ | 2, _ | 3, _ | 4, _ | 5, _ | 6, _ | 7, _ => simp only [mix, pw, Nat.reduceAdd] at *; omega
  · rw [if_neg hc]
    match k, hk with
    | 0, _ | 1, _ | 2, _ | 3, _ | 4, _ | 5, _ | 6, _ | 7, _ => simp only [mix, pw, Nat.reduceAdd] at *; omega
theorem mix_same (k : Nat) (hk : k < 8) (a b : Int) (ha : 0 ≤ a ∧ a ≤ 255) (hb : 0 ≤ b ∧ b ≤ 255) (h : a / pw k % 2 = b / pw k % 2) : mix k a b = mix (k + 1) a b := by
  match k, hk with
  | 0, _ | 1, _ | 2, _ | 3, _ | 4, _ | 5, _ | 6, _ | 7, _ => simp only [mix, pw, Nat.reduceAdd] at *; omega
theorem flags_step (f b : Co) (ax bx : Int) (k : Nat) (hk : k < 8) (l : List Int) (ha : 0 ≤ ax ∧ ax ≤ 255) (hb : 0 ≤ bx ∧ bx ≤ 255) (hlow : k < 2 → ¬ (¬ ax / pw k % 2 = 0 ∧ bx / pw k % 2 = 0)) : applyN ⟨f, b, mix k ax bx⟩ (chg1 ax bx (mF k) (mN k) ++ l) = applyN ⟨f, b, mix (k + 1) ax bx⟩ l := by
  have hn := mN_le k hk
  unfold chg1
  simp only [ne_eq, and_at k hk ax ha, and_at k hk bx hb]
  split
  · next h =>
    rw [List.singleton_append, apply_cons1 _ _ _ (by omega) (by omega), on_step f b _ k hk, mix_on k hk ax bx ha hb h.2 h.1]
  · next h1 =>
    split
    · next h =>
      have h2 : 2 ≤ k := by
        rcases Nat.lt_or_ge k 2 with h2 | h2
        · exact absurd h (hlow h2)
        · exact h2
      rw [List.singleton_append, apply_cons1 _ _ _ (by omega) (by omega), off_step f b _ k hk h2, mix_off k hk ax bx ha hb h.1 h.2]
    · next h2 =>
      rw [List.nil_append, ← mix_same k hk ax bx ha hb (by
        by_cases q1 : ax / pw k % 2 = 0
        · by_cases q2 : bx / pw k % 2 = 0
          · rw [q1, q2]
          · exact absurd ⟨q2, q1⟩ h1
        · by_cases q2 : bx / pw k % 2 = 0
          · exact absurd ⟨q1, q2⟩ h2
          · omega)]
theorem flags_apply (f b : Co) (ax bx : Int) (k : Nat) (hk : k ≤ 8) (ha : 0 ≤ ax ∧ ax ≤ 255) (hb : 0 ≤ bx ∧ bx ≤ 255) (hlow : ∀ j, j < 2 → ¬ (¬ ax / pw j % 2 = 0 ∧ bx / pw j % 2 = 0)) : ∀ l, applyN ⟨f, b, ax⟩ (chgK ax bx k ++ l) = applyN ⟨f, b, mix k ax bx⟩ l := by
  induction k with
  | zero => intro l; simp [chgK, mix, pw]
  | succ k ih =>
    intro l
    rw [chgK_succ, List.append_assoc, ih (by omega), flags_step f b ax bx k (by omega) l ha hb (hlow k)]
theorem mix_8 (a b : Int) (ha : 0 ≤ a ∧ a ≤ 255) (hb : 0 ≤ b ∧ b ≤ 255) : mix 8 a b = b := by
  simp only [mix, pw]; omega
theorem low_of (a b : Int) (ha : 0 ≤ a ∧ a ≤ 255) (hb : 0 ≤ b ∧ b ≤ 255) (h : weightN a b = false) : ∀ j, j < 2 → ¬ (¬ a / pw j % 2 = 0 ∧ b / pw j % 2 = 0) := by
  unfold weightN at h
  rw [← weight_two a b ha hb] at h
  have h : bits .andNot .u8 (bits .and .u8 a 3) b = 0 := by simpa using h
  obtain ⟨x, rfl⟩ := fin_of a ha
  obtain ⟨y, rfl⟩ := fin_of b hb
  rw [and3 x] at h
  have hc := offC ⟨x.val % 4, by omega⟩ y (by simpa using h)
  simp only at hc
  intro j hj
  match j, hj with
  | 0, _ => simp only [pw]; omega
  | 1, _ => simp only [pw]; omega
theorem less_range (a b : Int) (ha : 0 ≤ a ∧ a ≤ 255) : 0 ≤ lessN a b ∧ lessN a b ≤ 255 := by
  unfold lessN; split
  · exact andNot_range _ _
  · exact ha
/-- The changes make the second pen out of the first one. -/
theorem chg_apply (a b : Pn) (ha : wfP a) (hb : wfP b) (hvb : validP b = true) (l : List Int) : applyN a (chgN a b ++ l) = applyN b l := by
  unfold validP at hvb
  rw [Bool.and_eq_true] at hvb
  obtain ⟨v1, v2⟩ := hvb
  obtain ⟨fa, ba, ax⟩ := a
  obtain ⟨fb, bb, bx⟩ := b
  obtain ⟨_, _, ha⟩ := ha
  obtain ⟨w1, w2, hb⟩ := hb
  simp only at ha hb v1 v2 w1 w2
  have hl := less_range ax bx ha
  unfold chgN
  simp only [List.append_assoc]
  have h1 : ∀ l, applyN ⟨fa, ba, ax⟩ (headN ax bx ++ l) = applyN ⟨fa, ba, lessN ax bx⟩ l := by
    intro l
    unfold headN lessN
    cases hw : weightN ax bx
    · rfl
    · rw [if_pos rfl, if_pos rfl, List.singleton_append, apply_cons1 _ _ _ (by decide) (by decide), step22]
  have hlow : ∀ j, j < 2 → ¬ (¬ (lessN ax bx) / pw j % 2 = 0 ∧ bx / pw j % 2 = 0) := by
    unfold lessN
    cases hw : weightN ax bx
    · rw [if_neg (by decide)]; exact low_of ax bx ha hb hw
    · rw [if_pos rfl, off3_at ax ha]
      intro j hj
      match j, hj with
      | 0, _ => simp only [pw]; omega
      | 1, _ => simp only [pw]; omega
  rw [h1, flags_apply fa ba (lessN ax bx) bx 8 (Nat.le_refl _) hl hb hlow, mix_8 _ _ hl hb]
  have h2 : ∀ l, applyN ⟨fa, ba, bx⟩ ((if fa = fb then [] else numsN fb 30) ++ l) = applyN ⟨fb, ba, bx⟩ l := by
    intro l
    split
    · next h => rw [h]; rfl
    · exact apply_fore fa ba bx fb l v1 w1
  have h3 : ∀ l, applyN ⟨fb, ba, bx⟩ ((if ba = bb then [] else numsN bb 40) ++ l) = applyN ⟨fb, bb, bx⟩ l := by
    intro l
    split
    · next h => rw [h]; rfl
    · exact apply_back fb ba bx bb l v2 w2
  rw [h2, h3]
theorem codes_apply (a b : Pn) (hb : wfP b) (hvb : validP b = true) : applyN a (codesN b) = b := by
  have := chg_apply pnZ b wfZ hb hvb []
  rw [List.append_nil] at this
  show applyN a (0 :: chgN pnZ b) = b
  rw [apply_zero, this]
  rfl
theorem between_apply (a b : Pn) (ha : wfP a) (hb : wfP b) (hvb : validP b = true) : applyN a (betweenN a b) = b := by
  unfold betweenN
  split
  · exact codes_apply a b hb hvb
  · have := chg_apply a b ha hb hvb []
    rw [List.append_nil] at this
    rw [this]; rfl
theorem between_len (a b : Pn) : (betweenN a b).length ≤ (codesN b).length := by
  unfold betweenN; split
  · exact Nat.le_refl _
  · next h => omega
/-! The numbers are right. -/
theorem right_app (l m : List Int) : rightN (l ++ m) = (rightN l && rightN m) := by unfold rightN; rw [List.all_append]
theorem right_nums (c : Co) (base : Int) (hb : 0 ≤ base ∧ base ≤ 100) (hw : wfC c) : rightN (numsN c base) = true := by
  obtain ⟨⟨i1, i2⟩, ⟨r1, r2⟩, ⟨g1, g2⟩, ⟨b1, b2⟩⟩ := hw
  unfold numsN rightN
  repeat' split
  all_goals simp
  all_goals omega
theorem right_chgK (a b : Int) (k : Nat) (hk : k ≤ 8) : rightN (chgK a b k) = true := by
  induction k with
  | zero => rfl
  | succ k ih =>
    rw [chgK_succ, right_app, ih (by omega), Bool.true_and]
    have := mN_le k (by omega)
    unfold chg1 rightN
    repeat' split
    all_goals simp
    all_goals omega
theorem right_chg (a b : Pn) (hb : wfP b) : rightN (chgN a b) = true := by
  unfold chgN
  rw [right_app, right_app, right_app, right_chgK _ _ 8 (Nat.le_refl _)]
  have h1 : rightN (headN a.x b.x) = true := by unfold headN; split <;> rfl
  rw [h1]
  have h2 : rightN (if a.f = b.f then [] else numsN b.f 30) = true := by
    split
    · rfl
    · exact right_nums _ _ (by omega) hb.1
  have h3 : rightN (if a.b = b.b then [] else numsN b.b 40) = true := by
    split
    · rfl
    · exact right_nums _ _ (by omega) hb.2.1
  rw [h2, h3]; rfl
theorem right_codes (b : Pn) (hb : wfP b) : rightN (codesN b) = true := by
  unfold codesN; rw [right_app, right_chg _ _ hb]; rfl
theorem right_between (a b : Pn) (hb : wfP b) : rightN (betweenN a b) = true := by
  unfold betweenN; split
  · exact right_codes b hb
  · exact right_chg a b hb
/-! Pens stay valid. -/
theorem color_ok (c : Co) (g : List Int) (m : Int) (hv : validC c = true) (hw : wfC c) : validC (colorG c g m) = true ∧ wfC (colorG c g m) := by
  have hI : ∀ n, 0 ≤ n → n ≤ 255 → validC (coI n) = true ∧ wfC (coI n) := fun n h1 h2 => ⟨by unfold validC coI; simp, by unfold wfC coI; simp; omega⟩
  unfold colorG
  split
  · exact hI m (by omega) (by omega)
  · split
    · exact hI _ (by omega) (by omega)
    · split
      · exact ⟨rfl, by unfold wfC coZ; simp⟩
      · split
        · next h =>
          obtain ⟨_, h⟩ := h
          unfold extB at h
          simp only [Bool.or_eq_true, Bool.and_eq_true, decide_eq_true_eq] at h
          unfold extC
          split
          · next h3 => exact hI _ (by omega) (by omega)
          · next h3 =>
            rcases h with h | h
            · exact absurd h.1.1 h3
            · exact ⟨by unfold validC coT; simp, by unfold wfC coT; simp only; omega⟩
        · exact ⟨hv, hw⟩
theorem flagsK_range (n x : Int) (k : Nat) (hx : 0 ≤ x ∧ x ≤ 255) : 0 ≤ flagsK n x k ∧ flagsK n x k ≤ 255 := by
  unfold flagsK
  have key : ∀ (L : List (Int × Int)) (x : Int), 0 ≤ x ∧ x ≤ 255 → 0 ≤ L.foldl (flagStep n) x ∧ L.foldl (flagStep n) x ≤ 255 := by
    intro L
    induction L with
    | nil => intro x h; exact h
    | cons m L ih =>
      intro x h
      refine ih _ ?_
      unfold flagStep
      split
      · exact or_range _ _
      · split
        · exact andNot_range _ _
        · exact h
  exact key _ x hx
theorem oneG_ok (p : Pn) (g : List Int) (hv : validP p = true) (hw : wfP p) : validP (oneG p g) = true ∧ wfP (oneG p g) := by
  unfold oneG
  split
  · exact ⟨rfl, wfZ⟩
  · unfold oneN
    unfold validP at hv
    rw [Bool.and_eq_true] at hv
    have h1 := color_ok p.f g (g.getD 0 0 - 30) hv.1 hw.1
    have h2 := color_ok p.b g (g.getD 0 0 - 40) hv.2 hw.2.1
    refine ⟨?_, h1.2, h2.2, ?_⟩
    · unfold validP; rw [Bool.and_eq_true]; exact ⟨h1.1, h2.1⟩
    · refine flagsK_range _ _ _ ?_
      split
      · exact andNot_range _ _
      · exact hw.2.2
theorem applyF_ok (k : Nat) : ∀ (p : Pn) (l : List Int), validP p = true → wfP p → validP (applyF k p l) = true ∧ wfP (applyF k p l) := by
  induction k with
  | zero => intro p l h1 h2; exact ⟨h1, h2⟩
  | succ k ih =>
    intro p l h1 h2
    unfold applyF
    split
    · exact ⟨h1, h2⟩
    · have := oneG_ok p (l.take (groupN l)) h1 h2
      exact ih _ _ this.1 this.2
theorem apply_okay (p : Pn) (l : List Int) (h1 : validP p = true) (h2 : wfP p) : validP (applyN p l) = true ∧ wfP (applyN p l) := applyF_ok _ p l h1 h2
/-! Lists in two parts. -/
theorem group_arith (x y z : Int) (n k : Nat) (hn : 1 ≤ n) (hy : 2 ≤ n → y = z) (h : (if (x = 38 ∨ x = 48) ∧ 2 ≤ n + k then (if y = 5 then min 3 (n + k) else if y = 2 then min 5 (n + k) else 1) else 1) ≤ n) : (if (x = 38 ∨ x = 48) ∧ 2 ≤ n + k then (if y = 5 then min 3 (n + k) else if y = 2 then min 5 (n + k) else 1) else 1) = (if (x = 38 ∨ x = 48) ∧ 2 ≤ n then (if z = 5 then min 3 n else if z = 2 then min 5 n else 1) else 1) := by
  by_cases hx : x = 38 ∨ x = 48
  · by_cases h2 : 2 ≤ n
    · have h3 : 2 ≤ n + k := by omega
      have := hy h2
      subst this
      simp only [hx, h2, h3, and_self, if_true] at h ⊢
      by_cases h5 : y = 5
      · simp only [h5, if_true] at h ⊢; omega
      · by_cases h6 : y = 2
        · simp only [h5, h6, if_true, if_false] at h ⊢
          simp at h ⊢
          omega
        · simp only [h5, h6, if_false]
    · simp only [hx, h2, and_false, true_and, if_false] at h ⊢
      by_cases h3 : 2 ≤ n + k
      · simp only [h3, if_true] at h ⊢
        by_cases h5 : y = 5
        · simp only [h5, if_true] at h; omega
        · by_cases h6 : y = 2
          · simp only [h5, h6, if_true, if_false] at h
            simp at h
            omega
          · simp only [h5, h6, if_false]
      · simp only [h3, if_false]
  · simp only [hx, false_and, if_false]
theorem group_part (l m : List Int) (h0 : l ≠ []) (h : groupN (l ++ m) ≤ l.length) : groupN (l ++ m) = groupN l := by
  have hp := List.length_pos_iff.2 h0
  unfold groupN at h ⊢
  have e0 : (l ++ m).getD 0 0 = l.getD 0 0 := by
    rw [List.getD_eq_getElem?_getD, List.getD_eq_getElem?_getD, List.getElem?_append_left hp]
  rw [List.length_append] at h ⊢
  rw [e0] at h ⊢
  refine group_arith _ _ _ _ _ hp (fun h2 => ?_) h
  rw [List.getD_eq_getElem?_getD, List.getD_eq_getElem?_getD, List.getElem?_append_left (by omega)]
theorem part_step (p : Pn) (l m : List Int) (h0 : l ≠ []) (h : groupN (l ++ m) ≤ l.length) :
    applyN p (l ++ m) = applyN (oneG p (l.take (groupN (l ++ m)))) (l.drop (groupN (l ++ m)) ++ m) ∧ applyN p l = applyN (oneG p (l.take (groupN (l ++ m)))) (l.drop (groupN (l ++ m))) := by
  have he := group_part l m h0 h
  constructor
  · rw [applyN_step p (l ++ m) (by simp [h0]), List.take_append_of_le_length h, List.drop_append_of_le_length h]
  · rw [applyN_step p l h0, he]

end Go.Proofs.YtdoeiaekimbecaaDoor
