/- paste: counting in the bytes of runes: plain mathematics. -/
import Derived.Test.YtnihneffgbhjjaaDoorP
import Derived.Lib.CountLaws
import Derived.Lib.RuneCount
set_option linter.unusedSimpArgs false
set_option linter.unusedVariables false
set_option linter.unnecessarySimpa false
namespace Go.Proofs.YtnihneffgbhjjaaDoor
open Go.RowKit

/-- How many times 239, 191, 189 stand one behind the other. -/
def occ3 : List Int → Nat
  | [] => 0
  | a :: l => (if a = 239 ∧ l.head? = some 191 ∧ l.tail.head? = some 189 then 1 else 0) + occ3 l
def u8 (xs : List Int) : List UInt8 := xs.map fun n => UInt8.ofNat n.toNat
theorem u8_eq {a : Int} (h : Byte a) (n : Nat) (hn : n < 256) : (UInt8.ofNat a.toNat = UInt8.ofNat n) ↔ a = n := by
  unfold Byte at h
  constructor
  · intro e
    have := congrArg UInt8.toNat e
    simp only [UInt8.toNat_ofNat'] at this
    omega
  · rintro rfl; rfl
theorem occ3_hit (l : List Int) : occ3 (239 :: 191 :: 189 :: l) = 1 + occ3 l := by
  simp [occ3]
theorem occ3_miss (a : Int) (l : List Int) (h : ¬ (a = 239 ∧ l.head? = some 191 ∧ l.tail.head? = some 189)) : occ3 (a :: l) = occ3 l := by
  show (if a = 239 ∧ l.head? = some 191 ∧ l.tail.head? = some 189 then 1 else 0) + occ3 l = occ3 l
  rw [if_neg h, Nat.zero_add]
theorem index_cons (b : UInt8) (l sub : List UInt8) (hs : sub ≠ []) (h : Lib.occAt (b :: l) sub 0 = false) : Lib.index (b :: l) sub = if Lib.index l sub = -1 then -1 else Lib.index l sub + 1 := by
  have hl : ∀ j, Lib.occAt (b :: l) sub (j + 1) = Lib.occAt l sub j := fun j => rfl
  rcases Lib.index_spec l sub with ⟨h1, h2⟩ | ⟨i, h1, h2, h3, h4⟩
  · rw [h1, if_pos rfl]
    refine Lib.index_none fun j hj => ?_
    match j with
    | 0 => exact h
    | j + 1 => rw [hl]; exact h2 j (by simpa using hj)
  · rw [h1, if_neg (by omega)]
    refine (Lib.index_first (i := i + 1) (by simpa using h2) (by rw [hl]; exact h3) fun j hj => ?_).trans (by simp)
    match j with
    | 0 => exact h
    | j + 1 => rw [hl]; exact h4 j (by omega)
theorem count_cons (b : UInt8) (l sub : List UInt8) (hs : sub ≠ []) (h : Lib.occAt (b :: l) sub 0 = false) : Lib.count (b :: l) sub = Lib.count l sub := by
  have hi := index_cons b l sub hs h
  rcases Lib.index_spec l sub with ⟨h1, _⟩ | ⟨i, h1, _⟩
  · rw [h1, if_pos rfl] at hi
    rw [Lib.count_miss hi, Lib.count_miss h1]
  · rw [h1, if_neg (by omega)] at hi
    rw [Lib.count_hit hs h1, Lib.count_hit (i := i + 1) hs (by rw [hi]; simp)]
    rw [show i + 1 + sub.length = (i + sub.length) + 1 by omega, List.drop_succ_cons]
theorem occAt3 (a : Int) (l : List Int) (ha : Byte a) (hl : ∀ x ∈ l, Byte x) : Lib.occAt (u8 (a :: l)) [239, 191, 189] 0 = decide (a = 239 ∧ l.head? = some 191 ∧ l.tail.head? = some 189) := by
  have e1 := u8_eq ha 239 (by omega)
  match l, hl with
  | [], _ => simp [Lib.occAt, u8, List.isPrefixOf]
  | [b], _ => simp [Lib.occAt, u8, List.isPrefixOf]
  | b :: c :: l, hl =>
    have e2 := u8_eq (hl b (by simp)) 191 (by omega)
    have e3 := u8_eq (hl c (by simp)) 189 (by omega)
    rw [Bool.eq_iff_iff]
    simp only [Lib.occAt, u8, List.map_cons, List.drop_zero, List.isPrefixOf, Bool.and_true, Bool.and_eq_true, beq_iff_eq, decide_eq_true_eq, List.head?_cons, List.tail_cons, Option.some.injEq]
    exact ⟨fun ⟨h1, h2, h3⟩ => ⟨e1.1 h1.symm, e2.1 h2.symm, e3.1 h3.symm⟩, fun ⟨h1, h2, h3⟩ => ⟨(e1.2 h1).symm, (e2.2 h2).symm, (e3.2 h3).symm⟩⟩
theorem count3 (xs : List Int) (h : ∀ x ∈ xs, Byte x) : Lib.count (u8 xs) [239, 191, 189] = occ3 xs := by
  suffices H : ∀ (n : Nat) (xs : List Int), xs.length ≤ n → (∀ x ∈ xs, Byte x) → Lib.count (u8 xs) [239, 191, 189] = occ3 xs from H _ xs (Nat.le_refl _) h
  intro n
  induction n with
  | zero =>
    intro xs hn _
    have : xs = [] := List.eq_nil_of_length_eq_zero (by omega)
    subst this
    rfl
  | succ n ih =>
    intro xs hn hx
    match xs with
    | [] => rfl
    | a :: l =>
      have ho := occAt3 a l (hx a (by simp)) (fun x h => hx x (by simp [h]))
      by_cases hc : a = 239 ∧ l.head? = some 191 ∧ l.tail.head? = some 189
      · obtain ⟨rfl, h1, h2⟩ := hc
        match l, h1, h2 with
        | b :: c :: l, h1, h2 =>
          obtain rfl : b = 191 := by simpa using h1
          obtain rfl : c = 189 := by simpa using h2
          rw [occ3_hit, Lib.count_hit (i := 0) (by simp) (Lib.index_first (Nat.zero_le _) (by rw [ho]; simp) (fun j h => by omega))]
          rw [← ih l (by simp only [List.length_cons] at hn; omega) (fun x h => hx x (by simp [h]))]
          rfl
      · rw [decide_eq_false hc] at ho
        rw [occ3_miss a l hc]
        show Lib.count (UInt8.ofNat a.toNat :: u8 l) _ = _
        rw [count_cons (UInt8.ofNat a.toNat) (u8 l) _ (by simp) ho]
        exact ih l (by simp only [List.length_cons] at hn; omega) (fun x h => hx x (by simp [h]))

/-! In the bytes of runes. -/
theorem occ3_skip (a : Int) (l : List Int) (h : a ≠ 239) : occ3 (a :: l) = occ3 l := occ3_miss a l (fun e => h e.1)
theorem occ3_enc0 (r : Int) (l : List Int) (h : validR r = true) : occ3 (enc0 r ++ l) = (if r = 65533 then 1 else 0) + occ3 l := by
  have hv := of_decide_eq_true h
  unfold enc0
  by_cases c1 : r < 128
  · rw [if_pos c1, if_neg (by omega), Nat.zero_add]
    exact occ3_skip _ _ (by omega)
  by_cases c2 : r < 2048
  · rw [if_neg c1, if_pos c2, if_neg (by omega), Nat.zero_add]
    show occ3 (_ :: _ :: l) = _
    rw [occ3_skip _ _ (by omega), occ3_skip _ _ (by omega)]
  by_cases c3 : r < 65536
  · rw [if_neg c1, if_neg c2, if_pos c3]
    show occ3 (_ :: _ :: _ :: l) = _
    by_cases h3 : r = 65533
    · subst h3
      rw [if_pos rfl]
      exact occ3_hit l
    · rw [if_neg h3, Nat.zero_add, occ3_miss _ _ (by simp only [List.head?_cons, List.tail_cons, Option.some.injEq]; omega), occ3_skip _ _ (by omega), occ3_skip _ _ (by omega)]
  · rw [if_neg c1, if_neg c2, if_neg c3, if_neg (by omega), Nat.zero_add]
    show occ3 (_ :: _ :: _ :: _ :: l) = _
    rw [occ3_skip _ _ (by omega), occ3_skip _ _ (by omega), occ3_skip _ _ (by omega), occ3_skip _ _ (by omega)]
theorem occ3_encL (ds : List Int) (h : ∀ r ∈ ds, validR r = true) : occ3 (encL ds) = ds.count 65533 := by
  induction ds with
  | nil => rfl
  | cons r ds ih =>
    have e : encL (r :: ds) = enc1 r ++ encL ds := rfl
    have e1 : enc1 r = enc0 r := by unfold enc1; rw [if_pos (h r (by simp))]
    rw [e, e1, occ3_enc0 r _ (h r (by simp)), ih (fun x hx => h x (by simp [hx])), List.count_cons]
    by_cases h3 : r = 65533
    · rw [if_pos h3, if_pos (by simpa using h3)]; omega
    · rw [if_neg h3, if_neg (by simpa using h3)]; omega
theorem cnt13_enc0 (r : Int) (h : validR r = true) : (u8 (enc0 r)).count 13 = if r = 13 then 1 else 0 := by
  have hv := of_decide_eq_true h
  have key : ∀ a : Int, Byte a → a ≠ 13 → (UInt8.ofNat a.toNat == (13 : UInt8)) = false := fun a hb ha => by
    rw [beq_eq_false_iff_ne]
    intro e
    exact ha ((u8_eq hb 13 (by omega)).1 e)
  unfold enc0
  by_cases c1 : r < 128
  · rw [if_pos c1]
    by_cases h3 : r = 13
    · subst h3; rfl
    · simp only [u8, List.map_cons, List.map_nil, List.count_cons, List.count_nil, key r (by unfold Byte; omega) h3]
      rw [if_neg h3]; rfl
  by_cases c2 : r < 2048
  · rw [if_neg c1, if_pos c2, if_neg (by omega)]
    simp only [u8, List.map_cons, List.map_nil, List.count_cons, List.count_nil, key (192 + r / 64) (by unfold Byte; omega) (by omega), key (128 + r % 64) (by unfold Byte; omega) (by omega)]
    rfl
  by_cases c3 : r < 65536
  · rw [if_neg c1, if_neg c2, if_pos c3, if_neg (by omega)]
    simp only [u8, List.map_cons, List.map_nil, List.count_cons, List.count_nil, key (224 + r / 4096) (by unfold Byte; omega) (by omega), key (128 + r / 64 % 64) (by unfold Byte; omega) (by omega), key (128 + r % 64) (by unfold Byte; omega) (by omega)]
    rfl
  · rw [if_neg c1, if_neg c2, if_neg c3, if_neg (by omega)]
    simp only [u8, List.map_cons, List.map_nil, List.count_cons, List.count_nil, key (240 + r / 262144) (by unfold Byte; omega) (by omega), key (128 + r / 4096 % 64) (by unfold Byte; omega) (by omega), key (128 + r / 64 % 64) (by unfold Byte; omega) (by omega), key (128 + r % 64) (by unfold Byte; omega) (by omega)]
    rfl
theorem cnt13_encL (ds : List Int) (h : ∀ r ∈ ds, validR r = true) : (u8 (encL ds)).count 13 = ds.count 13 := by
  induction ds with
  | nil => rfl
  | cons r ds ih =>
    have e : u8 (encL (r :: ds)) = u8 (enc1 r) ++ u8 (encL ds) := by unfold u8; rw [← List.map_append]; rfl
    have e1 : enc1 r = enc0 r := by unfold enc1; rw [if_pos (h r (by simp))]
    rw [e, e1, List.count_append, cnt13_enc0 r (h r (by simp)), ih (fun x hx => h x (by simp [hx])), List.count_cons]
    by_cases h3 : r = 13
    · rw [if_pos h3, if_pos (by simpa using h3)]; omega
    · rw [if_neg h3, if_neg (by simpa using h3)]; omega
theorem runeCountFrom_enc (ds : List Int) (hv : ∀ r ∈ ds, validR r = true) : ∀ (rs pre : List Int) (fuel : Nat), ds = pre ++ rs → rs.length ≤ fuel → Lib.runeCountFrom (strOfNums (encL ds)) fuel (encL pre).length = rs.length := by
  intro rs
  induction rs with
  | nil =>
    intro pre fuel hd _
    rw [List.append_nil] at hd
    subst hd
    exact Lib.runeCountFrom_end _ _ _ (by rw [strOf_size]; omega)
  | cons r rs ih =>
    intro pre fuel hd hf
    match fuel with
    | 0 => simp at hf
    | fuel + 1 =>
      have hel : encL ds = encL pre ++ (enc1 r ++ encL rs) := by rw [hd]; unfold encL; simp
      have hE := enc1_length r
      have hby := encL_byte ds
      have hdec : Utf8.decode (strOfNums (encL ds)) (encL pre).length = (r.toNat, (enc1 r).length) := by
        rw [hel]; rw [hel] at hby; exact decode_enc _ _ _ (hv r (by rw [hd]; simp)) hby
      unfold Lib.runeCountFrom
      rw [if_pos (by rw [strOf_size, hel, List.length_append, List.length_append]; omega), hdec]
      have := ih (pre ++ [r]) fuel (by rw [hd]; simp) (by simp only [List.length_cons] at hf; omega)
      rw [encL_snoc, List.length_append] at this
      rw [this, List.length_cons]; omega
theorem runeCount_enc (ds : List Int) (hv : ∀ r ∈ ds, validR r = true) : Lib.runeCount (strOfNums (encL ds)) = ds.length := by
  have := runeCountFrom_enc ds hv ds [] (strOfNums (encL ds)).size rfl (by rw [strOf_size]; exact (encL_length ds).1)
  exact this

end Go.Proofs.YtnihneffgbhjjaaDoor
