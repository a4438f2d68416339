/- params: the plain law: the text of parameters says them again. -/
import Derived.Test.YtdbjebjmhjljbaaDoorT
set_option linter.unusedSimpArgs false
set_option linter.unusedVariables false
set_option linter.unnecessarySimpa false
namespace Go.Proofs.YtdbjebjmhjljbaaDoor
open Go.RowKit

def asI (l : List UInt8) : List Int := l.map fun b => (b.toNat : Int)
theorem asI_app (a b : List UInt8) : asI (a ++ b) = asI a ++ asI b := by simp [asI]
theorem dig_toNat (i : Nat) (h : i < 10) : ((UInt8.ofNat (48 + i)).toNat : Int) = 48 + i := by
  simp [UInt8.toNat_ofNat']; omega
theorem numF_dec (n : Nat) : n ≤ 9999 → numF (asI (Lib.decDigits n)) = n ∧ asI (Lib.decDigits n) ≠ [] ∧ ∀ c ∈ asI (Lib.decDigits n), 48 ≤ c ∧ c ≤ 57 := by
  induction n using Nat.strongRecOn with
  | _ n ih =>
  intro hn
  by_cases h : n < 10
  · rw [Lib.decDigits_one h]
    have e : asI [UInt8.ofNat (48 + n)] = [(48 + n : Int)] := by simp only [asI, List.map_cons, List.map_nil, dig_toNat n h]
    rw [e]
    refine ⟨?_, by simp, fun c hc => ?_⟩
    · simp [numF]; omega
    · simp at hc; omega
  · obtain ⟨h1, h2, h3⟩ := ih (n / 10) (by omega) (by omega)
    rw [Lib.decDigits, dif_neg h, asI_app]
    have e : asI [UInt8.ofNat (48 + n % 10)] = [((48 + (n % 10 : Nat)) : Int)] := by simp only [asI, List.map_cons, List.map_nil, dig_toNat (n % 10) (by omega)]
    rw [e, numF_snoc, h1]
    refine ⟨by omega, by simp, fun c hc => ?_⟩
    rcases List.mem_append.1 hc with h | h
    · exact h3 c h
    · simp at h; omega
theorem numP_numB (y : Int) (h : -1 ≤ y ∧ y ≤ 9999) : numP (asI (numB y)) = y ∧ ∀ c ∈ asI (numB y), 48 ≤ c ∧ c ≤ 57 := by
  unfold numB
  by_cases h0 : 0 ≤ y
  · obtain ⟨n, rfl⟩ : ∃ n : Nat, y = n := ⟨y.toNat, by omega⟩
    rw [if_pos h0, Lib.itoa_nonneg]
    obtain ⟨h1, h2, h3⟩ := numF_dec n (by omega)
    exact ⟨by unfold numP; rw [if_neg h2, h1], h3⟩
  · rw [if_neg h0]
    exact ⟨by simp [asI, numP]; omega, by simp [asI]⟩
theorem fold_digits (l : List Int) (h : ∀ c ∈ l, 48 ≤ c ∧ c ≤ 57) : ∀ (out part : List Int), l.foldl refS (out, part) = (out, part ++ l) := by
  induction l with
  | nil => intro out part; simp
  | cons c l ih =>
    intro out part
    have hc := h c (by simp)
    simp only [List.foldl_cons]
    rw [show refS (out, part) c = (out, part ++ [c]) by unfold refS; rw [if_neg (by omega)], ih (fun x hx => h x (by simp [hx]))]
    simp
theorem refQ_text (xs : List Int) (hx : ∀ x ∈ xs, -1 ≤ x ∧ x ≤ 9999) : ∀ (x : Int), -1 ≤ x ∧ x ≤ 9999 → refQ (asI (textB (xs ++ [x]))) = (xs, asI (numB x)) ∧ ∀ c ∈ asI (textB (xs ++ [x])), fineR c = true := by
  have key : ∀ (n : Nat) (xs : List Int), xs.length = n → (∀ x ∈ xs, -1 ≤ x ∧ x ≤ 9999) → ∀ (x : Int), -1 ≤ x ∧ x ≤ 9999 → refQ (asI (textB (xs ++ [x]))) = (xs, asI (numB x)) ∧ ∀ c ∈ asI (textB (xs ++ [x])), fineR c = true := by
    intro n
    induction n with
    | zero =>
      intro xs hl _ x h
      have : xs = [] := List.eq_nil_of_length_eq_zero hl
      subst this
      rw [List.nil_append, textB_snoc0]
      obtain ⟨_, h2⟩ := numP_numB x h
      refine ⟨by unfold refQ; rw [fold_digits _ h2]; simp, fun c hc => by have := h2 c hc; simp [fineR]; omega⟩
    | succ n ih =>
      intro xs hl hx x h
      obtain ⟨ys, y, rfl⟩ : ∃ ys y, xs = ys ++ [y] := ⟨xs.dropLast, xs.getLast (by intro e; simp [e] at hl), (List.dropLast_concat_getLast _).symm⟩
      have hy := hx y (by simp)
      obtain ⟨h1, h2⟩ := ih ys (by simp at hl; omega) (fun z hz => hx z (by simp [hz])) y hy
      obtain ⟨_, h4⟩ := numP_numB x h
      rw [textB_snoc _ _ (by simp), asI_app, asI_app]
      constructor
      · unfold refQ at h1 ⊢
        rw [List.foldl_append, List.foldl_append, h1]
        have e : asI [59] = [59] := rfl
        rw [e]
        simp only [List.foldl_cons, List.foldl_nil]
        rw [show refS (ys, asI (numB y)) 59 = (ys ++ [numP (asI (numB y))], []) from rfl, (numP_numB y hy).1, fold_digits _ h4]
        simp
      · intro c hc
        simp only [List.mem_append] at hc
        rcases hc with (hc | hc) | hc
        · exact h2 c hc
        · have : c = 59 := by simpa [asI] using hc
          subst this; rfl
        · have := h4 c hc; simp [fineR]; omega
  exact key xs.length xs rfl hx
theorem refL_text (xs : List Int) (hne : xs ≠ []) (hx : ∀ x ∈ xs, -1 ≤ x ∧ x ≤ 9999) (hl : xs.length ≤ 16) : refL (asI (textB xs)) = xs ∧ ∀ c ∈ asI (textB xs), fineR c = true := by
  obtain ⟨ys, y, rfl⟩ : ∃ ys y, xs = ys ++ [y] := ⟨xs.dropLast, xs.getLast hne, (List.dropLast_concat_getLast _).symm⟩
  obtain ⟨h1, h2⟩ := refQ_text ys (fun z hz => hx z (by simp [hz])) y (hx y (by simp))
  refine ⟨?_, h2⟩
  unfold refL
  rw [h1]
  simp only
  rw [(numP_numB y (hx y (by simp))).1, List.take_of_length_le hl]
theorem refS_ne {q : List Int × List Int} (h : q.1 ≠ []) (c : Int) : (refS q c).1 ≠ [] := by unfold refS; split <;> simp [h]
theorem refQ_ne (l : List Int) : ∀ q : List Int × List Int, q.1 ≠ [] → (l.foldl refS q).1 ≠ [] := by
  induction l with
  | nil => intro q h; exact h
  | cons c l ih => intro q h; exact ih _ (refS_ne h c)
theorem refQ_part (l : List Int) : ∀ part : List Int, (l.foldl refS ([], part)).1 = [] → (l.foldl refS ([], part)).2 = part ++ l := by
  induction l with
  | nil => intro part _; simp
  | cons c l ih =>
    intro part h
    simp only [List.foldl_cons] at h ⊢
    by_cases hc : c = 59
    · exfalso
      refine refQ_ne l _ ?_ h
      unfold refS; rw [if_pos hc]; simp
    · have e : refS ([], part) c = ([], part ++ [c]) := by unfold refS; rw [if_neg hc]
      rw [e] at h ⊢
      rw [ih _ h]; simp
theorem bytesOf_mk (l : List UInt8) : bytesOf ⟨l.toArray⟩ = asI l := by simp [bytesOf, asI]
/-- What Parse makes of the text of valid parameters. -/
theorem parse_text (xs : List Int) (h : validP xs = true) : parseL ⟨(textB xs).toArray⟩ = xs ∧ parseE ⟨(textB xs).toArray⟩ = 0 ∧ (⟨(textB xs).toArray⟩ : ByteArray).size ≤ 1000000 := by
  obtain ⟨h1, h2⟩ := ok_of_valid h
  have hsz : (⟨(textB xs).toArray⟩ : ByteArray).size ≤ 1000000 := by rw [size_mk]; have := textB_len xs (fun x hx => (h1 x hx).2); omega
  by_cases hne : xs = []
  · subst hne; exact ⟨by decide +kernel, by decide +kernel, hsz⟩
  · obtain ⟨h3, h4⟩ := refL_text xs hne h1 h2
    have hf : fineS ⟨(textB xs).toArray⟩ = true := (fineS_iff _).2 (by rw [bytesOf_mk]; exact h4)
    refine ⟨?_, if_pos hf, hsz⟩
    unfold parseL
    rw [if_pos hf, bytesOf_mk, bld_ref _ h4 (fun e => ?_), h3]
    rw [e] at h3
    have : refL [] = [-1] := by decide
    rw [this] at h3
    subst h3
    exact absurd h (by decide)
/-- What Parse returns is valid. -/
theorem refL_valid (l : List Int) (hf : ∀ c ∈ l, fineR c = true) (hne : l ≠ []) : validP (refL l) = true := by
  have h1 : ∀ x ∈ refL l, -1 ≤ x ∧ x ≤ 9999 := by rw [← bld_ref l hf hne]; exact bldQ_ok l hf
  have h2 : (refL l).length ≤ 16 := by unfold refL; rw [List.length_take]; omega
  simp only [validP, Bool.and_eq_true, List.all_eq_true, okP, decide_eq_true_eq, Bool.not_eq_true', Bool.and_eq_false_iff, decide_eq_false_iff_not]
  refine ⟨⟨h1, h2⟩, ?_⟩
  by_cases hl : (refL l).length = 1
  · right
    have hq : (refQ l).1 = [] := by
      unfold refL at hl
      rw [List.length_take, List.length_append] at hl
      simp only [List.length_cons, List.length_nil] at hl
      exact List.eq_nil_of_length_eq_zero (by omega)
    have hp : (refQ l).2 = l := by have := refQ_part l [] hq; simpa [refQ] using this
    have hd := part_fine l hf
    rw [hp] at hd
    have hb := numF_bd l hd
    have e : refL l = [numP l] := by unfold refL; rw [hq, hp]; rfl
    rw [e]
    have e2 : numP l = numF l := if_neg hne
    rw [e2]
    simp [List.getD]
    omega
  · exact .inl hl

end Go.Proofs.YtdbjebjmhjljbaaDoor
