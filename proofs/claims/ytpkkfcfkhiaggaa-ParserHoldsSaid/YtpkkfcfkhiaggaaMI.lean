/- params: the plain law of parsing: the builder's fold against the reference's split. -/
import Derived.Test.YtpkkfcfkhiaggaaMD
import Derived.Test.YtpkkfcfkhiaggaaMH
set_option linter.unusedSimpArgs false
set_option linter.unusedVariables false
set_option linter.unnecessarySimpa false
namespace Go.Proofs.Ytpkkfcfkhiaggaa.Pm

/-- The reference's step over one byte: what is out, and the part under way. -/
def refS (q : List Int × List Int) (c : Int) : List Int × List Int := if c = 59 then (q.1 ++ [numP q.2], []) else (q.1, q.2 ++ [c])
def refQ (l : List Int) : List Int × List Int := l.foldl refS ([], [])
def refL (l : List Int) : List Int := ((refQ l).1 ++ [numP (refQ l).2]).take 16
def bldS (q : List Int × Bool) (c : Int) : List Int × Bool := (addB q.1 q.2 c, addO q.1 q.2 c)
def bldQ (l : List Int) : List Int × Bool := l.foldl bldS ([], false)
def startB (ws : List Int) : List Int := if ws = [] then [-1] else ws
theorem startB_ne {l : List Int} (h : l ≠ []) : startB l = l := if_neg h
structure Inv (q : List Int × List Int) (b : List Int × Bool) : Prop where
  ws : startB b.1 = (q.1 ++ [numP q.2]).take 16
  ov : b.2 = decide (16 < q.1.length + 1)
theorem inv_start : Inv ([], []) ([], false) := ⟨rfl, rfl⟩
theorem numP_snoc (l : List Int) (c : Int) (h : ∀ c ∈ l, 48 ≤ c ∧ c ≤ 57) : numP (l ++ [c]) = min (10 * max (numP l) 0 + (c - 48)) 9999 := by
  have e : numP (l ++ [c]) = numF (l ++ [c]) := by simp [numP]
  rw [e, numF_snoc]
  have hb := numF_bd l h
  by_cases hl : l = []
  · subst hl; rfl
  · simp only [numP, hl, if_false]; rw [Int.max_eq_left hb.1]
theorem inv_semi {q : List Int × List Int} {b : List Int × Bool} (h : Inv q b) : Inv (refS q 59) (bldS b 59) := by
  obtain ⟨h1, h2⟩ := h
  obtain ⟨out, part⟩ := q
  obtain ⟨ws, ov⟩ := b
  have hl : (startB ws).length = min 16 (out.length + 1) := by rw [h1]; simp
  have e1 : addB ws ov 59 = openB (startB ws) := by simp [addB, startB]
  have e2 : addO ws ov 59 = openO (startB ws) ov := by simp [addO, startB]
  have hne : openB (startB ws) ≠ [] := by
    intro e
    have := congrArg List.length e
    unfold openB at this
    split at this
    · rw [List.length_nil] at this; omega
    · simp at this
  simp only [refS, bldS, if_true, e1, e2]
  refine ⟨?_, ?_⟩
  · show startB (openB (startB ws)) = _
    rw [startB_ne hne]
    unfold openB
    by_cases h16 : (startB ws).length = 16
    · rw [if_pos h16, h1]
      exact (List.take_append_of_le_length (by simp; omega)).symm
    · rw [if_neg h16, h1]
      rw [List.take_of_length_le (by simp; omega), List.take_of_length_le (by simp; omega)]
      rfl
  · show openO (startB ws) ov = _
    unfold openO
    have h2' : ov = decide (16 < out.length + 1) := h2
    by_cases h16 : (startB ws).length = 16
    · rw [if_pos h16]; symm; rw [decide_eq_true_eq]; simp; omega
    · rw [if_neg h16, h2']; congr 1; simp; omega
theorem inv_dig {q : List Int × List Int} {b : List Int × Bool} {c : Int} (hc : 48 ≤ c ∧ c ≤ 57) (hp : ∀ c ∈ q.2, 48 ≤ c ∧ c ≤ 57) (h : Inv q b) : Inv (refS q c) (bldS b c) := by
  obtain ⟨h1, h2⟩ := h
  obtain ⟨out, part⟩ := q
  obtain ⟨ws, ov⟩ := b
  have h1' : startB ws = (out ++ [numP part]).take 16 := h1
  have h2' : ov = decide (16 < out.length + 1) := h2
  have hc9 : c ≠ 59 := by omega
  have e1 : addB ws ov c = if ov then startB ws else digB (startB ws) c := by simp [addB, startB, hc9]
  have e2 : addO ws ov c = ov := by simp [addO, hc9]
  simp only [refS, bldS, hc9, if_false, e1, e2]
  refine ⟨?_, h2'⟩
  show startB (if ov = true then startB ws else digB (startB ws) c) = (out ++ [numP (part ++ [c])]).take 16
  by_cases h16 : 16 < out.length + 1
  · rw [if_pos (by rw [h2']; exact decide_eq_true h16)]
    have e : startB ws = out.take 16 := by rw [h1', List.take_append_of_le_length (by omega)]
    have hl : (startB ws).length = 16 := by rw [e]; simp; omega
    rw [startB_ne (fun e => by rw [e] at hl; simp at hl), e, List.take_append_of_le_length (by omega)]
  · rw [if_neg (by rw [h2', decide_eq_false h16]; simp)]
    have e : startB ws = out ++ [numP part] := by rw [h1', List.take_of_length_le (by simp; omega)]
    have ed : digB (startB ws) c = out ++ [numP (part ++ [c])] := by
      rw [e, numP_snoc part c hp]
      simp [digB]
    rw [ed, startB_ne (by simp), List.take_of_length_le (by simp; omega)]
/-- Every part under way is of digits. -/
theorem part_step {q : List Int × List Int} {c : Int} (hc : fineR c = true) (hp : ∀ c ∈ q.2, 48 ≤ c ∧ c ≤ 57) : ∀ x ∈ (refS q c).2, 48 ≤ x ∧ x ≤ 57 := by
  intro x hx
  unfold refS at hx
  split at hx
  · simp at hx
  · rcases List.mem_append.1 hx with h | h
    · exact hp x h
    · have : x = c := by simpa using h
      subst this
      simp [fineR] at hc; omega
theorem inv_step {q : List Int × List Int} {b : List Int × Bool} {c : Int} (hc : fineR c = true) (hp : ∀ c ∈ q.2, 48 ≤ c ∧ c ≤ 57) (h : Inv q b) : Inv (refS q c) (bldS b c) := by
  by_cases h59 : c = 59
  · subst h59; exact inv_semi h
  · exact inv_dig (by simp [fineR] at hc; omega) hp h
theorem inv_fold (l : List Int) : ∀ (q : List Int × List Int) (b : List Int × Bool), (∀ c ∈ l, fineR c = true) → (∀ c ∈ q.2, 48 ≤ c ∧ c ≤ 57) → Inv q b → Inv (l.foldl refS q) (l.foldl bldS b) ∧ ∀ c ∈ (l.foldl refS q).2, 48 ≤ c ∧ c ≤ 57 := by
  induction l with
  | nil => intro q b _ hp h; exact ⟨h, hp⟩
  | cons c l ih =>
    intro q b hf hp h
    exact ih (refS q c) (bldS b c) (fun x hx => hf x (by simp [hx])) (part_step (hf c (by simp)) hp) (inv_step (hf c (by simp)) hp h)
theorem addB_ne (ws : List Int) (ov : Bool) (c : Int) : addB ws ov c ≠ [] := by
  have h0 : startB ws ≠ [] := by unfold startB; split <;> simp_all
  have e : addB ws ov c = if c = 59 then openB (startB ws) else if ov then startB ws else digB (startB ws) c := rfl
  rw [e]
  split
  · unfold openB; split
    · exact h0
    · simp
  · split
    · exact h0
    · intro e
      have := congrArg List.length e
      simp [digB] at this
      exact h0 this
theorem bldQ_ne : ∀ (l : List Int), l ≠ [] → (bldQ l).1 ≠ [] := by
  intro l h
  obtain ⟨a, c, rfl⟩ : ∃ a c, l = a ++ [c] := ⟨l.dropLast, l.getLast h, (List.dropLast_concat_getLast h).symm⟩
  simp only [bldQ, List.foldl_append, List.foldl_cons, List.foldl_nil, bldS]
  exact addB_ne _ _ _
/-- THE PLAIN LAW: what the builder keeps is what the reference's split says. -/
theorem bld_ref (l : List Int) (h : ∀ c ∈ l, fineR c = true) (hne : l ≠ []) : (bldQ l).1 = refL l := by
  have hi := (inv_fold l ([], []) ([], false) h (by simp) inv_start).1
  have := hi.ws
  rw [show startB (l.foldl bldS ([], false)).1 = (l.foldl bldS ([], false)).1 from startB_ne (bldQ_ne l hne)] at this
  exact this

end Go.Proofs.Ytpkkfcfkhiaggaa.Pm
