/- paste: cleaned runes cleaned again: plain mathematics. -/
import Derived.Test.YtnihneffgbhjjaaDoorQ
set_option linter.unusedSimpArgs false
set_option linter.unusedVariables false
set_option linter.unnecessarySimpa false
namespace Go.Proofs.YtnihneffgbhjjaaDoor
open Go.RowKit

/-- Runes that cleaning leaves as they are. -/
def Cl (ds : List Int) : Prop := ∀ r ∈ ds, validR r = true ∧ r ≠ 10 ∧ outR r = false
theorem clnS_cl (p r : Int) (hv : validR r = true) : Cl (clnS p r) := by
  intro x hx
  unfold clnS at hx
  split at hx
  · split at hx
    · cases hx
    · obtain rfl : x = 13 := by simpa using hx
      exact ⟨by decide, by decide, by decide⟩
  · rename_i h10
    split at hx
    · cases hx
    · rename_i ho
      obtain rfl : x = r := by simpa using hx
      exact ⟨hv, h10, by simpa using ho⟩
theorem clnR_cl (p : Int) (rs : List Int) (h : ∀ r ∈ rs, validR r = true) : Cl (clnR p rs) := by
  induction rs generalizing p with
  | nil => intro x hx; cases hx
  | cons a rs ih =>
    intro x hx
    simp only [clnR, List.mem_append] at hx
    rcases hx with hx | hx
    · exact clnS_cl p a (h a (by simp)) x hx
    · exact ih a (fun r hr => h r (by simp [hr])) x hx
theorem clnD_cl (l : List Int) (hl : ∀ x ∈ l, Byte x) : Cl (clnD l) := clnR_cl 0 _ (decL_valid l hl)
theorem Cl.fix {ds : List Int} (h : Cl ds) (p : Int) : clnR p ds = ds := by
  induction ds generalizing p with
  | nil => rfl
  | cons a ds ih =>
    obtain ⟨h1, h2, h3⟩ := h a (by simp)
    simp only [clnR, clnS, h2, if_false, h3, Bool.false_eq_true]
    rw [ih (fun x hx => h x (by simp [hx]))]
    rfl
theorem Cl.left {ds : List Int} (h : Cl ds) : leftR ds = 0 := by
  induction ds with
  | nil => rfl
  | cons a ds ih =>
    obtain ⟨h1, h2, h3⟩ := h a (by simp)
    simp only [leftR, h3, Bool.false_eq_true, if_false]
    rw [ih (fun x hx => h x (by simp [hx]))]
theorem Cl.valid {ds : List Int} (h : Cl ds) : ∀ r ∈ ds, validR r = true := fun r hr => (h r hr).1
theorem Cl.dec {ds : List Int} (h : Cl ds) : decL (encL ds) = ds := decL_encL ds h.valid
theorem Cl.clnD {ds : List Int} (h : Cl ds) : clnD (encL ds) = ds := by
  show clnR 0 (decL (encL ds)) = ds
  rw [h.dec, h.fix]
theorem Cl.clnB {ds : List Int} (h : Cl ds) : clnB (encL ds) = encL ds := by
  show encL (Go.Proofs.YtnihneffgbhjjaaDoor.clnD (encL ds)) = encL ds
  rw [h.clnD]
/-- A byte below 32 among the bytes of such runes is a rune of its own. -/
theorem enc1_low (r : Int) (h : validR r = true) (x : Int) (hx : x ∈ enc1 r) (hl : x < 128) : x = r := by
  have hv := of_decide_eq_true h
  unfold enc1 at hx
  rw [if_pos h] at hx
  unfold enc0 at hx
  split at hx
  · simpa using hx
  · split at hx
    · simp at hx; omega
    · split at hx
      · simp at hx; omega
      · simp at hx; omega
theorem encL_low (ds : List Int) (h : ∀ r ∈ ds, validR r = true) (x : Int) (hx : x ∈ encL ds) (hl : x < 128) : x ∈ ds := by
  unfold encL at hx
  obtain ⟨r, hr, hx⟩ := List.mem_flatMap.1 hx
  rw [enc1_low r (h r hr) x hx hl]
  exact hr
theorem Cl.low {ds : List Int} (h : Cl ds) (x : Int) (hx : x ∈ encL ds) : x ≠ 27 ∧ (x < 32 → x = 9 ∨ (x = 13 ∧ 13 ∈ ds)) := by
  have hb := encL_byte ds x hx
  unfold Byte at hb
  constructor
  · rintro rfl
    have := h 27 (encL_low ds h.valid 27 hx (by decide))
    exact absurd this.2.2 (by decide)
  · intro hl
    have hm := encL_low ds h.valid x hx (by omega)
    obtain ⟨h1, h2, h3⟩ := h x hm
    have h3 := of_decide_eq_false h3
    by_cases h9 : x = 9
    · exact .inl h9
    · have h13 : x = 13 := by omega
      exact .inr ⟨h13, h13 ▸ hm⟩
/-- What the law looks for: a byte below 32 that is no tab. -/
def ctlB (bs : List Int) : Bool := bs.any fun x => decide (x < 32) && decide (x ≠ 9)
theorem Cl.risk {ds : List Int} (h : Cl ds) (hc : ds.count 13 = 0) : ctlB (encL ds) = false := by
  unfold ctlB
  rw [List.any_eq_false]
  intro x hx
  have := (h.low x hx).2
  have hn : ¬ (13 ∈ ds) := fun hm => by have := List.count_pos_iff.2 hm; omega
  simp
  intro hl
  rcases this hl with h9 | ⟨_, hm⟩
  · exact h9
  · exact absurd hm hn
theorem risk_count (l : List Int) (h : riskN l = false) : (clnD l).count 13 = 0 := by
  unfold riskN linesN at h
  simp only [Bool.or_eq_false_iff, decide_eq_false_iff_not] at h
  obtain ⟨h1, _⟩ := h
  split at h1
  · rename_i he; rw [he]; rfl
  · omega
theorem pcs_flat (size : Int) (h : 4 ≤ size) : ∀ (f : Nat) (rs : List Int), rs.length ≤ f → (pcs size f rs).flatten = rs := by
  intro f
  induction f with
  | zero =>
    intro rs hf
    have : rs = [] := List.eq_nil_of_length_eq_zero (by omega)
    subst this
    rfl
  | succ f ih =>
    intro rs hf
    match rs with
    | [] => rfl
    | r :: rs =>
      obtain ⟨a, ha⟩ := fit_some size r rs h
      have hl := congrArg List.length (fit_app size 0 (r :: rs))
      rw [ha] at hl
      simp only [List.length_append, List.length_cons] at hl hf
      unfold pcs
      rw [List.flatten_cons, ih _ (by omega)]
      exact fit_app size 0 (r :: rs)
theorem pcsL_flat (size : Int) (h : 4 ≤ size) (ds : List Int) : (pcsL size ds).flatten = ds := pcs_flat size h _ ds (Nat.le_refl _)
theorem fit_size (size n : Int) (rs : List Int) (hn : n ≤ size) : n + ((encL (fit size n rs).1).length : Int) ≤ size := by
  induction rs generalizing n with
  | nil => simp [fit, encL]; exact hn
  | cons r rs ih =>
    unfold fit
    split
    · simp [encL]; exact hn
    · rename_i h
      have := ih (n + ((enc1 r).length : Int)) (by omega)
      have e : encL (r :: (fit size (n + ((enc1 r).length : Int)) rs).1) = enc1 r ++ encL (fit size (n + ((enc1 r).length : Int)) rs).1 := rfl
      simp only
      rw [e, List.length_append]
      omega
theorem pcs_each (size : Int) (h : 4 ≤ size) : ∀ (f : Nat) (rs : List Int), ∀ p ∈ pcs size f rs, 0 < p.length ∧ ((encL p).length : Int) ≤ size ∧ ∀ x ∈ p, x ∈ rs := by
  intro f
  induction f with
  | zero => intro rs p hp; simp [pcs] at hp
  | succ f ih =>
    intro rs p hp
    match rs with
    | [] => simp [pcs] at hp
    | r :: rs =>
      obtain ⟨a, ha⟩ := fit_some size r rs h
      have hfa := fit_app size 0 (r :: rs)
      unfold pcs at hp
      rw [List.mem_cons] at hp
      rcases hp with rfl | hp
      · refine ⟨by rw [ha]; simp, ?_, fun x hx => ?_⟩
        · have := fit_size size 0 (r :: rs) (by omega); omega
        · rw [← hfa]; simp [hx]
      · obtain ⟨h1, h2, h3⟩ := ih _ p hp
        exact ⟨h1, h2, fun x hx => by rw [← hfa]; simp [h3 x hx]⟩
theorem encL_flat (xss : List (List Int)) : (xss.map encL).flatten = encL xss.flatten := by
  induction xss with
  | nil => rfl
  | cons a xss ih =>
    rw [List.map_cons, List.flatten_cons, List.flatten_cons, ih]
    simp [encL]

end Go.Proofs.YtnihneffgbhjjaaDoor
