/- params: Parse, walked (a string of fine bytes). -/
import Derived.Test.YtpkkfcfkhiaggaaMI
import Derived.Test.YtpkkfcfkhiaggaaMG
import Derived.Test.YtpkkfcfkhiaggaaME
import Derived.Outline
import Derived.Lib.OthersKept
set_option linter.unusedSimpArgs false
set_option linter.unusedVariables false
set_option linter.unnecessarySimpa false
namespace Go.Proofs.Ytpkkfcfkhiaggaa.Pm
open Go.RowKit

theorem _root_.Go.Proofs.Ytpkkfcfkhiaggaa.Box.iterAt {w : World} {b : Nat} {cs : Array Value} {t : TypeId} (h : Box w b cs t) {k : Nat} (hk : b ≠ k) (s : ByteArray) (pos : Nat) : Box (w.iterAt k s pos) b cs t := (Lib.iterAt_other w k b s pos hk).trans h
theorem BldV.iterAt {w : World} {D : Nat} {t : TypeId} {pre rest : List Value} {ws : List Int} {ov : Bool} (h : BldV w D t pre rest ws ov) {k : Nat} (hk : D ≠ k) (s : ByteArray) (pos : Nat) : BldV (w.iterAt k s pos) D t pre rest ws ov := by
  obtain ⟨ls, h1, h2, h3, h4⟩ := h
  exact ⟨ls, h1, h2, h3, h4.iterAt hk s pos⟩
theorem bldQ_snoc (l : List Int) (c : Int) : bldQ (l ++ [c]) = bldS (bldQ l) c := by simp [bldQ]
theorem numP_bd (l : List Int) (h : ∀ c ∈ l, 48 ≤ c ∧ c ≤ 57) : -1 ≤ numP l ∧ numP l ≤ 9999 := by
  unfold numP; split
  · omega
  · have := numF_bd l h; omega
theorem ref_ok (l : List Int) : ∀ (q : List Int × List Int), (∀ c ∈ l, fineR c = true) → (∀ c ∈ q.2, 48 ≤ c ∧ c ≤ 57) → (∀ x ∈ q.1, -1 ≤ x ∧ x ≤ 9999) → ∀ x ∈ (l.foldl refS q).1, -1 ≤ x ∧ x ≤ 9999 := by
  induction l with
  | nil => intro q _ _ h; exact h
  | cons c l ih =>
    intro q hf hp h
    refine ih (refS q c) (fun x hx => hf x (by simp [hx])) (part_step (hf c (by simp)) hp) (fun x hx => ?_)
    unfold refS at hx
    split at hx
    · rcases List.mem_append.1 hx with hx | hx
      · exact h x hx
      · have e : x = numP q.2 := by simpa using hx
        rw [e]; exact numP_bd _ hp
    · exact h x hx
theorem bldQ_ok (l : List Int) (hf : ∀ c ∈ l, fineR c = true) : ∀ x ∈ (bldQ l).1, -1 ≤ x ∧ x ≤ 9999 := by
  intro x hx
  by_cases hl : l = []
  · subst hl; simp [bldQ] at hx
  · rw [bld_ref l hf hl] at hx
    have hx := List.mem_of_mem_take hx
    rcases List.mem_append.1 hx with hx | hx
    · exact ref_ok l ([], []) hf (by simp) (by simp) x hx
    · have e : x = numP (refQ l).2 := by simpa using hx
      rw [e]
      exact numP_bd _ (inv_fold l ([], []) ([], false) hf (by simp) inv_start).2

end Go.Proofs.Ytpkkfcfkhiaggaa.Pm
