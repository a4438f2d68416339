/- params: the reference's Parse, walked (fine bytes). -/
import Derived.Test.YtdoeiaekimbecaaDoorMM
import Derived.Outline
set_option linter.unusedSimpArgs false
set_option linter.unusedVariables false
set_option linter.unnecessarySimpa false
namespace Go.Proofs.YtdoeiaekimbecaaDoor.Pm
open Go.RowKit

theorem _root_.Go.Proofs.YtdoeiaekimbecaaDoor.Own.len {w : World} {B : Nat} {E : TypeId} {k : IntKind} {p : Option Addr} {n c : Nat} {xs : List Int} (h : Own w B E k (.slice p n c) xs) : n = xs.length ∧ n ≤ c ∧ c ≤ maxLen := by
  rcases h.shape with ⟨h1, h2⟩ | ⟨g, cap, h1, h2, h3⟩
  · cases h1; subst h2; exact ⟨rfl, Nat.le_refl _, by simp [maxLen]⟩
  · cases h1; exact ⟨rfl, h2, h3⟩
theorem _root_.Go.Proofs.YtdoeiaekimbecaaDoor.Own.cut {w : World} {B : Nat} {E : TypeId} {k : IntKind} {p : Option Addr} {n c m : Nat} {xs : List Int} (h : Own w B E k (.slice p n c) xs) (hm : m ≤ n) (hm0 : 0 < m) : Own w B E k (.slice p m c) (xs.take m) := by
  have hl := h.len
  obtain ⟨h1, h2⟩ := h
  refine ⟨by simp, ?_⟩
  rcases h2 with ⟨hv, _⟩ | ⟨g, cap, cur, hv, hb, hgg, hnc, hcm, hcs, ht⟩
  · cases hv; omega
  · cases hv
    refine .inr ⟨g, c, cur, by rw [List.length_take, Nat.min_eq_left (by omega)], hb, hgg, by rw [List.length_take]; omega, hcm, hcs, ?_⟩
    rw [List.length_take, Nat.min_eq_left (by omega), List.map_take, ← ht, List.take_take]
    congr 1; omega
theorem bytesOf_app (a b : ByteArray) : bytesOf (a ++ b) = bytesOf a ++ bytesOf b := by simp [bytesOf]
theorem bytesOf_one (s : ByteArray) (k : Nat) (h : k < s.size) : bytesOf (s.extract k (k + 1)) = [(s[k].toNat : Int)] := by
  have e1 := bytesOf_take_succ s k h
  have : (bytesOf s).drop k = (s[k].toNat : Int) :: (bytesOf s).drop (k + 1) := by
    have e2 := List.take_append_drop k (bytesOf s)
    have e3 := List.take_append_drop (k + 1) (bytesOf s)
    rw [e1, List.append_assoc] at e3
    exact List.append_cancel_left (e2.trans e3.symm)
  have e : bytesOf (s.extract k (k + 1)) = ((bytesOf s).drop k).take 1 := by
    simp [bytesOf, ByteArray.data_extract]
  rw [e, this]; rfl
theorem refQ_snoc (l : List Int) (c : Int) : refQ (l ++ [c]) = refS (refQ l) c := by simp [refQ]
theorem refQ_len (l : List Int) : (refQ l).1.length ≤ l.length := by
  have key : ∀ (l : List Int) (q : List Int × List Int), (l.foldl refS q).1.length ≤ q.1.length + l.length := by
    intro l
    induction l with
    | nil => intro q; simp
    | cons c l ih =>
      intro q
      have := ih (refS q c)
      have h2 : (refS q c).1.length ≤ q.1.length + 1 := by unfold refS; split <;> simp
      simp only [List.foldl_cons, List.length_cons]; omega
  have := key l ([], []); simpa [refQ] using this
theorem part_fine (l : List Int) (h : ∀ c ∈ l, fineR c = true) : ∀ c ∈ (refQ l).2, 48 ≤ c ∧ c ≤ 57 := (inv_fold l ([], []) ([], false) h (by simp) inv_start).2
end Go.Proofs.YtdoeiaekimbecaaDoor.Pm
