/- params: the reference's number. -/
import Derived.Test.YtdoeiaekimbecaaDoorMG
import Derived.Outline
set_option linter.unusedSimpArgs false
set_option linter.unusedVariables false
set_option linter.unnecessarySimpa false
namespace Go.Proofs.YtdoeiaekimbecaaDoor.Pm
open Go.RowKit

/-- The number that digits say. -/
def numF (l : List Int) : Int := l.foldl (fun n c => min (10 * n + (c - 48)) 9999) 0
def numP (l : List Int) : Int := if l = [] then -1 else numF l
theorem numF_snoc (l : List Int) (c : Int) : numF (l ++ [c]) = min (10 * numF l + (c - 48)) 9999 := by simp [numF]
theorem numF_bd (l : List Int) (h : ∀ c ∈ l, 48 ≤ c ∧ c ≤ 57) : 0 ≤ numF l ∧ numF l ≤ 9999 := by
  have key : ∀ (l : List Int) (n : Int), 0 ≤ n → n ≤ 9999 → (∀ c ∈ l, 48 ≤ c ∧ c ≤ 57) → 0 ≤ l.foldl (fun n c => min (10 * n + (c - 48)) 9999) n ∧ l.foldl (fun n c => min (10 * n + (c - 48)) 9999) n ≤ 9999 := by
    intro l
    induction l with
    | nil => intro n h1 h2 _; exact ⟨h1, h2⟩
    | cons c l ih => intro n h1 h2 h; have := h c (by simp); exact ih (min (10 * n + (c - 48)) 9999) (by omega) (by omega) (fun x hx => h x (by simp [hx]))
  exact key l 0 (by omega) (by omega) h
theorem bytesOf_take_succ (s : ByteArray) (k : Nat) (h : k < s.size) : (bytesOf s).take (k + 1) = (bytesOf s).take k ++ [(s[k].toNat : Int)] := by
  rw [List.take_succ_eq_append_getElem (by rw [bytesOf_len]; exact h)]
  simp [bytesOf]; rfl
end Go.Proofs.YtdoeiaekimbecaaDoor.Pm
