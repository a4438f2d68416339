/- reply: the digits of a number, read back. -/
import Derived.Test.YtgaakkgelifgpaaDoorRh
import Derived.Outline
set_option linter.unusedSimpArgs false
set_option linter.unusedVariables false
set_option linter.unnecessarySimpa false
namespace Go.Proofs.YtgaakkgelifgpaaDoor
open Go.RowKit

def valD (l : List UInt8) : Nat := l.foldl (fun v d => 10 * v + (d.toNat - 48)) 0
theorem valD_app (l : List UInt8) (d : UInt8) : valD (l ++ [d]) = 10 * valD l + (d.toNat - 48) := by unfold valD; rw [List.foldl_append]; rfl
theorem dec_step (n : Nat) (h : ¬ n < 10) : Lib.decDigits n = Lib.decDigits (n / 10) ++ [UInt8.ofNat (48 + n % 10)] := by rw [Lib.decDigits, dif_neg h]
theorem valD_dec (n : Nat) : valD (Lib.decDigits n) = n := by
  induction n using Nat.strongRecOn with
  | _ n ih =>
    by_cases h : n < 10
    · rw [Lib.decDigits_one h]
      have : (UInt8.ofNat (48 + n)).toNat = 48 + n := by rw [UInt8.toNat_ofNat']; omega
      show 10 * 0 + ((UInt8.ofNat (48 + n)).toNat - 48) = n
      rw [this]; omega
    · rw [dec_step n h, valD_app, ih (n / 10) (by omega)]
      have : (UInt8.ofNat (48 + n % 10)).toNat = 48 + n % 10 := by rw [UInt8.toNat_ofNat']; omega
      omega
theorem dec_digit (n : Nat) : ∀ d ∈ Lib.decDigits n, 48 ≤ d.toNat ∧ d.toNat ≤ 57 := by
  induction n using Nat.strongRecOn with
  | _ n ih =>
    by_cases h : n < 10
    · rw [Lib.decDigits_one h]
      have : (UInt8.ofNat (48 + n)).toNat = 48 + n := by rw [UInt8.toNat_ofNat']; omega
      intro d hd
      simp only [List.mem_singleton] at hd
      subst hd; omega
    · rw [dec_step n h]
      have : (UInt8.ofNat (48 + n % 10)).toNat = 48 + n % 10 := by rw [UInt8.toNat_ofNat']; omega
      intro d hd
      rcases List.mem_append.1 hd with hd | hd
      · exact ih (n / 10) (by omega) d hd
      · simp only [List.mem_singleton] at hd
        subst hd; omega
theorem dec_ne (n : Nat) : Lib.decDigits n ≠ [] := by
  by_cases h : n < 10
  · rw [Lib.decDigits_one h]; simp
  · rw [dec_step n h]; simp
/-- What the first digits say is never more than the number. -/
theorem valD_take (l : List UInt8) (i : Nat) : valD (l.take i) ≤ valD l := by
  have mono : ∀ (l : List UInt8) (v : Nat), v ≤ l.foldl (fun v d => 10 * v + (d.toNat - 48)) v := by
    intro l
    induction l with
    | nil => intro v; exact Nat.le_refl _
    | cons d l ih => intro v; exact Nat.le_trans (show v ≤ 10 * v + (d.toNat - 48) by omega) (ih _)
  unfold valD
  conv => rhs; rw [← List.take_append_drop i l, List.foldl_append]
  exact mono _ _

end Go.Proofs.YtgaakkgelifgpaaDoor
