/- reply: the law's helper plain. -/
import Derived.Test.YtgaakkgelifgpaaDoorRf
import Derived.Outline
set_option linter.unusedSimpArgs false
set_option linter.unusedVariables false
set_option linter.unnecessarySimpa false
namespace Go.Proofs.YtgaakkgelifgpaaDoor
open Go.RowKit

theorem sidx (s : ByteArray) (i : Nat) (h : i < s.size) : s.data.toList[i]? = some s[i] := by
  show s.data.toList[i]? = some (s.data[i]'h)
  simp
def PlainB (s : ByteArray) : Prop := s.data.toList = [] ∨ (3 ≤ s.size ∧ s.data.toList[0]? = some 27 ∧ s.data.toList[1]? = some 91 ∧ ∀ i x, 1 ≤ i → s.data.toList[i]? = some x → 32 ≤ x.toNat ∧ x.toNat ≤ 126)
theorem plain_t (s : ByteArray) (w : World) (h : PlainB s) (hsz : s.size ≤ 1000000) : Calls Tryd.prog 14 #[.string s] w fun e w' => e = .returned (.bool true) ∧ Below w.heap.size w w' := by
  rcases h with h | ⟨h3, h0, h1, hx⟩
  · have h' : s.toList = [] := by rw [ByteArray.toList_eq]; exact h
    go_enter Tryd.func14, Tryd.ntmps14
    go_wp2_with fail
    go_ret
    exact ⟨rfl, Below.refl _ _⟩
  · have hne : (s.toList == ([] : List UInt8)) = false := by
      cases hh : s.toList with
      | nil => rw [ByteArray.toList_eq] at hh; rw [hh] at h0; simp at h0
      | cons a l => rfl
    have a0 : s[0].toNat = 27 := by have := (sidx s 0 (by omega)).symm.trans h0; injection this with this; rw [this]; rfl
    have a1 : s[1].toNat = 91 := by have := (sidx s 1 (by omega)).symm.trans h1; injection this with this; rw [this]; rfl
    have hx' : ∀ i (h : i < s.size), 1 ≤ i → 32 ≤ s[i].toNat ∧ s[i].toNat ≤ 126 := fun i h h1 => hx i _ h1 (sidx s i h)
    have HX := Lib.hid hx'
    have b3 : ¬ (s.size : Int) < 3 := by omega
    clear hx hx' h0 h1
    go_enter Tryd.func14, Tryd.ntmps14
    go_wp2_with fail
    go_loopw [3] (fun i wr => ∃ k : Nat, 1 ≤ k ∧ k ≤ s.size ∧ i = .int .i64 k ∧ Below w.heap.size w wr) (fun i _ => s.size - (intOf i).toNat)
    case atStart => exact ⟨1, by omega, by omega, rfl, Below.refl _ _⟩
    case round =>
      obtain ⟨k, hk1, hk, rfl, hbel⟩ := hrel
      by_cases hlt : k < s.size
      · obtain ⟨g1, g2⟩ := HX.out k hlt hk1
        have r1 : (0 : Int) ≤ (k : Int) := by omega
        have r2 : (k : Int) < (s.size : Int) := by omega
        have g3 : ¬ ((s[k].toNat : Nat) : Int) < 32 := by omega
        have g4 : ¬ (126 : Int) < ((s[k].toNat : Nat) : Int) := by omega
        go_wp2_with fail
        go_roundw
        case rel => exact ⟨k + 1, by omega, by omega, by go_num, hbel⟩
        case measure => simp [intOf]; omega
      · go_wp2_with fail
        go_ret
        exact ⟨rfl, hbel⟩

end Go.Proofs.YtgaakkgelifgpaaDoor
