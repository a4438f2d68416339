/- params: the reference's number. -/
import Derived.Test.YtpkkfcfkhiaggaaMG
import Derived.Outline
set_option linter.unusedSimpArgs false
set_option linter.unusedVariables false
set_option linter.unnecessarySimpa false
namespace Go.Proofs.Ytpkkfcfkhiaggaa.Pm
open Go.RowKit

/-- The number that digits say. -/
def numF (l : List Int) : Int := l.foldl (fun n c => min (10 * n + (c - 48)) 9999) 0
def numP (l : List Int) : Int := if l = [] then -1 else numF l
theorem numF_snoc (l : List Int) (c : Int) : numF (l ++ [c]) = min (10 * numF l + (c - 48)) 9999 := by simp [numF]
theorem numF_bd (l : List Int) (h : ∀ c ∈ l, 48 ≤ c ∧ c ≤ 57) : 0 ≤ numF l ∧ numF l ≤ 9999 := by
  have key : ∀ (l : List Int) (n : Int), 0 ≤ n → n ≤ 9999 → (∀ c ∈ l, 48 ≤ c ∧ c ≤ 57) → 0 ≤ l.foldl (fun n c => min (10 * n + (c - 48)) 9999) n ∧ l.foldl (fun n c => min (10 * n + (c - 48)) 9999) n ≤ 9999 := by
    intro l
    induction l with
    | nil => intro n h1 h2 _; exact ⟨h1, h2⟩
    | cons c l ih => intro n h1 h2 h; have := h c (by simp); exact ih (min (10 * n + (c - 48)) 9999) (by omega) (by omega) (fun x hx => h x (by simp [hx]))
  exact key l 0 (by omega) (by omega) h
theorem bytesOf_take_succ (s : ByteArray) (k : Nat) (h : k < s.size) : (bytesOf s).take (k + 1) = (bytesOf s).take k ++ [(s[k].toNat : Int)] := by
  rw [List.take_succ_eq_append_getElem (by rw [bytesOf_len]; exact h)]
  simp [bytesOf]; rfl
set_option maxHeartbeats 1000000 in
theorem number_any (s : ByteArray) (w : World) (hs : s.size ≤ 1000000) (hd : ∀ c ∈ bytesOf s, 48 ≤ c ∧ c ≤ 57) :
    Calls Try.prog 79 #[.string s] w fun e w' => e = .returned (.int .i64 (numP (bytesOf s))) ∧ w = w' := by
  by_cases h0 : s.size = 0
  · have e : bytesOf s = [] := List.eq_nil_of_length_eq_zero (by rw [bytesOf_len]; exact h0)
    have z0 : s.data.toList = [] := List.eq_nil_of_length_eq_zero (Array.length_toList.trans h0)
    have z : s.toList = [] := by rw [ByteArray.toList_eq]; exact z0
    rw [e, show numP [] = -1 from rfl]
    clear e hd z0
    go_enter Try.func79, Try.ntmps79
    go_wp2_with fail
    go_ret
    exact ⟨rfl, rfl⟩
  · have hne : bytesOf s ≠ [] := fun e => h0 (by rw [← bytesOf_len, e]; rfl)
    have z : s.toList.isEmpty = false := by
      rw [ByteArray.toList_eq]
      cases hz : s.data.toList with
      | nil => exact absurd (Array.length_toList.symm.trans (congrArg List.length hz)) h0
      | cons a l => rfl
    rw [show numP (bytesOf s) = numF (bytesOf s) by simp [numP, hne]]
    have HD := Lib.hid hd
    clear hne hd h0
    go_enter Try.func79, Try.ntmps79
    go_wp2_with fail
    go_loop [3, 4] (fun n i => ∃ k : Nat, k ≤ s.size ∧ i = .int .i64 k ∧ n = .int .i64 (numF ((bytesOf s).take k))) (fun _ i => s.size - (intOf i).toNat)
    case atStart => exact ⟨0, by omega, rfl, rfl⟩
    case round =>
      obtain ⟨k, hk, rfl, rfl⟩ := hrel
      have hb := numF_bd ((bytesOf s).take k) (fun c hc => HD.out c (List.mem_of_mem_take hc))
      by_cases hlt : k < s.size
      · have hc : 48 ≤ (s[k].toNat : Int) ∧ (s[k].toNat : Int) ≤ 57 := HD.out _ (by
          have e := bytesOf_take_succ s k hlt
          exact List.mem_of_mem_take (i := k + 1) (by rw [e]; simp))
        have HS : Hid (numF ((bytesOf s).take (k + 1)) = min (10 * numF ((bytesOf s).take k) + ((s[k].toNat : Int) - 48)) 9999) := by unfold Hid; rw [bytesOf_take_succ s k hlt, numF_snoc]
        generalize numF ((bytesOf s).take k) = n at *
        go_wp2_with fail
        all_goals
          go_round
          case rel => exact ⟨k + 1, by omega, by go_num, by rw [HS.out]; congr 1; omega⟩
          case measure => simp [intOf]; omega
      · go_wp2_with fail
        go_ret
        exact ⟨ret_int (by rw [List.take_of_length_le (by rw [bytesOf_len]; omega)]), rfl⟩

end Go.Proofs.Ytpkkfcfkhiaggaa.Pm
