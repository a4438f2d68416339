/- params: the reference's Parse, walked (a byte is not fine). -/
import Derived.Test.YtpkkfcfkhiaggaaML
import Derived.Outline
set_option linter.unusedSimpArgs false
set_option linter.unusedVariables false
set_option linter.unnecessarySimpa false
namespace Go.Proofs.Ytpkkfcfkhiaggaa.Pm
open Go.RowKit

set_option maxHeartbeats 2000000 in
theorem rparse_no (s : ByteArray) (w : World) (hs : s.size ≤ 1000000) (hd : ¬ ∀ c ∈ bytesOf s, fineR c = true) :
    Calls Try.prog 65 #[.string s] w fun e w' => e = .returned (.tuple #[.slice none 0 0, .bool false]) ∧ w = w' := by
  have HD := Lib.hid hd
  clear hd
  go_enter Try.func65, Try.ntmps65
  go_wp2_with fail
  go_loop [4] (fun i => ∃ k : Nat, k ≤ s.size ∧ i = .int .i64 k ∧ Hid (∀ c ∈ (bytesOf s).take k, fineR c = true)) (fun i => s.size - (intOf i).toNat)
  case atStart => exact ⟨0, by omega, rfl, by unfold Hid; simp⟩
  case round =>
    obtain ⟨k, hk, rfl, HF⟩ := hrel
    by_cases hlt : k < s.size
    · have hb := UInt8.toNat_lt s[k]
      have cF := fine_any (s[k].toNat : Int) w
      by_cases hf : fineR (s[k].toNat : Int) = true
      · have HF2 : Hid (∀ c ∈ (bytesOf s).take (k + 1), fineR c = true) := by
          unfold Hid; rw [bytesOf_take_succ s k hlt]; intro c hc
          rcases List.mem_append.1 hc with h | h
          · exact HF.out c h
          · have e : c = (s[k].toNat : Int) := by simpa using h
            rw [e]; exact hf
        rw [hf] at cF
        go_wp2_with (go_at_call 74; refine cF.mono ?_; rintro e W' ⟨rfl, rfl⟩)
        all_goals
          go_round
          case rel => exact ⟨k + 1, by omega, by go_num, HF2⟩
          case measure => simp [intOf]; omega
      · have hf0 : fineR (s[k].toNat : Int) = false := by simpa using hf
        rw [hf0] at cF
        go_wp2_with (go_at_call 74; refine cF.mono ?_; rintro e W' ⟨rfl, rfl⟩)
        go_ret2
        exact ⟨rfl, rfl⟩
    · exfalso
      apply HD.out
      have ep : (bytesOf s).take k = bytesOf s := List.take_of_length_le (by rw [bytesOf_len]; omega)
      have := HF.out
      rw [ep] at this
      exact this

end Go.Proofs.Ytpkkfcfkhiaggaa.Pm
