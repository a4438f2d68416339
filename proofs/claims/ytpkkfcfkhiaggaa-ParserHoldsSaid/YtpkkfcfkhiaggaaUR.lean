/- utf: the reference's small functions. -/
import Derived.Test.YtpkkfcfkhiaggaaUFM
import Derived.Test.YtpkkfcfkhiaggaaLate
import Derived.Outline
set_option linter.unusedSimpArgs false
set_option linter.unusedVariables false
set_option linter.unnecessarySimpa false
namespace Go.Proofs.Ytpkkfcfkhiaggaa
open Go.RowKit

theorem size_any (c : Int) (w : World) (hc : 0 ≤ c ∧ c < 256) : Calls Try.prog 82 #[.int .u8 c] w fun e w' => e = .returned (.int .i64 (sizeR c)) ∧ w = w' := by
  go_enter Try.func82, Try.ntmps82
  go_wp2_with fail
  all_goals
    go_ret
    exact ⟨ret_int (by unfold sizeR; (repeat' split) <;> omega), rfl⟩
theorem further_any (c : Int) (w : World) (hc : 0 ≤ c ∧ c < 256) : Calls Try.prog 83 #[.int .u8 c] w fun e w' => e = .returned (.bool (furR c)) ∧ w = w' := by
  go_enter Try.func83, Try.ntmps83
  go_wp2_with fail
  all_goals
    go_ret
    exact ⟨ret_bool (by rw [Bool.eq_iff_iff]; simp [furR]; try omega), rfl⟩
theorem length_any (r : Int) (w : World) : Calls Try.prog 85 #[.int .i32 r] w fun e w' => e = .returned (.int .i64 (lenR r)) ∧ w = w' := by
  go_enter Try.func85, Try.ntmps85
  go_wp2_with fail
  all_goals
    go_ret
    exact ⟨ret_int (by unfold lenR; (repeat' split) <;> omega), rfl⟩

theorem valR_succ (b : List Int) (i : Nat) (x : Int) (m : Nat) : valR b i x (m + 1) = valR b (i + 1) (x * 64 + (if i < b.length then b.getD i 0 - 128 else 0)) m := rfl

set_option maxRecDepth 100000 in
set_option maxHeartbeats 1000000 in
theorem value_2 (vb : Value) (b : List Int) (w : World) (hb : Rd w .u8 vb b) (h0 : 0 < b.length) (hs : 192 ≤ b.headD 0 ∧ b.headD 0 < 192 + 32) (hf : ∀ (i : Nat) (x : Int), b[i + 1]? = some x → 128 ≤ x ∧ x < 192) :
    Calls Try.prog 84 #[vb, .int .i64 2] w fun e w' => e = .returned (.int .i64 (valueR b 2)) ∧ Below w.heap.size w w' := by
  obtain ⟨p1, cap1, rfl, l1, m1, c1⟩ := hb
  unfold maxLen at m1
  obtain ⟨b1, o1, rfl, q1, d1⟩ := Rd.at c1 l1 h0
  rcases c1 with ⟨c1, _⟩ | ⟨b2, o2, hb2, _, c1⟩
  · cases c1
  cases hb2
  have z1 : (0 : Int) < (b.length : Int) := by omega
  simp only [Nat.add_zero] at d1
  have hd : b.headD 0 = b[0] := by cases b with | nil => simp at h0 | cons a l => rfl
  rw [hd] at hs
  have hgo : valueR b 2 = valR b 1 (b[0] - 192) 1 := by unfold valueR; rw [hd]; rfl
  rw [hgo]
  clear hgo hd
  generalize hV : valR b 1 (b[0] - 192) 1 = V
  generalize b[0] = x0 at *
  have HV := Lib.hid hV
  clear hV
  go_enter Try.func84, Try.ntmps84
  go_wp2_with fail
  go_loop [6, 7] (fun out i => ∃ (k : Nat) (x : Int), 1 ≤ k ∧ k ≤ 2 ∧ i = .int .i64 k ∧ out = .int .i64 x ∧ valR b k x (2 - k) = V ∧ 0 ≤ x ∧ (k = 1 → x < 32) ∧ (k = 2 → x < 2048) ∧ (k = 3 → x < 131072) ∧ x < 8388608) (fun _ i => 2 - (intOf i).toNat)
  case atStart => exact ⟨1, x0 - 192, by omega, by omega, rfl, rfl, HV.out, by omega, by omega, by omega, by omega, by omega⟩
  case round =>
    obtain ⟨k, x, hk1, hk, rfl, rfl, hv, g0, g1, g2, g3, g4⟩ := hrel
    by_cases hlt : k < 2
    · have hsu : valR b k x (2 - k) = valR b (k + 1) (x * 64 + (if k < b.length then b.getD k 0 - 128 else 0)) (2 - (k + 1)) := by
        rw [show 2 - k = (2 - (k + 1)) + 1 by omega, valR_succ]
      rw [hsu] at hv
      clear hsu HV
      have g5 : x < 131072 := by omega
      by_cases hkl : k < b.length
      · have hy := hf (k - 1) b[k] (by rw [show k - 1 + 1 = k by omega]; exact List.getElem?_eq_getElem hkl)
        have hck := c1 k b[k] (List.getElem?_eq_getElem hkl)
        rw [if_pos hkl, show b.getD k 0 = b[k] by simp [hkl]] at hv
        generalize b[k] = y at *
        have T := Lib.hid hv
        clear hv hf c1
        have r1 : (0 : Int) ≤ (k : Int) := by omega
        have r2 : (k : Int) < (b.length : Int) := by omega
        go_wp2_with fail
        go_round
        case rel => exact ⟨k + 1, x * 64 + (y - 128), by omega, by omega, by go_num, by first | rfl | go_num, T.out, by omega, by omega, by omega, by omega, by omega⟩
        case measure => simp [intOf]; omega
      · rw [if_neg hkl] at hv
        have T := Lib.hid hv
        clear hv hf c1
        go_wp2_with fail
        go_round
        case rel => exact ⟨k + 1, x * 64 + 0, by omega, by omega, by go_num, by first | rfl | go_num, T.out, by omega, by omega, by omega, by omega, by omega⟩
        case measure => simp [intOf]; omega
    · obtain rfl : k = 2 := by omega
      have T := Lib.hid hv
      clear hv hf c1 HV
      go_wp2_with fail
      go_ret
      exact ⟨ret_int (by have := T.out; simpa [valR] using this), (Below.refl _ _).alloc (Nat.le_refl _) _⟩

set_option maxRecDepth 100000 in
set_option maxHeartbeats 1000000 in
theorem value_3 (vb : Value) (b : List Int) (w : World) (hb : Rd w .u8 vb b) (h0 : 0 < b.length) (hs : 224 ≤ b.headD 0 ∧ b.headD 0 < 224 + 32) (hf : ∀ (i : Nat) (x : Int), b[i + 1]? = some x → 128 ≤ x ∧ x < 192) :
    Calls Try.prog 84 #[vb, .int .i64 3] w fun e w' => e = .returned (.int .i64 (valueR b 3)) ∧ Below w.heap.size w w' := by
  obtain ⟨p1, cap1, rfl, l1, m1, c1⟩ := hb
  unfold maxLen at m1
  obtain ⟨b1, o1, rfl, q1, d1⟩ := Rd.at c1 l1 h0
  rcases c1 with ⟨c1, _⟩ | ⟨b2, o2, hb2, _, c1⟩
  · cases c1
  cases hb2
  have z1 : (0 : Int) < (b.length : Int) := by omega
  simp only [Nat.add_zero] at d1
  have hd : b.headD 0 = b[0] := by cases b with | nil => simp at h0 | cons a l => rfl
  rw [hd] at hs
  have hgo : valueR b 3 = valR b 1 (b[0] - 224) 2 := by unfold valueR; rw [hd]; rfl
  rw [hgo]
  clear hgo hd
  generalize hV : valR b 1 (b[0] - 224) 2 = V
  generalize b[0] = x0 at *
  have HV := Lib.hid hV
  clear hV
  go_enter Try.func84, Try.ntmps84
  go_wp2_with fail
  go_loop [6, 7] (fun out i => ∃ (k : Nat) (x : Int), 1 ≤ k ∧ k ≤ 3 ∧ i = .int .i64 k ∧ out = .int .i64 x ∧ valR b k x (3 - k) = V ∧ 0 ≤ x ∧ (k = 1 → x < 32) ∧ (k = 2 → x < 2048) ∧ (k = 3 → x < 131072) ∧ x < 8388608) (fun _ i => 3 - (intOf i).toNat)
  case atStart => exact ⟨1, x0 - 224, by omega, by omega, rfl, rfl, HV.out, by omega, by omega, by omega, by omega, by omega⟩
  case round =>
    obtain ⟨k, x, hk1, hk, rfl, rfl, hv, g0, g1, g2, g3, g4⟩ := hrel
    by_cases hlt : k < 3
    · have hsu : valR b k x (3 - k) = valR b (k + 1) (x * 64 + (if k < b.length then b.getD k 0 - 128 else 0)) (3 - (k + 1)) := by
        rw [show 3 - k = (3 - (k + 1)) + 1 by omega, valR_succ]
      rw [hsu] at hv
      clear hsu HV
      have g5 : x < 131072 := by omega
      by_cases hkl : k < b.length
      · have hy := hf (k - 1) b[k] (by rw [show k - 1 + 1 = k by omega]; exact List.getElem?_eq_getElem hkl)
        have hck := c1 k b[k] (List.getElem?_eq_getElem hkl)
        rw [if_pos hkl, show b.getD k 0 = b[k] by simp [hkl]] at hv
        generalize b[k] = y at *
        have T := Lib.hid hv
        clear hv hf c1
        have r1 : (0 : Int) ≤ (k : Int) := by omega
        have r2 : (k : Int) < (b.length : Int) := by omega
        go_wp2_with fail
        go_round
        case rel => exact ⟨k + 1, x * 64 + (y - 128), by omega, by omega, by go_num, by first | rfl | go_num, T.out, by omega, by omega, by omega, by omega, by omega⟩
        case measure => simp [intOf]; omega
      · rw [if_neg hkl] at hv
        have T := Lib.hid hv
        clear hv hf c1
        go_wp2_with fail
        go_round
        case rel => exact ⟨k + 1, x * 64 + 0, by omega, by omega, by go_num, by first | rfl | go_num, T.out, by omega, by omega, by omega, by omega, by omega⟩
        case measure => simp [intOf]; omega
    · obtain rfl : k = 3 := by omega
      have T := Lib.hid hv
      clear hv hf c1 HV
      go_wp2_with fail
      go_ret
      exact ⟨ret_int (by have := T.out; simpa [valR] using this), (Below.refl _ _).alloc (Nat.le_refl _) _⟩

set_option maxRecDepth 100000 in
set_option maxHeartbeats 1000000 in
theorem value_4 (vb : Value) (b : List Int) (w : World) (hb : Rd w .u8 vb b) (h0 : 0 < b.length) (hs : 240 ≤ b.headD 0 ∧ b.headD 0 < 240 + 32) (hf : ∀ (i : Nat) (x : Int), b[i + 1]? = some x → 128 ≤ x ∧ x < 192) :
    Calls Try.prog 84 #[vb, .int .i64 4] w fun e w' => e = .returned (.int .i64 (valueR b 4)) ∧ Below w.heap.size w w' := by
  obtain ⟨p1, cap1, rfl, l1, m1, c1⟩ := hb
  unfold maxLen at m1
  obtain ⟨b1, o1, rfl, q1, d1⟩ := Rd.at c1 l1 h0
  rcases c1 with ⟨c1, _⟩ | ⟨b2, o2, hb2, _, c1⟩
  · cases c1
  cases hb2
  have z1 : (0 : Int) < (b.length : Int) := by omega
  simp only [Nat.add_zero] at d1
  have hd : b.headD 0 = b[0] := by cases b with | nil => simp at h0 | cons a l => rfl
  rw [hd] at hs
  have hgo : valueR b 4 = valR b 1 (b[0] - 240) 3 := by unfold valueR; rw [hd]; rfl
  rw [hgo]
  clear hgo hd
  generalize hV : valR b 1 (b[0] - 240) 3 = V
  generalize b[0] = x0 at *
  have HV := Lib.hid hV
  clear hV
  go_enter Try.func84, Try.ntmps84
  go_wp2_with fail
  go_loop [6, 7] (fun out i => ∃ (k : Nat) (x : Int), 1 ≤ k ∧ k ≤ 4 ∧ i = .int .i64 k ∧ out = .int .i64 x ∧ valR b k x (4 - k) = V ∧ 0 ≤ x ∧ (k = 1 → x < 32) ∧ (k = 2 → x < 2048) ∧ (k = 3 → x < 131072) ∧ x < 8388608) (fun _ i => 4 - (intOf i).toNat)
  case atStart => exact ⟨1, x0 - 240, by omega, by omega, rfl, rfl, HV.out, by omega, by omega, by omega, by omega, by omega⟩
  case round =>
    obtain ⟨k, x, hk1, hk, rfl, rfl, hv, g0, g1, g2, g3, g4⟩ := hrel
    by_cases hlt : k < 4
    · have hsu : valR b k x (4 - k) = valR b (k + 1) (x * 64 + (if k < b.length then b.getD k 0 - 128 else 0)) (4 - (k + 1)) := by
        rw [show 4 - k = (4 - (k + 1)) + 1 by omega, valR_succ]
      rw [hsu] at hv
      clear hsu HV
      have g5 : x < 131072 := by omega
      by_cases hkl : k < b.length
      · have hy := hf (k - 1) b[k] (by rw [show k - 1 + 1 = k by omega]; exact List.getElem?_eq_getElem hkl)
        have hck := c1 k b[k] (List.getElem?_eq_getElem hkl)
        rw [if_pos hkl, show b.getD k 0 = b[k] by simp [hkl]] at hv
        generalize b[k] = y at *
        have T := Lib.hid hv
        clear hv hf c1
        have r1 : (0 : Int) ≤ (k : Int) := by omega
        have r2 : (k : Int) < (b.length : Int) := by omega
        go_wp2_with fail
        go_round
        case rel => exact ⟨k + 1, x * 64 + (y - 128), by omega, by omega, by go_num, by first | rfl | go_num, T.out, by omega, by omega, by omega, by omega, by omega⟩
        case measure => simp [intOf]; omega
      · rw [if_neg hkl] at hv
        have T := Lib.hid hv
        clear hv hf c1
        go_wp2_with fail
        go_round
        case rel => exact ⟨k + 1, x * 64 + 0, by omega, by omega, by go_num, by first | rfl | go_num, T.out, by omega, by omega, by omega, by omega, by omega⟩
        case measure => simp [intOf]; omega
    · obtain rfl : k = 4 := by omega
      have T := Lib.hid hv
      clear hv hf c1 HV
      go_wp2_with fail
      go_ret
      exact ⟨ret_int (by have := T.out; simpa [valR] using this), (Below.refl _ _).alloc (Nat.le_refl _) _⟩

end Go.Proofs.Ytpkkfcfkhiaggaa
