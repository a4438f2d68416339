/- params: the reference's Text, walked. -/
import Derived.Test.YtdbjebjmhjljbaaDoorQ
import Derived.Outline
set_option linter.unusedSimpArgs false
set_option linter.unusedVariables false
set_option linter.unnecessarySimpa false
namespace Go.Proofs.YtdbjebjmhjljbaaDoor
open Go.RowKit

theorem textB_snoc0 (x : Int) : textB [x] = numB x := by simp [textB, Lib.join_one]
theorem textB_snoc (xs : List Int) (x : Int) (h : xs ≠ []) : textB (xs ++ [x]) = textB xs ++ [59] ++ numB x := by
  cases xs with
  | nil => exact absurd rfl h
  | cons y ys => simp [textB, Lib.join_cons, Lib.joinTail]
theorem textB_step (xs : List Int) (k : Nat) (h : k < xs.length) : textB (xs.take (k + 1)) = textB (xs.take k) ++ ((if k = 0 then [] else [59]) ++ numB xs[k]) := by
  rw [List.take_succ_eq_append_getElem h]
  split
  · next hz => subst hz; simp [textB, Lib.join_nil, Lib.join_one]
  · rw [textB_snoc _ _ (by intro e; have := congrArg List.length e; rw [List.length_take, List.length_nil] at this; omega), List.append_assoc]
theorem size_mk (l : List UInt8) : (⟨l.toArray⟩ : ByteArray).size = l.length := by simp [ByteArray.size]
set_option maxRecDepth 100000 in
set_option maxHeartbeats 4000000 in
theorem rtext_any (v : Value) (xs : List Int) (w : World) (h : Rd w .i64 v xs) (hok : ∀ x ∈ xs, x ≤ 9999) (hlen : xs.length ≤ 1000) :
    Calls Tryd.prog 16 #[v] w fun e w' => e = .returned (.string ⟨(textB xs).toArray⟩) ∧ Below w.heap.size w w' := by
  have HD := Lib.hid hok
  obtain ⟨p, cap, rfl, l1, m1, c1⟩ := h
  unfold maxLen at m1
  have C1 := Lib.hid c1
  clear c1 hok
  go_enter Tryd.func16, Tryd.ntmps16
  go_wp2_with fail
  go_loopw [3, 4] (fun s i wr => ∃ (k : Nat) (sb : ByteArray), k ≤ xs.length ∧ i = .int .i64 k ∧ s = .string sb ∧ Hid (sb = ⟨(textB (xs.take k)).toArray⟩) ∧ sb.size ≤ 22 * k ∧ Below w.heap.size w wr) (fun _ i _ => xs.length - (intOf i).toNat)
  case atStart => exact ⟨0, ⟨#[]⟩, Nat.zero_le _, rfl, rfl, rfl, Nat.zero_le _, Below.refl _ _⟩
  case round =>
    obtain ⟨k, sb, hk, rfl, rfl, HS, hss, hbl⟩ := hrel
    have hsz := hbl.size
    by_cases hlt : k < xs.length
    · obtain ⟨b1, o1, rfl, q1, d1⟩ := Rd.at C1.out l1 hlt
      have d3 : wr.cell? ⟨b1, o1 + k, none⟩ = some (.int .i64 xs[k]) := by rw [hbl.cell (p := ⟨b1, _, none⟩) q1]; exact d1
      have hx := HD.out xs[k] (List.getElem_mem hlt)
      have HL := Lib.hid (show ((textB (xs.take (k + 1))).length ≤ 22 * (xs.take (k + 1)).length) from textB_len _ (fun y hy => HD.out y (List.mem_of_mem_take hy)))
      have HZ := Lib.hid (textB_step xs k hlt)
      have HN := Lib.hid (numB_len xs[k] hx)
      have HLE : Hid ((xs.take (k + 1)).length ≤ k + 1) := by unfold Hid; rw [List.length_take]; omega
      clear d1
      generalize xs[k] = x at *
      have r1 : (0 : Int) ≤ (k : Int) := by omega
      have r2 : (k : Int) < (xs.length : Int) := by omega
      by_cases h0 : 0 ≤ x
      · obtain ⟨n, rfl⟩ : ∃ n : Nat, x = n := ⟨x.toNat, by omega⟩
        have hnx : numB (n : Int) = Lib.decDigits n := by unfold numB; rw [if_pos h0, Lib.itoa_nonneg]
        have hdl : (Lib.decDigits n).length ≤ 21 := by rw [← hnx]; exact HN.out
        have HNX := Lib.hid hnx
        clear hnx
        rcases Nat.eq_zero_or_pos k with hz | hk0
        · have hz2 : (k : Int) ≤ 0 := by omega
          have HK0 := Lib.hid hz
          clear hz
          go_wp2_with (first | (go_at_call 29; with_reducible (refine (decimal_any n _ (by omega)).mono ?_); rintro e w2 ⟨rfl, hb2⟩))
          have he : sb ++ ⟨(Lib.decDigits n).toArray⟩ = (⟨(textB (xs.take (k + 1))).toArray⟩ : ByteArray) := by
            rw [HZ.out, HS.out, HNX.out, if_pos HK0.out]
            apply ByteArray.ext; simp
          have hl1 := HL.out
          have hl2 := HLE.out
          go_roundw
          case rel => exact ⟨k + 1, _, by omega, by go_num, rfl, he, by rw [he, size_mk]; omega, bl_trans hbl hb2⟩
          case measure => simp [intOf]; omega
        · go_wp2_with (first | (go_at_call 29; with_reducible (refine (decimal_any n _ (by omega)).mono ?_); rintro e w2 ⟨rfl, hb2⟩))
          have he : sb ++ ⟨#[59]⟩ ++ ⟨(Lib.decDigits n).toArray⟩ = (⟨(textB (xs.take (k + 1))).toArray⟩ : ByteArray) := by
            rw [HZ.out, HS.out, HNX.out, if_neg (by omega)]
            apply ByteArray.ext; simp
          have hl1 := HL.out
          have hl2 := HLE.out
          go_roundw
          case rel => exact ⟨k + 1, _, by omega, by go_num, rfl, he, by rw [he, size_mk]; omega, bl_trans hbl hb2⟩
          case measure => simp [intOf]; omega
      · rcases Nat.eq_zero_or_pos k with hz | hk0
        · have hz2 : (k : Int) ≤ 0 := by omega
          have HK0 := Lib.hid hz
          clear hz
          go_wp2_with fail
          have he : sb = (⟨(textB (xs.take (k + 1))).toArray⟩ : ByteArray) := by
            rw [HZ.out, HS.out, show numB x = [] from if_neg h0, if_pos HK0.out]
            apply ByteArray.ext; simp
          have hl1 := HL.out
          have hl2 := HLE.out
          go_roundw
          case rel => exact ⟨k + 1, _, by omega, by go_num, rfl, he, by rw [he, size_mk]; omega, hbl⟩
          case measure => simp [intOf]; omega
        · go_wp2_with fail
          have he : sb ++ ⟨#[59]⟩ = (⟨(textB (xs.take (k + 1))).toArray⟩ : ByteArray) := by
            rw [HZ.out, HS.out, show numB x = [] from if_neg h0, if_neg (by omega)]
            apply ByteArray.ext; simp
          have hl1 := HL.out
          have hl2 := HLE.out
          go_roundw
          case rel => exact ⟨k + 1, _, by omega, by go_num, rfl, he, by rw [he, size_mk]; omega, hbl⟩
          case measure => simp [intOf]; omega
    · go_wp2_with fail
      go_ret
      have e : xs.take k = xs := List.take_of_length_le (by omega)
      refine ⟨?_, hbl⟩
      show Ending.returned (Value.string sb) = _
      rw [HS.out, e]

end Go.Proofs.YtdbjebjmhjljbaaDoor
