/- utf: the reference's Begins and Rune. -/
import Derived.Test.YtpkkfcfkhiaggaaUR
import Derived.Test.YtpkkfcfkhiaggaaLate
import Derived.Outline
set_option linter.unusedSimpArgs false
set_option linter.unusedVariables false
set_option linter.unnecessarySimpa false
namespace Go.Proofs.Ytpkkfcfkhiaggaa
open Go.RowKit

theorem size_of (c n : Int) (w : World) (hc : 0 ≤ c ∧ c < 256) (h : Hid (sizeR c = n)) : Calls Try.prog 82 #[.int .u8 c] w fun e w' => e = .returned (.int .i64 n) ∧ w = w' := by
  have := h.out
  subst this
  exact size_any c w hc
theorem further_true (c : Int) (w : World) (hc : 0 ≤ c ∧ c < 256) (h : Hid (furR c = true)) : Calls Try.prog 83 #[.int .u8 c] w fun e w' => e = .returned (.bool true) ∧ w = w' := by
  rw [← h.out]; exact further_any c w hc
theorem further_false (c : Int) (w : World) (hc : 0 ≤ c ∧ c < 256) (h : Hid (furR c = false)) : Calls Try.prog 83 #[.int .u8 c] w fun e w' => e = .returned (.bool false) ∧ w = w' := by
  rw [← h.out]; exact further_any c w hc
theorem validRef_true (r : Int) (w : World) (h : Hid (validR r = true)) : Calls Try.prog 45 #[.int .i32 r] w fun e w' => e = .returned (.bool true) ∧ w = w' := by
  rw [← h.out]; exact validRef_any r w
theorem validRef_false (r : Int) (w : World) (h : Hid (validR r = false)) : Calls Try.prog 45 #[.int .i32 r] w fun e w' => e = .returned (.bool false) ∧ w = w' := by
  rw [← h.out]; exact validRef_any r w
theorem length_of (r n : Int) (w : World) (h : Hid (lenR r = n)) : Calls Try.prog 85 #[.int .i32 r] w fun e w' => e = .returned (.int .i64 n) ∧ w = w' := by
  have := h.out
  subst this
  exact length_any r w
theorem ret_bb {a b c d : Bool} (h : a = c) (h2 : b = d) : Ending.returned (.tuple #[.bool a, .bool b]) = .returned (.tuple #[.bool c, .bool d]) := by rw [h, h2]

/-- The values that further bytes add. -/
theorem add_bd (b : List Int) (hf : ∀ (i : Nat) (x : Int), b[i + 1]? = some x → 128 ≤ x ∧ x < 192) (i : Nat) (hi : 1 ≤ i) : 0 ≤ (if i < b.length then b.getD i 0 - 128 else 0) ∧ (if i < b.length then b.getD i 0 - 128 else 0) < 64 := by
  split
  · rename_i h
    have h1 := hf (i - 1) b[i] (by rw [show i - 1 + 1 = i by omega]; exact List.getElem?_eq_getElem h)
    rw [show b.getD i 0 = b[i] by simp [h]]
    omega
  · omega
theorem value_bd (b : List Int) (n : Nat) (hn : n = 2 ∨ n = 3 ∨ n = 4) (hs : firstR n ≤ b.headD 0 ∧ b.headD 0 < firstR n + 32) (hf : ∀ (i : Nat) (x : Int), b[i + 1]? = some x → 128 ≤ x ∧ x < 192) : 0 ≤ valueR b n ∧ valueR b n < 8388608 := by
  have d1 := add_bd b hf 1 (by omega)
  have d2 := add_bd b hf 2 (by omega)
  have d3 := add_bd b hf 3 (by omega)
  unfold valueR
  rcases hn with rfl | rfl | rfl
  all_goals
    simp only [firstR, valR, Nat.reduceSub, Nat.reduceAdd] at *
    generalize (if 1 < b.length then b.getD 1 0 - 128 else 0) = e1 at *
    generalize (if 2 < b.length then b.getD 2 0 - 128 else 0) = e2 at *
    generalize (if 3 < b.length then b.getD 3 0 - 128 else 0) = e3 at *
    simp at hs ⊢
    omega
theorem value_mod (b : List Int) (n : Nat) (hn : n = 2 ∨ n = 3 ∨ n = 4) (hl : b.length < n) : valueR b n % 64 = 0 := by
  unfold valueR
  rcases hn with rfl | rfl | rfl
  all_goals
    simp only [firstR, valR, Nat.reduceSub, Nat.reduceAdd]
  · rw [if_neg (show ¬ 1 < b.length by omega)]; omega
  · rw [if_neg (show ¬ 2 < b.length by omega)]; omega
  · rw [if_neg (show ¬ 3 < b.length by omega)]; omega
theorem span_succ (l k : Nat) (h : l ≤ k) (h2 : k < l + 3) : spanR l (k + 1) = spanR l k * 64 := by
  unfold spanR
  obtain rfl | rfl | rfl : k = l ∨ k = l + 1 ∨ k = l + 2 := by omega
  · simp
  · simp [show ¬ (l + 1 + 1 ≤ l) by omega, show ¬ (l + 1 ≤ l) by omega]
  · simp [show ¬ (l + 2 + 1 ≤ l) by omega, show ¬ (l + 2 ≤ l) by omega]
theorem span_cases (l k : Nat) : spanR l k = 1 ∨ spanR l k = 64 ∨ spanR l k = 4096 ∨ spanR l k = 262144 := by unfold spanR; (repeat' split) <;> simp
theorem all_fur (b : List Int) (h : ∀ (j : Nat) (x : Int), 1 ≤ j → b[j]? = some x → furR x = true) : b.tail.all furR = true := by
  rw [List.all_eq_true]
  intro x hx
  obtain ⟨j, hj⟩ := List.mem_iff_getElem?.1 hx
  exact h (j + 1) x (by omega) (by simpa using hj)
theorem fur_iff (x : Int) : furR x = true ↔ 128 ≤ x ∧ x < 192 := by simp [furR]
theorem isB_no (b : List Int) (k : Nat) (x : Int) (hk : 1 ≤ k) (hx : b[k]? = some x) (hf : furR x = false) (n : Int) (hs : sizeR (b.headD 0) = n) (hn : n ≠ 1) : isB b = false ∧ wholeB b = false := by
  have h : b.tail.all furR = false := by
    rw [List.all_eq_false]
    refine ⟨x, ?_, by simp [hf]⟩
    rw [List.mem_iff_getElem?]
    exact ⟨k - 1, by rw [List.getElem?_tail, show k - 1 + 1 = k by omega]; exact hx⟩
  have : isB b = false := by simp only [isB, hs]; simp [h, hn]
  exact ⟨this, by simp [wholeB, this]⟩
theorem isB_hits (b : List Int) (n : Int) (hb : b ≠ []) (hs : sizeR (b.headD 0) = n) (hn : n = 2 ∨ n = 3 ∨ n = 4) (hl : (b.length : Int) ≤ n) (h : b.tail.all furR = true) : isB b = decide (Hits (valueR b n.toNat) (valueR b n.toNat + spanR b.length n.toNat) n) := by
  rcases hn with rfl | rfl | rfl <;> simp only [isB, hs] <;> simp [hb, h, hl]


set_option maxRecDepth 100000 in
set_option maxHeartbeats 2000000 in
theorem begins_2 (vb : Value) (b : List Int) (w : World) (hb : Rd w .u8 vb b) (h0 : 0 < b.length) (hln : b.length ≤ 2) (hby : ∀ x ∈ b, 0 ≤ x ∧ x < 256) (hsz : sizeR (b.headD 0) = 2) :
    Calls Try.prog 71 #[vb] w fun e w' => e = .returned (.tuple #[.bool (isB b), .bool (wholeB b)]) ∧ Below w.heap.size w w' := by
  have hb0 := hb
  obtain ⟨p1, cap1, rfl, l1, m1, c1⟩ := hb
  unfold maxLen at m1
  obtain ⟨b1, o1, rfl, q1, d1⟩ := Rd.at c1 l1 h0
  rcases c1 with ⟨c1, _⟩ | ⟨b2, o2, hb2, _, c1⟩
  · cases c1
  cases hb2
  have z1 : (0 : Int) < (b.length : Int) := by omega
  have z2 : ((b.length : Int) == 0) = false := by rw [beq_eq_false_iff_ne]; omega
  have z4 : decide ((2 : Int) < (b.length : Int)) = false := by simp; omega
  have z3 : (b.length : Int) ≤ 2 := by omega
  simp only [Nat.add_zero] at d1
  have hd : b.headD 0 = b[0] := by cases b with | nil => simp at h0 | cons a l => rfl
  have hbz : 0 ≤ b[0] ∧ b[0] < 256 := hby _ (List.getElem_mem _)
  have hbc := size_cases b[0]
  have hst : 192 ≤ b.headD 0 ∧ b.headD 0 < 192 + 32 := by rw [hd]; rw [hd] at hsz; omega
  have S := Lib.hid hsz
  have S0 := Lib.hid (show sizeR b[0] = 2 by rw [← hd]; exact hsz)
  have HF := Lib.hid hst
  clear hd hsz hbc hst
  have hne : b ≠ [] := List.length_pos_iff.1 h0
  have NE := Lib.hid hne
  clear hne
  go_enter Try.func71, Try.ntmps71
  go_wp2_with (go_at_call 82; refine (size_of _ 2 _ hbz S0).mono ?_; rintro e w' ⟨rfl, rfl⟩)
  go_loop [5] (fun i => ∃ k : Nat, 1 ≤ k ∧ k ≤ b.length ∧ i = .int .i64 k ∧ ∀ (j : Nat) (x : Int), 1 ≤ j → j < k → b[j]? = some x → furR x = true) (fun i => b.length - (intOf i).toNat)
  case atStart => exact ⟨1, by omega, by omega, rfl, fun j x h1 h2 => by omega⟩
  case round =>
    obtain ⟨k, hk1, hk, rfl, hall⟩ := hrel
    have A := Lib.hid hall
    clear hall
    by_cases hlt : k < b.length
    · have hck := c1 k b[k] (List.getElem?_eq_getElem hlt)
      have hyb : 0 ≤ b[k] ∧ b[k] < 256 := hby _ (List.getElem_mem _)
      have hxk : Hid (b[k]? = some b[k]) := List.getElem?_eq_getElem hlt
      generalize b[k] = y at *
      clear c1 hby
      have r1 : (0 : Int) ≤ (k : Int) := by omega
      have r2 : (k : Int) < (b.length : Int) := by omega
      cases hfu : furR y with
      | true =>
        have FU := Lib.hid hfu
        clear hfu
        go_wp2_with (go_at_call 83; refine (further_true _ _ hyb FU).mono ?_; rintro e w' ⟨rfl, rfl⟩)
        go_round
        case rel => exact ⟨k + 1, by omega, by omega, by go_num, fun j x h1 h2 hx => by
          by_cases hj : j = k
          · subst hj
            have e := hxk.out
            rw [hx] at e
            cases e
            exact FU.out
          · exact A.out j x h1 (by omega) hx⟩
        case measure => simp [intOf]; omega
      | false =>
        have FU := Lib.hid hfu
        clear hfu
        go_wp2_with (go_at_call 83; refine (further_false _ _ hyb FU).mono ?_; rintro e w' ⟨rfl, rfl⟩)
        go_ret2
        have hno := isB_no b k y hk1 hxk.out FU.out 2 S.out (by decide)
        exact ⟨ret_bb hno.1.symm hno.2.symm, Below.refl _ _⟩
    · have hfa : ∀ (i : Nat) (x : Int), b[i + 1]? = some x → 128 ≤ x ∧ x < 192 := fun i x hx => by
        have hi := (List.getElem?_eq_some_iff.1 hx).1
        exact (fur_iff x).1 (A.out (i + 1) x (by omega) (by omega) hx)
      have TA := Lib.hid (all_fur b fun j x h1 hx => A.out j x h1 (by have := (List.getElem?_eq_some_iff.1 hx).1; omega) hx)
      have HB : Hid (isB b = decide (Hits (valueR b 2) (valueR b 2 + spanR b.length 2) 2)) := isB_hits b 2 NE.out S.out (by decide) z3 TA.out
      have HM := Lib.hid (value_mod b 2 (by decide))
      have bd := value_bd b 2 (by decide) HF.out hfa
      have FA := Lib.hid hfa
      clear hfa A c1 TA hby d1
      go_wp2_with (go_at_call 84; refine (value_2 _ b w hb0 h0 HF.out FA.out).mono ?_; rintro e w1 ⟨rfl, hbl⟩)
      generalize hL : valueR b 2 = L at *
      clear hL
      go_loop [7, 8] (fun s i => ∃ k : Nat, b.length ≤ k ∧ k ≤ 2 ∧ i = .int .i64 k ∧ s = .int .i64 (spanR b.length k)) (fun _ i => 2 - (intOf i).toNat)
      case atStart => exact ⟨b.length, by omega, by omega, rfl, by simp [spanR]⟩
      case round =>
        obtain ⟨j, hj1, hj, rfl, rfl⟩ := hrel
        by_cases hjl : j < 2
        · have sc := span_cases b.length j
          have SS := Lib.hid (span_succ b.length j hj1 (by omega))
          have sb : 1 ≤ spanR b.length j ∧ spanR b.length j ≤ 262144 := by omega
          clear sc
          generalize spanR b.length j = sp at *
          go_wp2_with fail
          go_round
          case rel => exact ⟨j + 1, by omega, by omega, by go_num, by rw [SS.out]⟩
          case measure => simp [intOf]; omega
        · obtain rfl : j = 2 := by omega
          have sc := span_cases b.length 2
          have sb : 1 ≤ spanR b.length 2 ∧ spanR b.length 2 ≤ 262144 := by omega
          have sm : spanR b.length 2 ≠ 1 → b.length < 2 := fun h => by unfold spanR at h; split at h <;> omega
          have SM := Lib.hid sm
          have SC := Lib.hid sc
          clear sc sm
          generalize spanR b.length 2 = sp at *
          go_wp2_with fail
          go_loop [9] (fun i => ∃ k : Nat, (k : Int) ≤ sp ∧ i = .int .i64 k ∧ ¬ Hits L (L + k) 2) (fun i => sp.toNat - (intOf i).toNat)
          case atStart => exact ⟨0, by omega, rfl, by simpa using hits_none L 2⟩
          case round =>
            obtain ⟨k, hk, rfl, hhit⟩ := hrel
            have H0 := Lib.hid hhit
            clear hhit
            by_cases hlt3 : (k : Int) < sp
            · have rb : 0 ≤ L + k ∧ L + k < 9000000 := by omega
              have HS := Lib.hid (fun h : okR (L + k) 2 = true => hits_ok L (L + sp) (L + k) 2 (by decide) (by omega) (by omega) h)
              have HU := Lib.hid (fun h : okR (L + k) 2 = false => hits_succ L (L + k) 2 (by decide) H0.out (by omega) h)
              have HV := Lib.hid (fun (h0 : (L + k) % 64 = 0) (h : okR (L + k) 2 = false) => hits_skip L (L + k) 2 (by decide) H0.out (by omega) h0 h)
              have HO : Hid (okR (L + k) 2 = (validR (L + k) && decide (lenR (L + k) = 2))) := rfl
              cases hv : validR (L + k) with
              | true =>
                by_cases hl : lenR (L + k) = 2
                · have OK := Lib.hid (show okR (L + k) 2 = true by rw [HO.out, hv]; simpa using hl)
                  have VT := Lib.hid hv
                  have LT := Lib.hid hl
                  clear hv hl
                  go_wp2_with (first | (go_at_call 45; refine (validRef_true _ _ VT).mono ?_; rintro e w' ⟨rfl, rfl⟩) | (go_at_call 85; refine (length_of _ 2 _ LT).mono ?_; rintro e w' ⟨rfl, rfl⟩))
                  go_ret2
                  have hi : isB b = true := by rw [HB.out]; simpa using HS.out OK.out
                  exact ⟨ret_bb hi.symm (by simp only [wholeB, hi, S.out, Bool.true_and]; first | (rw [Bool.eq_iff_iff, beq_iff_eq, decide_eq_true_eq]; omega) | (rw [Bool.eq_iff_iff, decide_eq_true_eq, decide_eq_true_eq]; omega)), hbl⟩
                · have OK := Lib.hid (show okR (L + k) 2 = false by rw [HO.out, hv]; simpa using hl)
                  have VT := Lib.hid hv
                  have ln : ((lenR (L + k)) == 2) = false := by simpa using hl
                  clear hv hl
                  by_cases hm : (k : Int) % 64 = 0
                  · by_cases hk2 : (k : Int) + 64 < sp
                    · have hm2 : ((k : Int) % 64 == 0) = true := by simpa using hm
                      have HN := Lib.hid (HV.out (by have := HM.out (SM.out (by omega)); omega) OK.out)
                      clear hm
                      go_wp2_with (first | (go_at_call 45; refine (validRef_true _ _ VT).mono ?_; rintro e w' ⟨rfl, rfl⟩) | (go_at_call 85; refine (length_any _ _).mono ?_; rintro e w' ⟨rfl, rfl⟩))
                      go_round
                      case rel => exact ⟨k + 63, by omega, by first | go_num | (congr 1; omega), by have h := HN.out; rw [show L + (k : Int) + 63 = L + ((k + 63 : Nat) : Int) by omega] at h; exact h⟩
                      case measure => simp [intOf]; omega
                    · have hm2 : ((k : Int) % 64 == 0) = true := by simpa using hm
                      have HN := Lib.hid (HU.out OK.out)
                      clear hm
                      go_wp2_with (first | (go_at_call 45; refine (validRef_true _ _ VT).mono ?_; rintro e w' ⟨rfl, rfl⟩) | (go_at_call 85; refine (length_any _ _).mono ?_; rintro e w' ⟨rfl, rfl⟩))
                      go_round
                      case rel => exact ⟨k + 1, by omega, by go_num, by have h := HN.out; rw [show L + (k : Int) + 1 = L + ((k + 1 : Nat) : Int) by omega] at h; exact h⟩
                      case measure => simp [intOf]; omega
                  · have hm2 : ((k : Int) % 64 == 0) = false := by simpa using hm
                    have HN := Lib.hid (HU.out OK.out)
                    clear hm
                    go_wp2_with (first | (go_at_call 45; refine (validRef_true _ _ VT).mono ?_; rintro e w' ⟨rfl, rfl⟩) | (go_at_call 85; refine (length_any _ _).mono ?_; rintro e w' ⟨rfl, rfl⟩))
                    go_round
                    case rel => exact ⟨k + 1, by omega, by go_num, by have h := HN.out; rw [show L + (k : Int) + 1 = L + ((k + 1 : Nat) : Int) by omega] at h; exact h⟩
                    case measure => simp [intOf]; omega
              | false =>
                · have OK := Lib.hid (show okR (L + k) 2 = false by rw [HO.out, hv]; rfl)
                  have VT := Lib.hid hv
                  clear hv
                  by_cases hm : (k : Int) % 64 = 0
                  · by_cases hk2 : (k : Int) + 64 < sp
                    · have hm2 : ((k : Int) % 64 == 0) = true := by simpa using hm
                      have HN := Lib.hid (HV.out (by have := HM.out (SM.out (by omega)); omega) OK.out)
                      clear hm
                      go_wp2_with (go_at_call 45; refine (validRef_false _ _ VT).mono ?_; rintro e w' ⟨rfl, rfl⟩)
                      go_round
                      case rel => exact ⟨k + 63, by omega, by first | go_num | (congr 1; omega), by have h := HN.out; rw [show L + (k : Int) + 63 = L + ((k + 63 : Nat) : Int) by omega] at h; exact h⟩
                      case measure => simp [intOf]; omega
                    · have hm2 : ((k : Int) % 64 == 0) = true := by simpa using hm
                      have HN := Lib.hid (HU.out OK.out)
                      clear hm
                      go_wp2_with (go_at_call 45; refine (validRef_false _ _ VT).mono ?_; rintro e w' ⟨rfl, rfl⟩)
                      go_round
                      case rel => exact ⟨k + 1, by omega, by go_num, by have h := HN.out; rw [show L + (k : Int) + 1 = L + ((k + 1 : Nat) : Int) by omega] at h; exact h⟩
                      case measure => simp [intOf]; omega
                  · have hm2 : ((k : Int) % 64 == 0) = false := by simpa using hm
                    have HN := Lib.hid (HU.out OK.out)
                    clear hm
                    go_wp2_with (go_at_call 45; refine (validRef_false _ _ VT).mono ?_; rintro e w' ⟨rfl, rfl⟩)
                    go_round
                    case rel => exact ⟨k + 1, by omega, by go_num, by have h := HN.out; rw [show L + (k : Int) + 1 = L + ((k + 1 : Nat) : Int) by omega] at h; exact h⟩
                    case measure => simp [intOf]; omega
            · go_wp2_with fail
              go_ret2
              obtain rfl : sp = k := by omega
              exact ⟨ret_bb (by rw [HB.out]; simpa using H0.out) (by rw [wholeB, HB.out]; simp; intro h; exact absurd h H0.out), hbl⟩

set_option maxRecDepth 100000 in
set_option maxHeartbeats 2000000 in
theorem begins_3 (vb : Value) (b : List Int) (w : World) (hb : Rd w .u8 vb b) (h0 : 0 < b.length) (hln : b.length ≤ 3) (hby : ∀ x ∈ b, 0 ≤ x ∧ x < 256) (hsz : sizeR (b.headD 0) = 3) :
    Calls Try.prog 71 #[vb] w fun e w' => e = .returned (.tuple #[.bool (isB b), .bool (wholeB b)]) ∧ Below w.heap.size w w' := by
  have hb0 := hb
  obtain ⟨p1, cap1, rfl, l1, m1, c1⟩ := hb
  unfold maxLen at m1
  obtain ⟨b1, o1, rfl, q1, d1⟩ := Rd.at c1 l1 h0
  rcases c1 with ⟨c1, _⟩ | ⟨b2, o2, hb2, _, c1⟩
  · cases c1
  cases hb2
  have z1 : (0 : Int) < (b.length : Int) := by omega
  have z2 : ((b.length : Int) == 0) = false := by rw [beq_eq_false_iff_ne]; omega
  have z4 : decide ((3 : Int) < (b.length : Int)) = false := by simp; omega
  have z3 : (b.length : Int) ≤ 3 := by omega
  simp only [Nat.add_zero] at d1
  have hd : b.headD 0 = b[0] := by cases b with | nil => simp at h0 | cons a l => rfl
  have hbz : 0 ≤ b[0] ∧ b[0] < 256 := hby _ (List.getElem_mem _)
  have hbc := size_cases b[0]
  have hst : 224 ≤ b.headD 0 ∧ b.headD 0 < 224 + 32 := by rw [hd]; rw [hd] at hsz; omega
  have S := Lib.hid hsz
  have S0 := Lib.hid (show sizeR b[0] = 3 by rw [← hd]; exact hsz)
  have HF := Lib.hid hst
  clear hd hsz hbc hst
  have hne : b ≠ [] := List.length_pos_iff.1 h0
  have NE := Lib.hid hne
  clear hne
  go_enter Try.func71, Try.ntmps71
  go_wp2_with (go_at_call 82; refine (size_of _ 3 _ hbz S0).mono ?_; rintro e w' ⟨rfl, rfl⟩)
  go_loop [5] (fun i => ∃ k : Nat, 1 ≤ k ∧ k ≤ b.length ∧ i = .int .i64 k ∧ ∀ (j : Nat) (x : Int), 1 ≤ j → j < k → b[j]? = some x → furR x = true) (fun i => b.length - (intOf i).toNat)
  case atStart => exact ⟨1, by omega, by omega, rfl, fun j x h1 h2 => by omega⟩
  case round =>
    obtain ⟨k, hk1, hk, rfl, hall⟩ := hrel
    have A := Lib.hid hall
    clear hall
    by_cases hlt : k < b.length
    · have hck := c1 k b[k] (List.getElem?_eq_getElem hlt)
      have hyb : 0 ≤ b[k] ∧ b[k] < 256 := hby _ (List.getElem_mem _)
      have hxk : Hid (b[k]? = some b[k]) := List.getElem?_eq_getElem hlt
      generalize b[k] = y at *
      clear c1 hby
      have r1 : (0 : Int) ≤ (k : Int) := by omega
      have r2 : (k : Int) < (b.length : Int) := by omega
      cases hfu : furR y with
      | true =>
        have FU := Lib.hid hfu
        clear hfu
        go_wp2_with (go_at_call 83; refine (further_true _ _ hyb FU).mono ?_; rintro e w' ⟨rfl, rfl⟩)
        go_round
        case rel => exact ⟨k + 1, by omega, by omega, by go_num, fun j x h1 h2 hx => by
          by_cases hj : j = k
          · subst hj
            have e := hxk.out
            rw [hx] at e
            cases e
            exact FU.out
          · exact A.out j x h1 (by omega) hx⟩
        case measure => simp [intOf]; omega
      | false =>
        have FU := Lib.hid hfu
        clear hfu
        go_wp2_with (go_at_call 83; refine (further_false _ _ hyb FU).mono ?_; rintro e w' ⟨rfl, rfl⟩)
        go_ret2
        have hno := isB_no b k y hk1 hxk.out FU.out 3 S.out (by decide)
        exact ⟨ret_bb hno.1.symm hno.2.symm, Below.refl _ _⟩
    · have hfa : ∀ (i : Nat) (x : Int), b[i + 1]? = some x → 128 ≤ x ∧ x < 192 := fun i x hx => by
        have hi := (List.getElem?_eq_some_iff.1 hx).1
        exact (fur_iff x).1 (A.out (i + 1) x (by omega) (by omega) hx)
      have TA := Lib.hid (all_fur b fun j x h1 hx => A.out j x h1 (by have := (List.getElem?_eq_some_iff.1 hx).1; omega) hx)
      have HB : Hid (isB b = decide (Hits (valueR b 3) (valueR b 3 + spanR b.length 3) 3)) := isB_hits b 3 NE.out S.out (by decide) z3 TA.out
      have HM := Lib.hid (value_mod b 3 (by decide))
      have bd := value_bd b 3 (by decide) HF.out hfa
      have FA := Lib.hid hfa
      clear hfa A c1 TA hby d1
      go_wp2_with (go_at_call 84; refine (value_3 _ b w hb0 h0 HF.out FA.out).mono ?_; rintro e w1 ⟨rfl, hbl⟩)
      generalize hL : valueR b 3 = L at *
      clear hL
      go_loop [7, 8] (fun s i => ∃ k : Nat, b.length ≤ k ∧ k ≤ 3 ∧ i = .int .i64 k ∧ s = .int .i64 (spanR b.length k)) (fun _ i => 3 - (intOf i).toNat)
      case atStart => exact ⟨b.length, by omega, by omega, rfl, by simp [spanR]⟩
      case round =>
        obtain ⟨j, hj1, hj, rfl, rfl⟩ := hrel
        by_cases hjl : j < 3
        · have sc := span_cases b.length j
          have SS := Lib.hid (span_succ b.length j hj1 (by omega))
          have sb : 1 ≤ spanR b.length j ∧ spanR b.length j ≤ 262144 := by omega
          clear sc
          generalize spanR b.length j = sp at *
          go_wp2_with fail
          go_round
          case rel => exact ⟨j + 1, by omega, by omega, by go_num, by rw [SS.out]⟩
          case measure => simp [intOf]; omega
        · obtain rfl : j = 3 := by omega
          have sc := span_cases b.length 3
          have sb : 1 ≤ spanR b.length 3 ∧ spanR b.length 3 ≤ 262144 := by omega
          have sm : spanR b.length 3 ≠ 1 → b.length < 3 := fun h => by unfold spanR at h; split at h <;> omega
          have SM := Lib.hid sm
          have SC := Lib.hid sc
          clear sc sm
          generalize spanR b.length 3 = sp at *
          go_wp2_with fail
          go_loop [9] (fun i => ∃ k : Nat, (k : Int) ≤ sp ∧ i = .int .i64 k ∧ ¬ Hits L (L + k) 3) (fun i => sp.toNat - (intOf i).toNat)
          case atStart => exact ⟨0, by omega, rfl, by simpa using hits_none L 3⟩
          case round =>
            obtain ⟨k, hk, rfl, hhit⟩ := hrel
            have H0 := Lib.hid hhit
            clear hhit
            by_cases hlt3 : (k : Int) < sp
            · have rb : 0 ≤ L + k ∧ L + k < 9000000 := by omega
              have HS := Lib.hid (fun h : okR (L + k) 3 = true => hits_ok L (L + sp) (L + k) 3 (by decide) (by omega) (by omega) h)
              have HU := Lib.hid (fun h : okR (L + k) 3 = false => hits_succ L (L + k) 3 (by decide) H0.out (by omega) h)
              have HV := Lib.hid (fun (h0 : (L + k) % 64 = 0) (h : okR (L + k) 3 = false) => hits_skip L (L + k) 3 (by decide) H0.out (by omega) h0 h)
              have HO : Hid (okR (L + k) 3 = (validR (L + k) && decide (lenR (L + k) = 3))) := rfl
              cases hv : validR (L + k) with
              | true =>
                by_cases hl : lenR (L + k) = 3
                · have OK := Lib.hid (show okR (L + k) 3 = true by rw [HO.out, hv]; simpa using hl)
                  have VT := Lib.hid hv
                  have LT := Lib.hid hl
                  clear hv hl
                  go_wp2_with (first | (go_at_call 45; refine (validRef_true _ _ VT).mono ?_; rintro e w' ⟨rfl, rfl⟩) | (go_at_call 85; refine (length_of _ 3 _ LT).mono ?_; rintro e w' ⟨rfl, rfl⟩))
                  go_ret2
                  have hi : isB b = true := by rw [HB.out]; simpa using HS.out OK.out
                  exact ⟨ret_bb hi.symm (by simp only [wholeB, hi, S.out, Bool.true_and]; first | (rw [Bool.eq_iff_iff, beq_iff_eq, decide_eq_true_eq]; omega) | (rw [Bool.eq_iff_iff, decide_eq_true_eq, decide_eq_true_eq]; omega)), hbl⟩
                · have OK := Lib.hid (show okR (L + k) 3 = false by rw [HO.out, hv]; simpa using hl)
                  have VT := Lib.hid hv
                  have ln : ((lenR (L + k)) == 3) = false := by simpa using hl
                  clear hv hl
                  by_cases hm : (k : Int) % 64 = 0
                  · by_cases hk2 : (k : Int) + 64 < sp
                    · have hm2 : ((k : Int) % 64 == 0) = true := by simpa using hm
                      have HN := Lib.hid (HV.out (by have := HM.out (SM.out (by omega)); omega) OK.out)
                      clear hm
                      go_wp2_with (first | (go_at_call 45; refine (validRef_true _ _ VT).mono ?_; rintro e w' ⟨rfl, rfl⟩) | (go_at_call 85; refine (length_any _ _).mono ?_; rintro e w' ⟨rfl, rfl⟩))
                      go_round
                      case rel => exact ⟨k + 63, by omega, by first | go_num | (congr 1; omega), by have h := HN.out; rw [show L + (k : Int) + 63 = L + ((k + 63 : Nat) : Int) by omega] at h; exact h⟩
                      case measure => simp [intOf]; omega
                    · have hm2 : ((k : Int) % 64 == 0) = true := by simpa using hm
                      have HN := Lib.hid (HU.out OK.out)
                      clear hm
                      go_wp2_with (first | (go_at_call 45; refine (validRef_true _ _ VT).mono ?_; rintro e w' ⟨rfl, rfl⟩) | (go_at_call 85; refine (length_any _ _).mono ?_; rintro e w' ⟨rfl, rfl⟩))
                      go_round
                      case rel => exact ⟨k + 1, by omega, by go_num, by have h := HN.out; rw [show L + (k : Int) + 1 = L + ((k + 1 : Nat) : Int) by omega] at h; exact h⟩
                      case measure => simp [intOf]; omega
                  · have hm2 : ((k : Int) % 64 == 0) = false := by simpa using hm
                    have HN := Lib.hid (HU.out OK.out)
                    clear hm
                    go_wp2_with (first | (go_at_call 45; refine (validRef_true _ _ VT).mono ?_; rintro e w' ⟨rfl, rfl⟩) | (go_at_call 85; refine (length_any _ _).mono ?_; rintro e w' ⟨rfl, rfl⟩))
                    go_round
                    case rel => exact ⟨k + 1, by omega, by go_num, by have h := HN.out; rw [show L + (k : Int) + 1 = L + ((k + 1 : Nat) : Int) by omega] at h; exact h⟩
                    case measure => simp [intOf]; omega
              | false =>
                · have OK := Lib.hid (show okR (L + k) 3 = false by rw [HO.out, hv]; rfl)
                  have VT := Lib.hid hv
                  clear hv
                  by_cases hm : (k : Int) % 64 = 0
                  · by_cases hk2 : (k : Int) + 64 < sp
                    · have hm2 : ((k : Int) % 64 == 0) = true := by simpa using hm
                      have HN := Lib.hid (HV.out (by have := HM.out (SM.out (by omega)); omega) OK.out)
                      clear hm
                      go_wp2_with (go_at_call 45; refine (validRef_false _ _ VT).mono ?_; rintro e w' ⟨rfl, rfl⟩)
                      go_round
                      case rel => exact ⟨k + 63, by omega, by first | go_num | (congr 1; omega), by have h := HN.out; rw [show L + (k : Int) + 63 = L + ((k + 63 : Nat) : Int) by omega] at h; exact h⟩
                      case measure => simp [intOf]; omega
                    · have hm2 : ((k : Int) % 64 == 0) = true := by simpa using hm
                      have HN := Lib.hid (HU.out OK.out)
                      clear hm
                      go_wp2_with (go_at_call 45; refine (validRef_false _ _ VT).mono ?_; rintro e w' ⟨rfl, rfl⟩)
                      go_round
                      case rel => exact ⟨k + 1, by omega, by go_num, by have h := HN.out; rw [show L + (k : Int) + 1 = L + ((k + 1 : Nat) : Int) by omega] at h; exact h⟩
                      case measure => simp [intOf]; omega
                  · have hm2 : ((k : Int) % 64 == 0) = false := by simpa using hm
                    have HN := Lib.hid (HU.out OK.out)
                    clear hm
                    go_wp2_with (go_at_call 45; refine (validRef_false _ _ VT).mono ?_; rintro e w' ⟨rfl, rfl⟩)
                    go_round
                    case rel => exact ⟨k + 1, by omega, by go_num, by have h := HN.out; rw [show L + (k : Int) + 1 = L + ((k + 1 : Nat) : Int) by omega] at h; exact h⟩
                    case measure => simp [intOf]; omega
            · go_wp2_with fail
              go_ret2
              obtain rfl : sp = k := by omega
              exact ⟨ret_bb (by rw [HB.out]; simpa using H0.out) (by rw [wholeB, HB.out]; simp; intro h; exact absurd h H0.out), hbl⟩

set_option maxRecDepth 100000 in
set_option maxHeartbeats 2000000 in
theorem begins_4 (vb : Value) (b : List Int) (w : World) (hb : Rd w .u8 vb b) (h0 : 0 < b.length) (hln : b.length ≤ 4) (hby : ∀ x ∈ b, 0 ≤ x ∧ x < 256) (hsz : sizeR (b.headD 0) = 4) :
    Calls Try.prog 71 #[vb] w fun e w' => e = .returned (.tuple #[.bool (isB b), .bool (wholeB b)]) ∧ Below w.heap.size w w' := by
  have hb0 := hb
  obtain ⟨p1, cap1, rfl, l1, m1, c1⟩ := hb
  unfold maxLen at m1
  obtain ⟨b1, o1, rfl, q1, d1⟩ := Rd.at c1 l1 h0
  rcases c1 with ⟨c1, _⟩ | ⟨b2, o2, hb2, _, c1⟩
  · cases c1
  cases hb2
  have z1 : (0 : Int) < (b.length : Int) := by omega
  have z2 : ((b.length : Int) == 0) = false := by rw [beq_eq_false_iff_ne]; omega
  have z4 : decide ((4 : Int) < (b.length : Int)) = false := by simp; omega
  have z3 : (b.length : Int) ≤ 4 := by omega
  simp only [Nat.add_zero] at d1
  have hd : b.headD 0 = b[0] := by cases b with | nil => simp at h0 | cons a l => rfl
  have hbz : 0 ≤ b[0] ∧ b[0] < 256 := hby _ (List.getElem_mem _)
  have hbc := size_cases b[0]
  have hst : 240 ≤ b.headD 0 ∧ b.headD 0 < 240 + 32 := by rw [hd]; rw [hd] at hsz; omega
  have S := Lib.hid hsz
  have S0 := Lib.hid (show sizeR b[0] = 4 by rw [← hd]; exact hsz)
  have HF := Lib.hid hst
  clear hd hsz hbc hst
  have hne : b ≠ [] := List.length_pos_iff.1 h0
  have NE := Lib.hid hne
  clear hne
  go_enter Try.func71, Try.ntmps71
  go_wp2_with (go_at_call 82; refine (size_of _ 4 _ hbz S0).mono ?_; rintro e w' ⟨rfl, rfl⟩)
  go_loop [5] (fun i => ∃ k : Nat, 1 ≤ k ∧ k ≤ b.length ∧ i = .int .i64 k ∧ ∀ (j : Nat) (x : Int), 1 ≤ j → j < k → b[j]? = some x → furR x = true) (fun i => b.length - (intOf i).toNat)
  case atStart => exact ⟨1, by omega, by omega, rfl, fun j x h1 h2 => by omega⟩
  case round =>
    obtain ⟨k, hk1, hk, rfl, hall⟩ := hrel
    have A := Lib.hid hall
    clear hall
    by_cases hlt : k < b.length
    · have hck := c1 k b[k] (List.getElem?_eq_getElem hlt)
      have hyb : 0 ≤ b[k] ∧ b[k] < 256 := hby _ (List.getElem_mem _)
      have hxk : Hid (b[k]? = some b[k]) := List.getElem?_eq_getElem hlt
      generalize b[k] = y at *
      clear c1 hby
      have r1 : (0 : Int) ≤ (k : Int) := by omega
      have r2 : (k : Int) < (b.length : Int) := by omega
      cases hfu : furR y with
      | true =>
        have FU := Lib.hid hfu
        clear hfu
        go_wp2_with (go_at_call 83; refine (further_true _ _ hyb FU).mono ?_; rintro e w' ⟨rfl, rfl⟩)
        go_round
        case rel => exact ⟨k + 1, by omega, by omega, by go_num, fun j x h1 h2 hx => by
          by_cases hj : j = k
          · subst hj
            have e := hxk.out
            rw [hx] at e
            cases e
            exact FU.out
          · exact A.out j x h1 (by omega) hx⟩
        case measure => simp [intOf]; omega
      | false =>
        have FU := Lib.hid hfu
        clear hfu
        go_wp2_with (go_at_call 83; refine (further_false _ _ hyb FU).mono ?_; rintro e w' ⟨rfl, rfl⟩)
        go_ret2
        have hno := isB_no b k y hk1 hxk.out FU.out 4 S.out (by decide)
        exact ⟨ret_bb hno.1.symm hno.2.symm, Below.refl _ _⟩
    · have hfa : ∀ (i : Nat) (x : Int), b[i + 1]? = some x → 128 ≤ x ∧ x < 192 := fun i x hx => by
        have hi := (List.getElem?_eq_some_iff.1 hx).1
        exact (fur_iff x).1 (A.out (i + 1) x (by omega) (by omega) hx)
      have TA := Lib.hid (all_fur b fun j x h1 hx => A.out j x h1 (by have := (List.getElem?_eq_some_iff.1 hx).1; omega) hx)
      have HB : Hid (isB b = decide (Hits (valueR b 4) (valueR b 4 + spanR b.length 4) 4)) := isB_hits b 4 NE.out S.out (by decide) z3 TA.out
      have HM := Lib.hid (value_mod b 4 (by decide))
      have bd := value_bd b 4 (by decide) HF.out hfa
      have FA := Lib.hid hfa
      clear hfa A c1 TA hby d1
      go_wp2_with (go_at_call 84; refine (value_4 _ b w hb0 h0 HF.out FA.out).mono ?_; rintro e w1 ⟨rfl, hbl⟩)
      generalize hL : valueR b 4 = L at *
      clear hL
      go_loop [7, 8] (fun s i => ∃ k : Nat, b.length ≤ k ∧ k ≤ 4 ∧ i = .int .i64 k ∧ s = .int .i64 (spanR b.length k)) (fun _ i => 4 - (intOf i).toNat)
      case atStart => exact ⟨b.length, by omega, by omega, rfl, by simp [spanR]⟩
      case round =>
        obtain ⟨j, hj1, hj, rfl, rfl⟩ := hrel
        by_cases hjl : j < 4
        · have sc := span_cases b.length j
          have SS := Lib.hid (span_succ b.length j hj1 (by omega))
          have sb : 1 ≤ spanR b.length j ∧ spanR b.length j ≤ 262144 := by omega
          clear sc
          generalize spanR b.length j = sp at *
          go_wp2_with fail
          go_round
          case rel => exact ⟨j + 1, by omega, by omega, by go_num, by rw [SS.out]⟩
          case measure => simp [intOf]; omega
        · obtain rfl : j = 4 := by omega
          have sc := span_cases b.length 4
          have sb : 1 ≤ spanR b.length 4 ∧ spanR b.length 4 ≤ 262144 := by omega
          have sm : spanR b.length 4 ≠ 1 → b.length < 4 := fun h => by unfold spanR at h; split at h <;> omega
          have SM := Lib.hid sm
          have SC := Lib.hid sc
          clear sc sm
          generalize spanR b.length 4 = sp at *
          go_wp2_with fail
          go_loop [9] (fun i => ∃ k : Nat, (k : Int) ≤ sp ∧ i = .int .i64 k ∧ ¬ Hits L (L + k) 4) (fun i => sp.toNat - (intOf i).toNat)
          case atStart => exact ⟨0, by omega, rfl, by simpa using hits_none L 4⟩
          case round =>
            obtain ⟨k, hk, rfl, hhit⟩ := hrel
            have H0 := Lib.hid hhit
            clear hhit
            by_cases hlt3 : (k : Int) < sp
            · have rb : 0 ≤ L + k ∧ L + k < 9000000 := by omega
              have HS := Lib.hid (fun h : okR (L + k) 4 = true => hits_ok L (L + sp) (L + k) 4 (by decide) (by omega) (by omega) h)
              have HU := Lib.hid (fun h : okR (L + k) 4 = false => hits_succ L (L + k) 4 (by decide) H0.out (by omega) h)
              have HV := Lib.hid (fun (h0 : (L + k) % 64 = 0) (h : okR (L + k) 4 = false) => hits_skip L (L + k) 4 (by decide) H0.out (by omega) h0 h)
              have HO : Hid (okR (L + k) 4 = (validR (L + k) && decide (lenR (L + k) = 4))) := rfl
              cases hv : validR (L + k) with
              | true =>
                by_cases hl : lenR (L + k) = 4
                · have OK := Lib.hid (show okR (L + k) 4 = true by rw [HO.out, hv]; simpa using hl)
                  have VT := Lib.hid hv
                  have LT := Lib.hid hl
                  clear hv hl
                  go_wp2_with (first | (go_at_call 45; refine (validRef_true _ _ VT).mono ?_; rintro e w' ⟨rfl, rfl⟩) | (go_at_call 85; refine (length_of _ 4 _ LT).mono ?_; rintro e w' ⟨rfl, rfl⟩))
                  go_ret2
                  have hi : isB b = true := by rw [HB.out]; simpa using HS.out OK.out
                  exact ⟨ret_bb hi.symm (by simp only [wholeB, hi, S.out, Bool.true_and]; first | (rw [Bool.eq_iff_iff, beq_iff_eq, decide_eq_true_eq]; omega) | (rw [Bool.eq_iff_iff, decide_eq_true_eq, decide_eq_true_eq]; omega)), hbl⟩
                · have OK := Lib.hid (show okR (L + k) 4 = false by rw [HO.out, hv]; simpa using hl)
                  have VT := Lib.hid hv
                  have ln : ((lenR (L + k)) == 4) = false := by simpa using hl
                  clear hv hl
                  by_cases hm : (k : Int) % 64 = 0
                  · by_cases hk2 : (k : Int) + 64 < sp
                    · have hm2 : ((k : Int) % 64 == 0) = true := by simpa using hm
                      have HN := Lib.hid (HV.out (by have := HM.out (SM.out (by omega)); omega) OK.out)
                      clear hm
                      go_wp2_with (first | (go_at_call 45; refine (validRef_true _ _ VT).mono ?_; rintro e w' ⟨rfl, rfl⟩) | (go_at_call 85; refine (length_any _ _).mono ?_; rintro e w' ⟨rfl, rfl⟩))
                      go_round
                      case rel => exact ⟨k + 63, by omega, by first | go_num | (congr 1; omega), by have h := HN.out; rw [show L + (k : Int) + 63 = L + ((k + 63 : Nat) : Int) by omega] at h; exact h⟩
                      case measure => simp [intOf]; omega
                    · have hm2 : ((k : Int) % 64 == 0) = true := by simpa using hm
                      have HN := Lib.hid (HU.out OK.out)
                      clear hm
                      go_wp2_with (first | (go_at_call 45; refine (validRef_true _ _ VT).mono ?_; rintro e w' ⟨rfl, rfl⟩) | (go_at_call 85; refine (length_any _ _).mono ?_; rintro e w' ⟨rfl, rfl⟩))
                      go_round
                      case rel => exact ⟨k + 1, by omega, by go_num, by have h := HN.out; rw [show L + (k : Int) + 1 = L + ((k + 1 : Nat) : Int) by omega] at h; exact h⟩
                      case measure => simp [intOf]; omega
                  · have hm2 : ((k : Int) % 64 == 0) = false := by simpa using hm
                    have HN := Lib.hid (HU.out OK.out)
                    clear hm
                    go_wp2_with (first | (go_at_call 45; refine (validRef_true _ _ VT).mono ?_; rintro e w' ⟨rfl, rfl⟩) | (go_at_call 85; refine (length_any _ _).mono ?_; rintro e w' ⟨rfl, rfl⟩))
                    go_round
                    case rel => exact ⟨k + 1, by omega, by go_num, by have h := HN.out; rw [show L + (k : Int) + 1 = L + ((k + 1 : Nat) : Int) by omega] at h; exact h⟩
                    case measure => simp [intOf]; omega
              | false =>
                · have OK := Lib.hid (show okR (L + k) 4 = false by rw [HO.out, hv]; rfl)
                  have VT := Lib.hid hv
                  clear hv
                  by_cases hm : (k : Int) % 64 = 0
                  · by_cases hk2 : (k : Int) + 64 < sp
                    · have hm2 : ((k : Int) % 64 == 0) = true := by simpa using hm
                      have HN := Lib.hid (HV.out (by have := HM.out (SM.out (by omega)); omega) OK.out)
                      clear hm
                      go_wp2_with (go_at_call 45; refine (validRef_false _ _ VT).mono ?_; rintro e w' ⟨rfl, rfl⟩)
                      go_round
                      case rel => exact ⟨k + 63, by omega, by first | go_num | (congr 1; omega), by have h := HN.out; rw [show L + (k : Int) + 63 = L + ((k + 63 : Nat) : Int) by omega] at h; exact h⟩
                      case measure => simp [intOf]; omega
                    · have hm2 : ((k : Int) % 64 == 0) = true := by simpa using hm
                      have HN := Lib.hid (HU.out OK.out)
                      clear hm
                      go_wp2_with (go_at_call 45; refine (validRef_false _ _ VT).mono ?_; rintro e w' ⟨rfl, rfl⟩)
                      go_round
                      case rel => exact ⟨k + 1, by omega, by go_num, by have h := HN.out; rw [show L + (k : Int) + 1 = L + ((k + 1 : Nat) : Int) by omega] at h; exact h⟩
                      case measure => simp [intOf]; omega
                  · have hm2 : ((k : Int) % 64 == 0) = false := by simpa using hm
                    have HN := Lib.hid (HU.out OK.out)
                    clear hm
                    go_wp2_with (go_at_call 45; refine (validRef_false _ _ VT).mono ?_; rintro e w' ⟨rfl, rfl⟩)
                    go_round
                    case rel => exact ⟨k + 1, by omega, by go_num, by have h := HN.out; rw [show L + (k : Int) + 1 = L + ((k + 1 : Nat) : Int) by omega] at h; exact h⟩
                    case measure => simp [intOf]; omega
            · go_wp2_with fail
              go_ret2
              obtain rfl : sp = k := by omega
              exact ⟨ret_bb (by rw [HB.out]; simpa using H0.out) (by rw [wholeB, HB.out]; simp; intro h; exact absurd h H0.out), hbl⟩

end Go.Proofs.Ytpkkfcfkhiaggaa
