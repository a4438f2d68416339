/- utf: the reference's step. -/
import Derived.Test.YtpkkfcfkhiaggaaUS
import Derived.Test.YtpkkfcfkhiaggaaLate
import Derived.Outline
set_option linter.unusedSimpArgs false
set_option linter.unusedVariables false
set_option linter.unnecessarySimpa false
namespace Go.Proofs.Ytpkkfcfkhiaggaa
open Go.RowKit

theorem headD_get (b : List Int) (h0 : 0 < b.length) : b.headD 0 = b[0] := by cases b with | nil => simp at h0 | cons a l => rfl
set_option maxRecDepth 100000 in
theorem begins_0 (vb : Value) (c : Int) (w : World) (hb : Rd w .u8 vb [c]) (hc : 0 ≤ c ∧ c < 256) (hsz : sizeR c = 0) :
    Calls Try.prog 71 #[vb] w fun e w' => e = .returned (.tuple #[.bool (isB [c]), .bool (wholeB [c])]) ∧ Below w.heap.size w w' := by
  obtain ⟨p1, cap1, rfl, l1, m1, c1⟩ := hb
  obtain ⟨b1, o1, rfl, q1, d1⟩ := Rd.at c1 l1 (i := 0) (by simp)
  simp only [Nat.add_zero] at d1
  simp at d1 l1
  unfold maxLen at m1
  clear c1
  have e1 : isB [c] = false := by simp [isB, hsz]
  have e2 : wholeB [c] = false := by simp [wholeB, e1]
  rw [e1, e2]
  have S := Lib.hid hsz
  clear hsz e1 e2
  simp only [List.length_cons, List.length_nil, Nat.zero_add]
  go_enter Try.func71, Try.ntmps71
  go_wp2_with (go_at_call 82; refine (size_of _ 0 _ hc S).mono ?_; rintro e w' ⟨rfl, rfl⟩)
  go_ret2
  exact ⟨rfl, Below.refl _ _⟩
set_option maxRecDepth 100000 in
theorem begins_1 (vb : Value) (c : Int) (w : World) (hb : Rd w .u8 vb [c]) (hc : 0 ≤ c ∧ c < 256) (hsz : sizeR c = 1) :
    Calls Try.prog 71 #[vb] w fun e w' => e = .returned (.tuple #[.bool (isB [c]), .bool (wholeB [c])]) ∧ Below w.heap.size w w' := by
  obtain ⟨p1, cap1, rfl, l1, m1, c1⟩ := hb
  obtain ⟨b1, o1, rfl, q1, d1⟩ := Rd.at c1 l1 (i := 0) (by simp)
  simp only [Nat.add_zero] at d1
  simp at d1 l1
  unfold maxLen at m1
  clear c1
  have e1 : isB [c] = true := by simp [isB, hsz]
  have e2 : wholeB [c] = true := by simp [wholeB, e1, hsz]
  rw [e1, e2]
  have S := Lib.hid hsz
  clear hsz e1 e2
  simp only [List.length_cons, List.length_nil, Nat.zero_add]
  go_enter Try.func71, Try.ntmps71
  go_wp2_with (go_at_call 82; refine (size_of _ 1 _ hc S).mono ?_; rintro e w' ⟨rfl, rfl⟩)
  go_ret2
  exact ⟨rfl, Below.refl _ _⟩

/-- Begins, of pending bytes and one more. -/
theorem begins_any (vb : Value) (bs : List Int) (c : Int) (w : World) (hb : Rd w .u8 vb (bs ++ [c])) (hwf : Wf bs) (hc : Byte c) :
    Calls Try.prog 71 #[vb] w fun e w' => e = .returned (.tuple #[.bool (isB (bs ++ [c])), .bool (wholeB (bs ++ [c]))]) ∧ Below w.heap.size w w' := by
  have hby : ∀ x ∈ bs ++ [c], 0 ≤ x ∧ x < 256 := fun x hx => by rcases List.mem_append.1 hx with h | h; exact hwf.bytes x h; simp at h; subst h; exact hc
  have hlen := hwf.len
  have key : ∀ n : Int, (n = 2 ∨ n = 3 ∨ n = 4) → sizeR ((bs ++ [c]).headD 0) = n → ((bs ++ [c]).length : Int) ≤ n → Calls Try.prog 71 #[vb] w fun e w' => e = .returned (.tuple #[.bool (isB (bs ++ [c])), .bool (wholeB (bs ++ [c]))]) ∧ Below w.heap.size w w' := by
    intro n hn hs hl
    rcases hn with rfl | rfl | rfl
    · exact begins_2 vb _ w hb (by simp) (by omega) hby hs
    · exact begins_3 vb _ w hb (by simp) (by omega) hby hs
    · exact begins_4 vb _ w hb (by simp) (by omega) hby hs
  cases hwf with
  | nil =>
    rcases size_cases c with ⟨h, e⟩ | ⟨h, h2, e⟩ | ⟨h, h2, e⟩ | ⟨h, h2, e⟩ | ⟨h, e⟩
    · exact begins_1 vb c w hb hc e
    · exact key 2 (by simp) e (by simp)
    · exact key 3 (by simp) e (by simp)
    · exact key 4 (by simp) e (by simp)
    · exact begins_0 vb c w hb hc e
  | one a h1 h2 =>
    have := need_le a
    exact key (needOf a) (by omega) (sizeR_need a h1 h2) (by simp; omega)
  | two a b h1 h2 h3 h4 h5 h6 h7 h8 =>
    have := need_le a
    have : needOf a ≠ 2 := by unfold needOf; (repeat' split) <;> omega
    exact key (needOf a) (by omega) (sizeR_need a (by omega) h2) (by simp; omega)
  | three a b d h1 h2 h3 h4 h5 h6 h7 h8 =>
    have hn4 : needOf a = 4 := by unfold needOf; rw [if_neg (by omega), if_neg (by omega)]
    exact key 4 (by simp) (by have := sizeR_need a (by omega) h2; rw [hn4] at this; exact this) (by simp)
theorem begins_of (vb : Value) (bs : List Int) (c : Int) (x y : Bool) (w : World) (hb : Rd w .u8 vb (bs ++ [c])) (hwf : Wf bs) (hc : Byte c) (hx : Hid (isB (bs ++ [c]) = x)) (hy : Hid (wholeB (bs ++ [c]) = y)) :
    Calls Try.prog 71 #[vb] w fun e w' => e = .returned (.tuple #[.bool x, .bool y]) ∧ Below w.heap.size w w' := by
  rw [← hx.out, ← hy.out]; exact begins_any vb bs c w hb hwf hc

set_option maxRecDepth 100000 in
theorem rune_1 (vb : Value) (c : Int) (w : World) (hb : Rd w .u8 vb [c]) (hc : 0 ≤ c ∧ c < 256) :
    Calls Try.prog 72 #[vb] w fun e w' => e = .returned (.int .i32 (runeR [c])) ∧ Below w.heap.size w w' := by
  obtain ⟨p1, cap1, rfl, l1, m1, c1⟩ := hb
  obtain ⟨b1, o1, rfl, q1, d1⟩ := Rd.at c1 l1 (i := 0) (by simp)
  simp only [Nat.add_zero] at d1
  simp at d1 l1
  unfold maxLen at m1
  clear c1
  simp only [List.length_cons, List.length_nil, Nat.zero_add]
  go_enter Try.func72, Try.ntmps72
  go_wp2_with fail
  go_ret
  exact ⟨rfl, Below.refl _ _⟩

set_option maxRecDepth 100000 in
theorem rune_2 (vb : Value) (b : List Int) (w : World) (hb : Rd w .u8 vb b) (hN : b.length = 2) (hs : 192 ≤ b.headD 0 ∧ b.headD 0 < 192 + 32) (hf : ∀ (i : Nat) (x : Int), b[i + 1]? = some x → 128 ≤ x ∧ x < 192) :
    Calls Try.prog 72 #[vb] w fun e w' => e = .returned (.int .i32 (runeR b)) ∧ Below w.heap.size w w' := by
  have bd := value_bd b 2 (by decide) hs hf
  have e : runeR b = valueR b 2 := by unfold runeR; rw [hN]; rfl
  rw [e]
  have h0 : 0 < b.length := by omega
  have hb0 := hb
  obtain ⟨p1, cap1, rfl, l1, m1, c1⟩ := hb
  have F1 := Lib.hid hs
  have F2 := Lib.hid hf
  rw [hN] at hb0 ⊢
  have E := Lib.hid e
  have E2 := Lib.hid hN
  clear e hs hf c1 hN
  go_enter Try.func72, Try.ntmps72
  go_wp2_with (go_at_call 84; refine (value_2 _ b w hb0 h0 F1.out F2.out).mono ?_; rintro e w1 ⟨rfl, hbl⟩)
  go_ret
  exact ⟨rfl, hbl⟩

set_option maxRecDepth 100000 in
theorem rune_3 (vb : Value) (b : List Int) (w : World) (hb : Rd w .u8 vb b) (hN : b.length = 3) (hs : 224 ≤ b.headD 0 ∧ b.headD 0 < 224 + 32) (hf : ∀ (i : Nat) (x : Int), b[i + 1]? = some x → 128 ≤ x ∧ x < 192) :
    Calls Try.prog 72 #[vb] w fun e w' => e = .returned (.int .i32 (runeR b)) ∧ Below w.heap.size w w' := by
  have bd := value_bd b 3 (by decide) hs hf
  have e : runeR b = valueR b 3 := by unfold runeR; rw [hN]; rfl
  rw [e]
  have h0 : 0 < b.length := by omega
  have hb0 := hb
  obtain ⟨p1, cap1, rfl, l1, m1, c1⟩ := hb
  have F1 := Lib.hid hs
  have F2 := Lib.hid hf
  rw [hN] at hb0 ⊢
  have E := Lib.hid e
  have E2 := Lib.hid hN
  clear e hs hf c1 hN
  go_enter Try.func72, Try.ntmps72
  go_wp2_with (go_at_call 84; refine (value_3 _ b w hb0 h0 F1.out F2.out).mono ?_; rintro e w1 ⟨rfl, hbl⟩)
  go_ret
  exact ⟨rfl, hbl⟩

set_option maxRecDepth 100000 in
theorem rune_4 (vb : Value) (b : List Int) (w : World) (hb : Rd w .u8 vb b) (hN : b.length = 4) (hs : 240 ≤ b.headD 0 ∧ b.headD 0 < 240 + 32) (hf : ∀ (i : Nat) (x : Int), b[i + 1]? = some x → 128 ≤ x ∧ x < 192) :
    Calls Try.prog 72 #[vb] w fun e w' => e = .returned (.int .i32 (runeR b)) ∧ Below w.heap.size w w' := by
  have bd := value_bd b 4 (by decide) hs hf
  have e : runeR b = valueR b 4 := by unfold runeR; rw [hN]; rfl
  rw [e]
  have h0 : 0 < b.length := by omega
  have hb0 := hb
  obtain ⟨p1, cap1, rfl, l1, m1, c1⟩ := hb
  have F1 := Lib.hid hs
  have F2 := Lib.hid hf
  rw [hN] at hb0 ⊢
  have E := Lib.hid e
  have E2 := Lib.hid hN
  clear e hs hf c1 hN
  go_enter Try.func72, Try.ntmps72
  go_wp2_with (go_at_call 84; refine (value_4 _ b w hb0 h0 F1.out F2.out).mono ?_; rintro e w1 ⟨rfl, hbl⟩)
  go_ret
  exact ⟨rfl, hbl⟩

/-- A rune's bytes, all of them. -/
theorem rune_any (vb : Value) (bs : List Int) (c : Int) (w : World) (hb : Rd w .u8 vb (bs ++ [c])) (hwf : Wf bs) (hc : Byte c) (hi : isB (bs ++ [c]) = true) (hw : wholeB (bs ++ [c]) = true) :
    Calls Try.prog 72 #[vb] w fun e w' => e = .returned (.int .i32 (runeR (bs ++ [c]))) ∧ Below w.heap.size w w' := by
  have hz : sizeR ((bs ++ [c]).headD 0) = ((bs ++ [c]).length : Int) := by simpa [wholeB, hi] using hw
  have key : ∀ b : List Int, isB b = true → 1 < b.length → ∀ (i : Nat) (x : Int), b[i + 1]? = some x → sizeR (b.headD 0) = (b.length : Int) → 128 ≤ x ∧ x < 192 := by
    intro b hb hl i x hx hs
    simp only [isB, hs] at hb
    simp only [Bool.and_eq_true, Bool.or_eq_true, decide_eq_true_eq] at hb
    have := hb.2.resolve_left (by omega)
    exact (fur_iff x).1 (List.all_eq_true.1 this.1 x (List.mem_iff_getElem?.2 ⟨i, by rw [List.getElem?_tail]; exact hx⟩))
  have hlen := hwf.len
  have hsc := size_cases ((bs ++ [c]).headD 0)
  by_cases hn : bs = []
  · subst hn; exact rune_1 vb c w hb hc
  · have hl := List.length_pos_iff.2 hn
    have hf := key _ hi (by simp; omega)
    have hll : (bs ++ [c]).length = bs.length + 1 := by simp
    have : (bs ++ [c]).length = 2 ∨ (bs ++ [c]).length = 3 ∨ (bs ++ [c]).length = 4 := by omega
    rcases this with h | h | h
    · exact rune_2 vb _ w hb h (by omega) (fun i x hx => hf i x hx hz)
    · exact rune_3 vb _ w hb h (by omega) (fun i x hx => hf i x hx hz)
    · exact rune_4 vb _ w hb h (by omega) (fun i x hx => hf i x hx hz)

end Go.Proofs.Ytpkkfcfkhiaggaa
