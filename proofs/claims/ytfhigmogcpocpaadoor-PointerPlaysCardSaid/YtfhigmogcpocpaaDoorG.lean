/- pointer: the law's model: which buttons are held. -/
import Derived.Test.YtfhigmogcpocpaaDoorE
import Derived.Test.YtfhigmogcpocpaaDoorLate
import Derived.Test.YtfhigmogcpocpaaDoorLate2
import Derived.Test.YtfhigmogcpocpaaDoorLate3
import Derived.Deep.CutBlock
import Derived.Deep.DeepCutAuto
import Derived.Outline
set_option linter.unusedSimpArgs false
set_option linter.unusedVariables false
set_option linter.unnecessarySimpa false
namespace Go.Proofs.YtfhigmogcpocpaaDoor
open Go.RowKit

/-- Block M holds a model of the pointer p; at most n numbers are in its list. -/
def MoB (w : World) (M : Nat) (p : Pt) (n : Nat) : Prop := ∃ sl l, Box w M #[.int .i64 p.mode, .bool p.exact, sl, .bool p.there, .int .i64 p.a0, .int .i64 p.a1] 33 ∧ Rd w .i64 sl l ∧ Apart sl M ∧ l.length ≤ n ∧ (∀ b, decide (b ∈ l) = hasB p b) ∧ 0 ≤ p.mode ∧ p.mode ≤ 3
theorem MoB.lt {w : World} {M : Nat} {p : Pt} {n : Nat} (h : MoB w M p n) : M < w.heap.size := by obtain ⟨_, _, h, _⟩ := h; exact h.lt
theorem MoB.below {w w' : World} {M : Nat} {p : Pt} {n : Nat} (h : MoB w M p n) (hb : Below w.heap.size w w') : MoB w' M p n := by
  obtain ⟨sl, l, h1, h2, h3⟩ := h
  exact ⟨sl, l, (hb.block M h1.lt).trans h1, h2.below hb, h3⟩
theorem mem_next (l : List Int) (b : Int) (k : Nat) (hk : k < l.length) (h : ∀ j, j < k → l[j]? ≠ some b) (he : l[k] ≠ b) : ∀ j, j < k + 1 → l[j]? ≠ some b := by
  intro j hj
  by_cases hjk : j = k
  · subst hjk; rw [List.getElem?_eq_getElem hk]; intro h1; exact he (Option.some.inj h1)
  · exact h j (by omega)
theorem mem_none (l : List Int) (b : Int) (h : ∀ j, j < l.length → l[j]? ≠ some b) : decide (b ∈ l) = false := by
  rw [decide_eq_false_iff_not]
  intro hm
  obtain ⟨j, hj, e⟩ := List.mem_iff_getElem.1 hm
  exact h j hj (by rw [List.getElem?_eq_getElem hj, e])
set_option maxHeartbeats 4000000 in
theorem mheld_any (M : Nat) (m : Int) (e x y z : Bool) (a0 a1 : Int) (t : Bool) (sl : Value) (l : List Int) (b : Int) (w : World) (hx : Box w M #[.int .i64 m, .bool e, sl, .bool t, .int .i64 a0, .int .i64 a1] 33) (hr : Rd w .i64 sl l) : Calls Tryd.prog 21 #[.pointer (some ⟨M, 0, none⟩), .int .i64 b] w fun e w' => e = .returned (.bool (decide (b ∈ l))) ∧ Below w.heap.size w w' := by
  obtain ⟨p1, cap1, rfl, l1, m1, c1⟩ := hr
  unfold maxLen at m1
  have C1 := Lib.hid c1
  have hl := hx.lt
  have hc := hx.cell
  clear c1
  go_enter Tryd.func21, Tryd.ntmps21
  go_wp2_with fail
  go_loopw [5] (fun i wr => ∃ k : Nat, k ≤ l.length ∧ i = .int .i64 k ∧ Hid (∀ j, j < k → l[j]? ≠ some b) ∧ Below w.heap.size w wr) (fun i _ => l.length - (intOf i).toNat)
  case atStart => exact ⟨0, by omega, rfl, fun j hj => absurd hj (by omega), Below.refl _ _⟩
  case round =>
    obtain ⟨k, hk, rfl, HF, hbel⟩ := hrel
    have xm : Box wr M _ _ := (hbel.block _ hl).trans hx
    have cm := xm.cell
    have lm := xm.lt
    clear hc
    by_cases hlt : k < l.length
    · obtain ⟨b1, o1, rfl, q1, d1⟩ := Rd.at C1.out l1 hlt
      have d3 : wr.cell? ⟨b1, o1 + k, none⟩ = some (.int .i64 l[k]) := by rw [hbel.cell (p := ⟨b1, _, none⟩) q1]; exact d1
      have q3 : b1 < wr.heap.size := Nat.lt_of_lt_of_le q1 hbel.size
      clear d1
      obtain ⟨v, hv⟩ : ∃ v, l[k] = v := ⟨_, rfl⟩
      rw [hv] at d3
      have r1 : (0 : Int) ≤ (k : Int) := by omega
      have r2 : (k : Int) < (l.length : Int) := by omega
      by_cases he : v = b
      · have HD : Hid (decide (b ∈ l) = true) := by
          refine decide_eq_true ?_
          rw [← he, ← hv]
          exact List.getElem_mem hlt
        clear hv
        subst he
        go_wp2_with fail
        go_ret
        exact ⟨by rw [HD.out]; rfl, hbel⟩
      · have HN := Lib.hid (mem_next l b k hlt HF.out (by rw [hv]; exact he))
        have he' : (v == b) = false := by simpa using he
        clear hv he
        go_wp2_with fail
        go_roundw
        case rel => first | exact ⟨k + 1, by omega, by go_num, HN, hbel⟩ | ((repeat apply Exists.intro); exact ⟨⟨k + 1, by omega, by go_num, HN, hbel⟩, rfl⟩)
        case measure => simp [intOf]; omega
    · have HD := Lib.hid (mem_none l b (fun j hj => HF.out j (by omega)))
      go_wp2_with fail
      go_ret
      exact ⟨by rw [HD.out]; rfl, hbel⟩
theorem has_press (p : Pt) (b r c b' : Int) (hb : 1 ≤ b ∧ b ≤ 3) : hasB (afterP p 1 b r c) b' = (decide (b' = b) || hasB p b') := by
  have h3 : b = 1 ∨ b = 2 ∨ b = 3 := by omega
  unfold hasB afterP heldAt
  rcases h3 with rfl | rfl | rfl <;> by_cases e1 : b' = 1 <;> by_cases e2 : b' = 2 <;> by_cases e3 : b' = 3 <;> simp_all
theorem has_release (p : Pt) (b r c b' : Int) (hb : 1 ≤ b ∧ b ≤ 3) : hasB (afterP p 2 b r c) b' = (!decide (b' = b) && hasB p b') := by
  have h3 : b = 1 ∨ b = 2 ∨ b = 3 := by omega
  unfold hasB afterP heldAt
  rcases h3 with rfl | rfl | rfl <;> by_cases e1 : b' = 1 <;> by_cases e2 : b' = 2 <;> by_cases e3 : b' = 3 <;> simp_all
theorem has_other (p : Pt) (k b r c b' : Int) (h1 : k ≠ 1) (h2 : k ≠ 2) : hasB (afterP p k b r c) b' = hasB p b' := by
  unfold hasB afterP heldAt
  simp [h1, h2]
/-- Where the model stands behind the switch. -/
def MidM (M bx : Nat) (w : World) (p : Pt) (n : Nat) (v0 : Value) (k b r c : Int) (sh al ct : Bool) (cv sv : Value) (wx : World) : Prop := ∃ sl l cd, cv = .int .i64 cd ∧ (0 ≤ cd ∧ cd ≤ 65) ∧ ((codeN p k b r c).2 = true → cd = (codeN p k b r c).1) ∧ sv = .bool (codeN p k b r c).2 ∧
  Box wx M #[.int .i64 p.mode, .bool p.exact, sl, .bool p.there, .int .i64 p.a0, .int .i64 p.a1] 33 ∧ Rd wx .i64 sl l ∧ Apart sl M ∧ l.length ≤ n + 1 ∧ (∀ b', decide (b' ∈ l) = hasB (afterP p k b r c) b') ∧ Box wx bx #[.int .i64 k, .int .i64 b, .int .i64 r, .int .i64 c, .bool sh, .bool al, .bool ct] 24 ∧ Bar M w wx ∧ ∀ D, D < w.heap.size → Apart v0 D → Apart sl D
/-- The model's list does not lie in block D. -/
def MoA (w : World) (M D : Nat) : Prop := ∀ v, w.cell? ⟨M, 2, none⟩ = some v → Apart v D
/-- What do says. -/
def MDoE (M : Nat) (p : Pt) (n : Nat) (k b r c : Int) (sh al ct : Bool) (w : World) (e : Ending) (w' : World) : Prop := e = .returned (.string (doS p k b r c sh al ct)) ∧ MoB w' M (afterP p k b r c) (n + 1) ∧ Bar M w w' ∧ ∀ D, D < w.heap.size → MoA w M D → MoA w' M D
def mvN (p : Pt) (i : Nat) : Int := if i = 3 then 35 else if i = 2 then (if p.h3 then 34 else 35) else if i = 1 then (if p.h2 then 33 else if p.h3 then 34 else 35) else (if p.h1 then 32 else if p.h2 then 33 else if p.h3 then 34 else 35)
theorem mvN_range (p : Pt) (i : Nat) : 32 ≤ mvN p i ∧ mvN p i ≤ 35 := by
  unfold mvN
  repeat' split
  all_goals omega
theorem any_held (l : List Int) (p : Pt) (h : ∀ b, decide (b ∈ l) = hasB p b) : (0 < l.length) ↔ (p.h1 = true ∨ p.h2 = true ∨ p.h3 = true) := by
  constructor
  · intro hl
    have hm := h l[0]
    rw [decide_eq_true (List.getElem_mem hl)] at hm
    unfold hasB at hm
    split at hm
    · exact .inl hm.symm
    · split at hm
      · exact .inr (.inl hm.symm)
      · split at hm
        · exact .inr (.inr hm.symm)
        · cases hm
  · intro ho
    have key : ∀ b, hasB p b = true → 0 < l.length := fun b hb => by
      have := h b
      rw [hb] at this
      exact List.length_pos_of_mem (of_decide_eq_true this)
    rcases ho with h1 | h1 | h1
    · exact key 1 h1
    · exact key 2 h1
    · exact key 3 h1
theorem strOf6 (a b c : Int) : (⟨#[27, 91, 77]⟩ : ByteArray) ++ strOfNums [a, b, c] = strOfNums [27, 91, 77, a, b, c] := by
  apply ByteArray.ext
  simp [strOfNums]

end Go.Proofs.YtfhigmogcpocpaaDoor
