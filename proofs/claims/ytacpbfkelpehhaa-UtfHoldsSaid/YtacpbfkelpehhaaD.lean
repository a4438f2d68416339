/- utf: the decoder as a block; begin. -/
import Derived.Test.YtacpbfkelpehhaaC
set_option linter.unusedSimpArgs false
set_option linter.unusedVariables false
set_option linter.unnecessarySimpa false
namespace Go.Proofs.Ytacpbfkelpehhaa
open Go.RowKit

/-- All but block D is as it was. -/
structure Bar (D : Nat) (w w' : World) : Prop where
  os : w'.os = w.os
  tape : w'.tape = w.tape
  output : w'.output = w.output
  size : w.heap.size ≤ w'.heap.size
  block : ∀ k, k ≠ D → k < w.heap.size → w'.heap[k]? = w.heap[k]?
theorem Bar.refl (D : Nat) (w : World) : Bar D w w := ⟨rfl, rfl, rfl, Nat.le_refl _, fun _ _ _ => rfl⟩
theorem Bar.below {D : Nat} {w w1 w2 : World} (h : Bar D w w1) (hb : Below w1.heap.size w1 w2) : Bar D w w2 :=
  ⟨hb.os.trans h.os, hb.tape.trans h.tape, hb.output.trans h.output, Nat.le_trans h.size hb.size, fun k hk hl => (hb.block k (Nat.lt_of_lt_of_le hl h.size)).trans (h.block k hk hl)⟩
theorem Bar.trans {D : Nat} {w w1 w2 : World} (h : Bar D w w1) (hb : Bar D w1 w2) : Bar D w w2 :=
  ⟨hb.os.trans h.os, hb.tape.trans h.tape, hb.output.trans h.output, Nat.le_trans h.size hb.size, fun k hk hl => (hb.block k hk (Nat.lt_of_lt_of_le hl h.size)).trans (h.block k hk hl)⟩
theorem Bar.alloc {D : Nat} {w w1 : World} (h : Bar D w w1) (o : Obj) : Bar D w (w1.alloc o) := h.below ((Below.refl _ _).alloc (Nat.le_refl _) o)
theorem Bar.drew {D : Nat} {w w1 : World} (h : Bar D w w1) : Bar D w w1.drew := ⟨h.os, h.tape, h.output, h.size, h.block⟩
theorem Bar.gw {D : Nat} {w W : World} {X : GW W} (h : Bar D w W) : Bar D w X.world := h.below X.grow
theorem Bar.set {D : Nat} {w w1 : World} (h : Bar D w w1) (i : Nat) (v : Value) : Bar D w (w1.setCell ⟨D, i, none⟩ v) :=
  ⟨h.os, h.tape, h.output, by simpa using h.size, fun k hk hl => (heap_set_past w1 D i k v hk).trans (h.block k hk hl)⟩

def putB (w : World) (D : Nat) (cs : Array Value) (t : TypeId) : World := { w with heap := w.heap.setIfInBounds D (.cells cs t) }
@[go_sem] theorem putB_size (w : World) (D : Nat) (cs : Array Value) (t : TypeId) : (putB w D cs t).heap.size = w.heap.size := by simp [putB]
theorem putB_box (w : World) (D : Nat) (cs : Array Value) (t : TypeId) (h : D < w.heap.size) : Box (putB w D cs t) D cs t := by simp [putB, Box, h]
theorem putB_other (w : World) (D : Nat) (cs : Array Value) (t : TypeId) (b : Nat) (h : b ≠ D) : (putB w D cs t).heap[b]? = w.heap[b]? := by
  simp [putB, Array.getElem?_setIfInBounds, Ne.symm h]
@[go_sem] theorem putB_cell (w : World) (D : Nat) (cs : Array Value) (t : TypeId) (o : Nat) (h : D < w.heap.size) : (putB w D cs t).cell? ⟨D, o, none⟩ = cs[o]? := (putB_box w D cs t h).cell o
@[go_sem] theorem putB_free (w : World) (D : Nat) (cs : Array Value) (t : TypeId) (o : Nat) (h : D < w.heap.size) : (putB w D cs t).frozen? ⟨D, o, none⟩ = false := (putB_box w D cs t h).free o
@[go_sem] theorem putB_cell_other (w : World) (D : Nat) (cs : Array Value) (t : TypeId) (b o : Nat) (h : b ≠ D) : (putB w D cs t).cell? ⟨b, o, none⟩ = w.cell? ⟨b, o, none⟩ := by
  unfold World.cell?; rw [putB_other w D cs t b h]
@[go_sem] theorem putB_free_other (w : World) (D : Nat) (cs : Array Value) (t : TypeId) (b o : Nat) (h : b ≠ D) : (putB w D cs t).frozen? ⟨b, o, none⟩ = w.frozen? ⟨b, o, none⟩ := by
  unfold World.frozen?; rw [putB_other w D cs t b h]
theorem Bar.put {D : Nat} {w w' : World} {cs : Array Value} {t : TypeId} (h : Bar D w w') (hx : Box w' D cs t) (hD : D < w.heap.size) : Below w.heap.size (putB w D cs t) w' :=
  ⟨h.os, h.tape, h.output, by rw [putB_size]; exact h.size, fun k hk => by
    by_cases hkd : k = D
    · subst hkd; rw [hx, putB_box w k cs t hD]
    · rw [putB_other w D cs t k hkd]; exact h.block k hkd hk⟩

/-- A slice that does not lie in block D. -/
def Apart (v : Value) (D : Nat) : Prop := ∀ b off n c, v = .slice (some ⟨b, off, none⟩) n c → b ≠ D
theorem Apart.nil (n c D : Nat) : Apart (.slice none n c) D := fun _ _ _ _ h => by cases h
theorem Apart.at {b off n c D : Nat} (h : b ≠ D) : Apart (.slice (some ⟨b, off, none⟩) n c) D := fun _ _ _ _ e => by cases e; exact h
theorem Rd.bar {w w' : World} {D : Nat} {k : IntKind} {v : Value} {xs : List Int} (h : Rd w k v xs) (ha : Apart v D) (hb : Bar D w w') : Rd w' k v xs := by
  obtain ⟨p, cap, rfl, h1, h2, h3⟩ := h
  refine ⟨p, cap, rfl, h1, h2, h3.imp id fun ⟨b, off, hp, hlt, hc⟩ => ⟨b, off, hp, Nat.lt_of_lt_of_le hlt hb.size, fun i x hx => ?_⟩⟩
  subst hp
  have hne := ha b off _ _ rfl
  have h4 := hb.block b hne hlt
  have h5 := hc i x hx
  unfold World.cell? at h5 ⊢
  rw [h4]; exact h5
theorem Rd.nil (w : World) (k : IntKind) : Rd w k (.slice none 0 0) [] := ⟨none, 0, rfl, Nat.le_refl _, by simp [maxLen], .inl ⟨rfl, rfl⟩⟩

/-- A slice whose cells lie in memory that is new since w. -/
def Fresh (w : World) (v : Value) : Prop := ∀ b off n c, v = .slice (some ⟨b, off, none⟩) n c → w.heap.size ≤ b
theorem Fresh.nil (w : World) (n c : Nat) : Fresh w (.slice none n c) := fun _ _ _ _ h => by cases h
theorem Fresh.at {w : World} {b off n c : Nat} (h : w.heap.size ≤ b) : Fresh w (.slice (some ⟨b, off, none⟩) n c) := fun _ _ _ _ e => by cases e; exact h
theorem Fresh.apart {w : World} {v : Value} {D : Nat} (h : Fresh w v) (hD : D < w.heap.size) : Apart v D := fun b off n c e => by have := h b off n c e; omega
theorem Fresh.older {w w1 : World} {v : Value} (h : Fresh w1 v) (hs : w.heap.size ≤ w1.heap.size) : Fresh w v := fun b off n c e => Nat.le_trans hs (h b off n c e)

/-- Block D begins with a decoder whose slice is bv and that has the bytes bs pending. -/
def DecV (w : World) (D : Nat) (t : TypeId) (rest : List Value) (bv : Value) (bs : List Int) : Prop :=
  ∃ m lo hi, Box w D ([bv, .int .i64 m, .int .u8 lo, .int .u8 hi] ++ rest).toArray t ∧ Rd w .u8 bv bs ∧ Apart bv D ∧ (bs ≠ [] → m = moreOf bs ∧ lo = loOf bs ∧ hi = hiOf bs)
/-- What a step of the decoder says of the world behind it. -/
def Stepped (D : Nat) (t : TypeId) (rest : List Value) (w : World) (o s : List Int) (e : Ending) (w' : World) : Prop :=
  ∃ v bv, e = .returned v ∧ Rd w' .i32 v o ∧ Fresh w v ∧ Bar D w w' ∧ DecV w' D t rest bv s ∧ Fresh w bv

set_option maxRecDepth 100000 in
set_option maxHeartbeats 4000000 in
theorem begin_any (D : Nat) (t : TypeId) (rest : List Value) (bv : Value) (m lo hi c : Int) (w : World) (hx : Box w D ([bv, .int .i64 m, .int .u8 lo, .int .u8 hi] ++ rest).toArray t) (hc : 0 ≤ c ∧ c < 256) :
    Calls Try.prog 27 #[.pointer (some ⟨D, 0, none⟩), .int .u8 c] w (Stepped D t rest w (beginO c) (beginS c)) := by
  have x1 := hx.cell
  have x2 := hx.free
  have x3 := hx.lt
  simp only [List.cons_append, List.nil_append] at x1
  have hne : w.heap.size ≠ D := by omega
  by_cases k1 : c < 128
  · have bS : beginS c = [] := by unfold beginS; rw [if_neg (by omega)]
    have bO : beginO c = [c] := by unfold beginO; rw [if_pos k1]
    rw [bS, bO]
    go_enter Try.func27, Try.ntmps27
    go_wp2_with fail
    go_ret
    exact ⟨_, .slice none 0 0, rfl, Rd.lit1 _ _ _ _ _ (by simp), Fresh.at (Nat.le_refl _), (by repeat (first | with_reducible exact Bar.refl _ _ | with_reducible assumption | with_reducible apply Bar.set | with_reducible apply Bar.alloc | with_reducible apply Bar.gw | with_reducible apply Bar.drew)), ⟨m, 128, 191, (by apply Box.as; (focus (repeat (first | with_reducible assumption | with_reducible apply Box.gw | with_reducible apply Box.drew | with_reducible apply Box.alloc | with_reducible apply Box.set))); simp), Rd.nil _ _, Apart.nil _ _ _, fun h => absurd rfl h⟩, Fresh.nil _ _ _⟩

  by_cases k2 : c < 194
  · have bS : beginS c = [] := by unfold beginS; rw [if_neg (by omega)]
    have bO : beginO c = [65533] := by unfold beginO; rw [if_neg k1, if_neg (by omega)]
    rw [bS, bO]
    go_enter Try.func27, Try.ntmps27
    go_wp2_with fail
    go_ret
    exact ⟨_, .slice none 0 0, rfl, Rd.lit1 _ _ _ _ _ (by simp), Fresh.at (Nat.le_refl _), (by repeat (first | with_reducible exact Bar.refl _ _ | with_reducible assumption | with_reducible apply Bar.set | with_reducible apply Bar.alloc | with_reducible apply Bar.gw | with_reducible apply Bar.drew)), ⟨m, 128, 191, (by apply Box.as; (focus (repeat (first | with_reducible assumption | with_reducible apply Box.gw | with_reducible apply Box.drew | with_reducible apply Box.alloc | with_reducible apply Box.set))); simp), Rd.nil _ _, Apart.nil _ _ _, fun h => absurd rfl h⟩, Fresh.nil _ _ _⟩

  by_cases k3 : 244 < c
  · have bS : beginS c = [] := by unfold beginS; rw [if_neg (by omega)]
    have bO : beginO c = [65533] := by unfold beginO; rw [if_neg k1, if_neg (by omega)]
    rw [bS, bO]
    go_enter Try.func27, Try.ntmps27
    go_wp2_with fail
    go_ret
    exact ⟨_, .slice none 0 0, rfl, Rd.lit1 _ _ _ _ _ (by simp), Fresh.at (Nat.le_refl _), (by repeat (first | with_reducible exact Bar.refl _ _ | with_reducible assumption | with_reducible apply Bar.set | with_reducible apply Bar.alloc | with_reducible apply Bar.gw | with_reducible apply Bar.drew)), ⟨m, 128, 191, (by apply Box.as; (focus (repeat (first | with_reducible assumption | with_reducible apply Box.gw | with_reducible apply Box.drew | with_reducible apply Box.alloc | with_reducible apply Box.set))); simp), Rd.nil _ _, Apart.nil _ _ _, fun h => absurd rfl h⟩, Fresh.nil _ _ _⟩

  by_cases k4 : c < 224
  · have bS : beginS c = [c] := by unfold beginS; rw [if_pos (by omega)]
    have bO : beginO c = [] := by unfold beginO; rw [if_neg (by omega), if_pos (by omega)]
    rw [bS, bO]
    go_enter Try.func27, Try.ntmps27
    go_wp2_with fail
    go_ret
    exact ⟨_, .slice (some ⟨w.heap.size, 0, none⟩) 1 1, rfl, Rd.nil _ _, Fresh.nil _ _ _, (by repeat (first | with_reducible exact Bar.refl _ _ | with_reducible assumption | with_reducible apply Bar.set | with_reducible apply Bar.alloc | with_reducible apply Bar.gw | with_reducible apply Bar.drew)), ⟨1, 128, 191, (by apply Box.as; (focus (repeat (first | with_reducible assumption | with_reducible apply Box.gw | with_reducible apply Box.drew | with_reducible apply Box.alloc | with_reducible apply Box.set))); simp), Rd.lit1 _ _ _ _ _ (by simp), Apart.at (by omega), fun _ => ⟨by simp [moreOf, needOf]; omega, by simp [loOf]; omega, by simp [hiOf]; omega⟩⟩, Fresh.at (Nat.le_refl _)⟩

  by_cases e224 : c = 224
  · subst e224
    have bS : beginS 224 = [224] := by unfold beginS; rw [if_pos (by omega)]
    have bO : beginO 224 = [] := by unfold beginO; rw [if_neg (by omega), if_pos (by omega)]
    rw [bS, bO]
    go_enter Try.func27, Try.ntmps27
    go_wp2_with fail
    go_ret
    exact ⟨_, .slice (some ⟨w.heap.size, 0, none⟩) 1 1, rfl, Rd.nil _ _, Fresh.nil _ _ _, (by repeat (first | with_reducible exact Bar.refl _ _ | with_reducible assumption | with_reducible apply Bar.set | with_reducible apply Bar.alloc | with_reducible apply Bar.gw | with_reducible apply Bar.drew)), ⟨2, 160, 191, (by apply Box.as; (focus (repeat (first | with_reducible assumption | with_reducible apply Box.gw | with_reducible apply Box.drew | with_reducible apply Box.alloc | with_reducible apply Box.set))); simp), Rd.lit1 _ _ _ _ _ (by simp), Apart.at (by omega), fun _ => ⟨by simp [moreOf, needOf], by simp [loOf], by simp [hiOf]⟩⟩, Fresh.at (Nat.le_refl _)⟩
  by_cases e237 : c = 237
  · subst e237
    have bS : beginS 237 = [237] := by unfold beginS; rw [if_pos (by omega)]
    have bO : beginO 237 = [] := by unfold beginO; rw [if_neg (by omega), if_pos (by omega)]
    rw [bS, bO]
    go_enter Try.func27, Try.ntmps27
    go_wp2_with fail
    go_ret
    exact ⟨_, .slice (some ⟨w.heap.size, 0, none⟩) 1 1, rfl, Rd.nil _ _, Fresh.nil _ _ _, (by repeat (first | with_reducible exact Bar.refl _ _ | with_reducible assumption | with_reducible apply Bar.set | with_reducible apply Bar.alloc | with_reducible apply Bar.gw | with_reducible apply Bar.drew)), ⟨2, 128, 159, (by apply Box.as; (focus (repeat (first | with_reducible assumption | with_reducible apply Box.gw | with_reducible apply Box.drew | with_reducible apply Box.alloc | with_reducible apply Box.set))); simp), Rd.lit1 _ _ _ _ _ (by simp), Apart.at (by omega), fun _ => ⟨by simp [moreOf, needOf], by simp [loOf], by simp [hiOf]⟩⟩, Fresh.at (Nat.le_refl _)⟩
  by_cases e240 : c = 240
  · subst e240
    have bS : beginS 240 = [240] := by unfold beginS; rw [if_pos (by omega)]
    have bO : beginO 240 = [] := by unfold beginO; rw [if_neg (by omega), if_pos (by omega)]
    rw [bS, bO]
    go_enter Try.func27, Try.ntmps27
    go_wp2_with fail
    go_ret
    exact ⟨_, .slice (some ⟨w.heap.size, 0, none⟩) 1 1, rfl, Rd.nil _ _, Fresh.nil _ _ _, (by repeat (first | with_reducible exact Bar.refl _ _ | with_reducible assumption | with_reducible apply Bar.set | with_reducible apply Bar.alloc | with_reducible apply Bar.gw | with_reducible apply Bar.drew)), ⟨3, 144, 191, (by apply Box.as; (focus (repeat (first | with_reducible assumption | with_reducible apply Box.gw | with_reducible apply Box.drew | with_reducible apply Box.alloc | with_reducible apply Box.set))); simp), Rd.lit1 _ _ _ _ _ (by simp), Apart.at (by omega), fun _ => ⟨by simp [moreOf, needOf], by simp [loOf], by simp [hiOf]⟩⟩, Fresh.at (Nat.le_refl _)⟩
  by_cases e244 : c = 244
  · subst e244
    have bS : beginS 244 = [244] := by unfold beginS; rw [if_pos (by omega)]
    have bO : beginO 244 = [] := by unfold beginO; rw [if_neg (by omega), if_pos (by omega)]
    rw [bS, bO]
    go_enter Try.func27, Try.ntmps27
    go_wp2_with fail
    go_ret
    exact ⟨_, .slice (some ⟨w.heap.size, 0, none⟩) 1 1, rfl, Rd.nil _ _, Fresh.nil _ _ _, (by repeat (first | with_reducible exact Bar.refl _ _ | with_reducible assumption | with_reducible apply Bar.set | with_reducible apply Bar.alloc | with_reducible apply Bar.gw | with_reducible apply Bar.drew)), ⟨3, 128, 143, (by apply Box.as; (focus (repeat (first | with_reducible assumption | with_reducible apply Box.gw | with_reducible apply Box.drew | with_reducible apply Box.alloc | with_reducible apply Box.set))); simp), Rd.lit1 _ _ _ _ _ (by simp), Apart.at (by omega), fun _ => ⟨by simp [moreOf, needOf], by simp [loOf], by simp [hiOf]⟩⟩, Fresh.at (Nat.le_refl _)⟩
  by_cases k5 : c < 240
  · have bS : beginS c = [c] := by unfold beginS; rw [if_pos (by omega)]
    have bO : beginO c = [] := by unfold beginO; rw [if_neg (by omega), if_pos (by omega)]
    rw [bS, bO]
    go_enter Try.func27, Try.ntmps27
    go_wp2_with fail
    go_ret
    exact ⟨_, .slice (some ⟨w.heap.size, 0, none⟩) 1 1, rfl, Rd.nil _ _, Fresh.nil _ _ _, (by repeat (first | with_reducible exact Bar.refl _ _ | with_reducible assumption | with_reducible apply Bar.set | with_reducible apply Bar.alloc | with_reducible apply Bar.gw | with_reducible apply Bar.drew)), ⟨2, 128, 191, (by apply Box.as; (focus (repeat (first | with_reducible assumption | with_reducible apply Box.gw | with_reducible apply Box.drew | with_reducible apply Box.alloc | with_reducible apply Box.set))); simp), Rd.lit1 _ _ _ _ _ (by simp), Apart.at (by omega), fun _ => ⟨by simp [moreOf, needOf]; omega, by simp [loOf]; omega, by simp [hiOf]; omega⟩⟩, Fresh.at (Nat.le_refl _)⟩

  · have bS : beginS c = [c] := by unfold beginS; rw [if_pos (by omega)]
    have bO : beginO c = [] := by unfold beginO; rw [if_neg (by omega), if_pos (by omega)]
    rw [bS, bO]
    go_enter Try.func27, Try.ntmps27
    go_wp2_with fail
    go_ret
    exact ⟨_, .slice (some ⟨w.heap.size, 0, none⟩) 1 1, rfl, Rd.nil _ _, Fresh.nil _ _ _, (by repeat (first | with_reducible exact Bar.refl _ _ | with_reducible assumption | with_reducible apply Bar.set | with_reducible apply Bar.alloc | with_reducible apply Bar.gw | with_reducible apply Bar.drew)), ⟨3, 128, 191, (by apply Box.as; (focus (repeat (first | with_reducible assumption | with_reducible apply Box.gw | with_reducible apply Box.drew | with_reducible apply Box.alloc | with_reducible apply Box.set))); simp), Rd.lit1 _ _ _ _ _ (by simp), Apart.at (by omega), fun _ => ⟨by simp [moreOf, needOf]; omega, by simp [loOf]; omega, by simp [hiOf]; omega⟩⟩, Fresh.at (Nat.le_refl _)⟩


end Go.Proofs.Ytacpbfkelpehhaa
