/- utf: the decoder as a block; begin. -/
import Derived.Test.YtpkkfcfkhiaggaaUC
import Derived.Test.YtpkkfcfkhiaggaaLate
set_option linter.unusedSimpArgs false
set_option linter.unusedVariables false
set_option linter.unnecessarySimpa false
namespace Go.Proofs.Ytpkkfcfkhiaggaa
open Go.RowKit

/-- Block D begins with a decoder whose slice is bv and that has the bytes bs pending. -/
def DecV (w : World) (D : Nat) (t : TypeId) (rest : List Value) (bv : Value) (bs : List Int) : Prop :=
  ∃ m lo hi, Box w D ([bv, .int .i64 m, .int .u8 lo, .int .u8 hi] ++ rest).toArray t ∧ Rd w .u8 bv bs ∧ Apart bv D ∧ (bs ≠ [] → m = moreOf bs ∧ lo = loOf bs ∧ hi = hiOf bs)
/-- What a step of the decoder says of the world behind it. -/
def Stepped (D : Nat) (t : TypeId) (rest : List Value) (w : World) (o s : List Int) (e : Ending) (w' : World) : Prop :=
  ∃ v bv, e = .returned v ∧ Rd w' .i32 v o ∧ Fresh w v ∧ Bar D w w' ∧ DecV w' D t rest bv s ∧ Fresh w bv

set_option maxRecDepth 100000 in
set_option maxHeartbeats 4000000 in
theorem begin_any (D : Nat) (t : TypeId) (rest : List Value) (bv : Value) (m lo hi c : Int) (w : World) (hx : Box w D ([bv, .int .i64 m, .int .u8 lo, .int .u8 hi] ++ rest).toArray t) (hc : 0 ≤ c ∧ c < 256) :
    Calls Try.prog 73 #[.pointer (some ⟨D, 0, none⟩), .int .u8 c] w (Stepped D t rest w (beginO c) (beginS c)) := by
  have x1 := hx.cell
  have x2 := hx.free
  have x3 := hx.lt
  simp only [List.cons_append, List.nil_append] at x1
  have hne : w.heap.size ≠ D := by omega
  by_cases k1 : c < 128
  · have bS : beginS c = [] := by unfold beginS; rw [if_neg (by omega)]
    have bO : beginO c = [c] := by unfold beginO; rw [if_pos k1]
    rw [bS, bO]
    go_enter Try.func73, Try.ntmps73
    go_wp2_with fail
    go_ret
    exact ⟨_, .slice none 0 0, rfl, Rd.lit1 _ _ _ _ _ (by simp), Fresh.at (Nat.le_refl _), (by repeat (first | with_reducible exact Bar.refl _ _ | with_reducible assumption | with_reducible apply Bar.set | with_reducible apply Bar.alloc | with_reducible apply Bar.gw | with_reducible apply Bar.drew)), ⟨m, 128, 191, (by apply Box.as; (focus (repeat (first | with_reducible assumption | with_reducible apply Box.gw | with_reducible apply Box.drew | with_reducible apply Box.alloc | with_reducible apply Box.set))); simp), Rd.nil _ _, Apart.nil _ _ _, fun h => absurd rfl h⟩, Fresh.nil _ _ _⟩

  by_cases k2 : c < 194
  · have bS : beginS c = [] := by unfold beginS; rw [if_neg (by omega)]
    have bO : beginO c = [65533] := by unfold beginO; rw [if_neg k1, if_neg (by omega)]
    rw [bS, bO]
    go_enter Try.func73, Try.ntmps73
    go_wp2_with fail
    go_ret
    exact ⟨_, .slice none 0 0, rfl, Rd.lit1 _ _ _ _ _ (by simp), Fresh.at (Nat.le_refl _), (by repeat (first | with_reducible exact Bar.refl _ _ | with_reducible assumption | with_reducible apply Bar.set | with_reducible apply Bar.alloc | with_reducible apply Bar.gw | with_reducible apply Bar.drew)), ⟨m, 128, 191, (by apply Box.as; (focus (repeat (first | with_reducible assumption | with_reducible apply Box.gw | with_reducible apply Box.drew | with_reducible apply Box.alloc | with_reducible apply Box.set))); simp), Rd.nil _ _, Apart.nil _ _ _, fun h => absurd rfl h⟩, Fresh.nil _ _ _⟩

  by_cases k3 : 244 < c
  · have bS : beginS c = [] := by unfold beginS; rw [if_neg (by omega)]
    have bO : beginO c = [65533] := by unfold beginO; rw [if_neg k1, if_neg (by omega)]
    rw [bS, bO]
    go_enter Try.func73, Try.ntmps73
    go_wp2_with fail
    go_ret
    exact ⟨_, .slice none 0 0, rfl, Rd.lit1 _ _ _ _ _ (by simp), Fresh.at (Nat.le_refl _), (by repeat (first | with_reducible exact Bar.refl _ _ | with_reducible assumption | with_reducible apply Bar.set | with_reducible apply Bar.alloc | with_reducible apply Bar.gw | with_reducible apply Bar.drew)), ⟨m, 128, 191, (by apply Box.as; (focus (repeat (first | with_reducible assumption | with_reducible apply Box.gw | with_reducible apply Box.drew | with_reducible apply Box.alloc | with_reducible apply Box.set))); simp), Rd.nil _ _, Apart.nil _ _ _, fun h => absurd rfl h⟩, Fresh.nil _ _ _⟩

  by_cases k4 : c < 224
  · have bS : beginS c = [c] := by unfold beginS; rw [if_pos (by omega)]
    have bO : beginO c = [] := by unfold beginO; rw [if_neg (by omega), if_pos (by omega)]
    rw [bS, bO]
    go_enter Try.func73, Try.ntmps73
    go_wp2_with fail
    go_ret
    exact ⟨_, .slice (some ⟨w.heap.size, 0, none⟩) 1 1, rfl, Rd.nil _ _, Fresh.nil _ _ _, (by repeat (first | with_reducible exact Bar.refl _ _ | with_reducible assumption | with_reducible apply Bar.set | with_reducible apply Bar.alloc | with_reducible apply Bar.gw | with_reducible apply Bar.drew)), ⟨1, 128, 191, (by apply Box.as; (focus (repeat (first | with_reducible assumption | with_reducible apply Box.gw | with_reducible apply Box.drew | with_reducible apply Box.alloc | with_reducible apply Box.set))); simp), Rd.lit1 _ _ _ _ _ (by simp), Apart.at (by omega), fun _ => ⟨by simp [moreOf, needOf]; omega, by simp [loOf]; omega, by simp [hiOf]; omega⟩⟩, Fresh.at (Nat.le_refl _)⟩

  by_cases e224 : c = 224
  · subst e224
    have bS : beginS 224 = [224] := by unfold beginS; rw [if_pos (by omega)]
    have bO : beginO 224 = [] := by unfold beginO; rw [if_neg (by omega), if_pos (by omega)]
    rw [bS, bO]
    go_enter Try.func73, Try.ntmps73
    go_wp2_with fail
    go_ret
    exact ⟨_, .slice (some ⟨w.heap.size, 0, none⟩) 1 1, rfl, Rd.nil _ _, Fresh.nil _ _ _, (by repeat (first | with_reducible exact Bar.refl _ _ | with_reducible assumption | with_reducible apply Bar.set | with_reducible apply Bar.alloc | with_reducible apply Bar.gw | with_reducible apply Bar.drew)), ⟨2, 160, 191, (by apply Box.as; (focus (repeat (first | with_reducible assumption | with_reducible apply Box.gw | with_reducible apply Box.drew | with_reducible apply Box.alloc | with_reducible apply Box.set))); simp), Rd.lit1 _ _ _ _ _ (by simp), Apart.at (by omega), fun _ => ⟨by simp [moreOf, needOf], by simp [loOf], by simp [hiOf]⟩⟩, Fresh.at (Nat.le_refl _)⟩
  by_cases e237 : c = 237
  · subst e237
    have bS : beginS 237 = [237] := by unfold beginS; rw [if_pos (by omega)]
    have bO : beginO 237 = [] := by unfold beginO; rw [if_neg (by omega), if_pos (by omega)]
    rw [bS, bO]
    go_enter Try.func73, Try.ntmps73
    go_wp2_with fail
    go_ret
    exact ⟨_, .slice (some ⟨w.heap.size, 0, none⟩) 1 1, rfl, Rd.nil _ _, Fresh.nil _ _ _, (by repeat (first | with_reducible exact Bar.refl _ _ | with_reducible assumption | with_reducible apply Bar.set | with_reducible apply Bar.alloc | with_reducible apply Bar.gw | with_reducible apply Bar.drew)), ⟨2, 128, 159, (by apply Box.as; (focus (repeat (first | with_reducible assumption | with_reducible apply Box.gw | with_reducible apply Box.drew | with_reducible apply Box.alloc | with_reducible apply Box.set))); simp), Rd.lit1 _ _ _ _ _ (by simp), Apart.at (by omega), fun _ => ⟨by simp [moreOf, needOf], by simp [loOf], by simp [hiOf]⟩⟩, Fresh.at (Nat.le_refl _)⟩
  by_cases e240 : c = 240
  · subst e240
    have bS : beginS 240 = [240] := by unfold beginS; rw [if_pos (by omega)]
    have bO : beginO 240 = [] := by unfold beginO; rw [if_neg (by omega), if_pos (by omega)]
    rw [bS, bO]
    go_enter Try.func73, Try.ntmps73
    go_wp2_with fail
    go_ret
    exact ⟨_, .slice (some ⟨w.heap.size, 0, none⟩) 1 1, rfl, Rd.nil _ _, Fresh.nil _ _ _, (by repeat (first | with_reducible exact Bar.refl _ _ | with_reducible assumption | with_reducible apply Bar.set | with_reducible apply Bar.alloc | with_reducible apply Bar.gw | with_reducible apply Bar.drew)), ⟨3, 144, 191, (by apply Box.as; (focus (repeat (first | with_reducible assumption | with_reducible apply Box.gw | with_reducible apply Box.drew | with_reducible apply Box.alloc | with_reducible apply Box.set))); simp), Rd.lit1 _ _ _ _ _ (by simp), Apart.at (by omega), fun _ => ⟨by simp [moreOf, needOf], by simp [loOf], by simp [hiOf]⟩⟩, Fresh.at (Nat.le_refl _)⟩
  by_cases e244 : c = 244
  · subst e244
    have bS : beginS 244 = [244] := by unfold beginS; rw [if_pos (by omega)]
    have bO : beginO 244 = [] := by unfold beginO; rw [if_neg (by omega), if_pos (by omega)]
    rw [bS, bO]
    go_enter Try.func73, Try.ntmps73
    go_wp2_with fail
    go_ret
    exact ⟨_, .slice (some ⟨w.heap.size, 0, none⟩) 1 1, rfl, Rd.nil _ _, Fresh.nil _ _ _, (by repeat (first | with_reducible exact Bar.refl _ _ | with_reducible assumption | with_reducible apply Bar.set | with_reducible apply Bar.alloc | with_reducible apply Bar.gw | with_reducible apply Bar.drew)), ⟨3, 128, 143, (by apply Box.as; (focus (repeat (first | with_reducible assumption | with_reducible apply Box.gw | with_reducible apply Box.drew | with_reducible apply Box.alloc | with_reducible apply Box.set))); simp), Rd.lit1 _ _ _ _ _ (by simp), Apart.at (by omega), fun _ => ⟨by simp [moreOf, needOf], by simp [loOf], by simp [hiOf]⟩⟩, Fresh.at (Nat.le_refl _)⟩
  by_cases k5 : c < 240
  · have bS : beginS c = [c] := by unfold beginS; rw [if_pos (by omega)]
    have bO : beginO c = [] := by unfold beginO; rw [if_neg (by omega), if_pos (by omega)]
    rw [bS, bO]
    go_enter Try.func73, Try.ntmps73
    go_wp2_with fail
    go_ret
    exact ⟨_, .slice (some ⟨w.heap.size, 0, none⟩) 1 1, rfl, Rd.nil _ _, Fresh.nil _ _ _, (by repeat (first | with_reducible exact Bar.refl _ _ | with_reducible assumption | with_reducible apply Bar.set | with_reducible apply Bar.alloc | with_reducible apply Bar.gw | with_reducible apply Bar.drew)), ⟨2, 128, 191, (by apply Box.as; (focus (repeat (first | with_reducible assumption | with_reducible apply Box.gw | with_reducible apply Box.drew | with_reducible apply Box.alloc | with_reducible apply Box.set))); simp), Rd.lit1 _ _ _ _ _ (by simp), Apart.at (by omega), fun _ => ⟨by simp [moreOf, needOf]; omega, by simp [loOf]; omega, by simp [hiOf]; omega⟩⟩, Fresh.at (Nat.le_refl _)⟩

  · have bS : beginS c = [c] := by unfold beginS; rw [if_pos (by omega)]
    have bO : beginO c = [] := by unfold beginO; rw [if_neg (by omega), if_pos (by omega)]
    rw [bS, bO]
    go_enter Try.func73, Try.ntmps73
    go_wp2_with fail
    go_ret
    exact ⟨_, .slice (some ⟨w.heap.size, 0, none⟩) 1 1, rfl, Rd.nil _ _, Fresh.nil _ _ _, (by repeat (first | with_reducible exact Bar.refl _ _ | with_reducible assumption | with_reducible apply Bar.set | with_reducible apply Bar.alloc | with_reducible apply Bar.gw | with_reducible apply Bar.drew)), ⟨3, 128, 191, (by apply Box.as; (focus (repeat (first | with_reducible assumption | with_reducible apply Box.gw | with_reducible apply Box.drew | with_reducible apply Box.alloc | with_reducible apply Box.set))); simp), Rd.lit1 _ _ _ _ _ (by simp), Apart.at (by omega), fun _ => ⟨by simp [moreOf, needOf]; omega, by simp [loOf]; omega, by simp [hiOf]; omega⟩⟩, Fresh.at (Nat.le_refl _)⟩


end Go.Proofs.Ytpkkfcfkhiaggaa
