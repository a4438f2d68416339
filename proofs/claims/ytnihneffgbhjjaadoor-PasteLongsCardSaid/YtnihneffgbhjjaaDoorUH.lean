/- utf: End, Pending, Copy, Decode; a nil decoder. -/
import Derived.Test.YtnihneffgbhjjaaDoorUG
import Derived.Test.YtnihneffgbhjjaaDoorLate
import Derived.Outline
set_option linter.unusedSimpArgs false
set_option linter.unusedVariables false
set_option linter.unnecessarySimpa false
namespace Go.Proofs.YtnihneffgbhjjaaDoor
open Go.RowKit

def Ended (D : Nat) (t : TypeId) (rest : List Value) (bv : Value) (w : World) (o : List Int) (e : Ending) (w' : World) : Prop :=
  ∃ v bv', e = .returned v ∧ Rd w' .i32 v o ∧ Fresh w v ∧ Bar D w w' ∧ DecV w' D t rest bv' [] ∧ (bv' = bv ∨ Fresh w bv')

set_option maxRecDepth 100000 in
theorem end_any (D : Nat) (t : TypeId) (rest : List Value) (bv : Value) (bs : List Int) (w : World) (hd : DecV w D t rest bv bs) :
    Calls Tryd.prog 36 #[.pointer (some ⟨D, 0, none⟩)] w (Ended D t rest bv w (endO bs)) := by
  obtain ⟨m, lo, hi, hx, hrd, hap, hf⟩ := hd
  have hrd0 := hrd
  obtain ⟨p, cap, rfl, l1, m1, c1⟩ := hrd
  have x1 := hx.cell
  have x2 := hx.free
  have x3 := hx.lt
  simp only [List.cons_append, List.nil_append] at x1
  clear c1
  by_cases hn : bs = []
  · subst hn
    clear hf
    go_enter Tryd.func36, Tryd.ntmps36
    go_wp2_with fail
    go_ret
    exact ⟨_, _, rfl, Rd.nil _ _, Fresh.nil _ _ _, Bar.refl _ _, ⟨m, lo, hi, hx, hrd0, hap, fun h => absurd rfl h⟩, .inl rfl⟩
  · have hl := List.length_pos_iff.2 hn
    have z3 : (bs.length : Int) ≠ 0 := by omega
    rw [show endO bs = [65533] by simp [endO, hn]]
    clear hf hn
    go_enter Tryd.func36, Tryd.ntmps36
    go_wp2_with fail
    go_ret
    exact ⟨_, .slice none 0 0, rfl, Rd.lit1 _ _ _ _ _ (by simp), Fresh.at (by simp), by repeat (first | exact Bar.refl _ _ | apply Bar.set | apply Bar.alloc), ⟨m, lo, hi, by apply Box.as; (focus (repeat (first | exact hx | apply Box.alloc | apply Box.set))); simp, Rd.nil _ _, Apart.nil _ _ _, fun h => absurd rfl h⟩, .inr (Fresh.nil _ _ _)⟩
theorem end_nil (w : World) : Calls Tryd.prog 36 #[.pointer none] w fun e w' => e = .returned (.slice none 0 0) ∧ w = w' := by
  go_enter Tryd.func36, Tryd.ntmps36
  go_wp2_with fail
  go_ret
  exact ⟨rfl, rfl⟩

/-- A decoder of its own that has the same bytes pending. -/
def Copied (w : World) (bv : Value) (bs : List Int) (e : Ending) (w' : World) : Prop :=
  e = .returned (.pointer (some ⟨w.heap.size, 0, none⟩)) ∧ DecV w' w.heap.size 76 [] bv bs ∧ Below w.heap.size w w'
theorem DecV.zero (w : World) (n : Nat) (hn : n = w.heap.size) : DecV (w.alloc (.cells #[.slice none 0 0, .int .i64 0, .int .u8 0, .int .u8 0] 76)) n 76 [] (.slice none 0 0) [] :=
  ⟨0, 0, 0, Box.new _ _ _ hn, Rd.nil _ _, Apart.nil _ _ _, fun h => absurd rfl h⟩
set_option maxRecDepth 100000 in
theorem decode_any (vb : Value) (l : List Int) (w : World) (hb : Rd w .u8 vb l) (hl : ∀ x ∈ l, Byte x) (hlen : l.length ≤ 1000000000) :
    Calls Tryd.prog 29 #[vb] w (RetOwn w 21 .i32 (decL l)) := by
  have hin := hb.in
  have hz := DecV.zero w w.heap.size rfl
  have hb1 : Rd (w.alloc (.cells #[.slice none 0 0, .int .i64 0, .int .u8 0, .int .u8 0] 76)) .u8 vb l := hb.below ((Below.refl _ _).alloc (Nat.le_refl _) _)
  have hap : Apart vb w.heap.size := fun b off n c e => by have := hin b (by rw [e]; rfl); omega
  have hfl := feed_len l [] .nil hl
  have hel : (endO (feedS [] l)).length ≤ 1 := by unfold endO; split <;> simp
  simp only [List.length_nil] at hfl
  go_enter Tryd.func29, Tryd.ntmps29
  go_wp2_with (first | (go_at_call 35; refine (feed_any _ _ _ _ _ _ l _ hz .nil hb1 hap hl hlen).mono ?_; rintro e w1 ⟨v1, bv1, rfl, hv1, hv2, hv3, hv4, hv5⟩) | (go_at_call 36; refine (end_any _ _ _ _ _ _ hv3).mono ?_; rintro e w2 ⟨v2, bv2, rfl, hu1, hu2, hu3, hu4, hu5⟩) | (at_builtin; refine wpList_appw rfl _ _ 25 21 .i32 4 rfl Tryd.underlying25 el32 w.heap.size _ _ (feedO [] l) (endO (feedS [] l)) (Own.weaken (Own.bar hv1 hu3 (hv1.off (by simp))) (by simp)) hu1 rfl rfl (by simp [maxLen]; omega) (by omega) (by have := hv2.size; have := hu3.size; simp at *; omega) ?_; intro v' w3 hown' hgrow hwhere))
  go_ret
  have hb0 : Below w.heap.size w w2 := Bar.to_below (Bar.to_below ((Below.refl _ _).alloc (Nat.le_refl _) _) hv2 (Nat.le_refl _)) hu3 (Nat.le_refl _)
  exact ⟨_, rfl, hown', app_below hb0 hgrow (fun g h => by have := (hv1.block g h).1; simp at this; omega)⟩

end Go.Proofs.YtnihneffgbhjjaaDoor
