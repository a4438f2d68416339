/- utf: End, Pending, Copy, Decode; a nil decoder. -/
import Derived.Test.YtacpbfkelpehhaaG
import Derived.Outline
set_option linter.unusedSimpArgs false
set_option linter.unusedVariables false
set_option linter.unnecessarySimpa false
namespace Go.Proofs.Ytacpbfkelpehhaa
open Go.RowKit

def Ended (D : Nat) (t : TypeId) (rest : List Value) (bv : Value) (w : World) (o : List Int) (e : Ending) (w' : World) : Prop :=
  ∃ v bv', e = .returned v ∧ Rd w' .i32 v o ∧ Fresh w v ∧ Bar D w w' ∧ DecV w' D t rest bv' [] ∧ (bv' = bv ∨ Fresh w bv')

set_option maxRecDepth 100000 in
theorem end_any (D : Nat) (t : TypeId) (rest : List Value) (bv : Value) (bs : List Int) (w : World) (hd : DecV w D t rest bv bs) :
    Calls Try.prog 19 #[.pointer (some ⟨D, 0, none⟩)] w (Ended D t rest bv w (endO bs)) := by
  obtain ⟨m, lo, hi, hx, hrd, hap, hf⟩ := hd
  have hrd0 := hrd
  obtain ⟨p, cap, rfl, l1, m1, c1⟩ := hrd
  have x1 := hx.cell
  have x2 := hx.free
  have x3 := hx.lt
  simp only [List.cons_append, List.nil_append] at x1
  clear c1
  by_cases hn : bs = []
  · subst hn
    clear hf
    go_enter Try.func19, Try.ntmps19
    go_wp2_with fail
    go_ret
    exact ⟨_, _, rfl, Rd.nil _ _, Fresh.nil _ _ _, Bar.refl _ _, ⟨m, lo, hi, hx, hrd0, hap, fun h => absurd rfl h⟩, .inl rfl⟩
  · have hl := List.length_pos_iff.2 hn
    have z3 : (bs.length : Int) ≠ 0 := by omega
    rw [show endO bs = [65533] by simp [endO, hn]]
    clear hf hn
    go_enter Try.func19, Try.ntmps19
    go_wp2_with fail
    go_ret
    exact ⟨_, .slice none 0 0, rfl, Rd.lit1 _ _ _ _ _ (by simp), Fresh.at (by simp), by repeat (first | exact Bar.refl _ _ | apply Bar.set | apply Bar.alloc), ⟨m, lo, hi, by apply Box.as; (focus (repeat (first | exact hx | apply Box.alloc | apply Box.set))); simp, Rd.nil _ _, Apart.nil _ _ _, fun h => absurd rfl h⟩, .inr (Fresh.nil _ _ _)⟩
theorem end_nil (w : World) : Calls Try.prog 19 #[.pointer none] w fun e w' => e = .returned (.slice none 0 0) ∧ w = w' := by
  go_enter Try.func19, Try.ntmps19
  go_wp2_with fail
  go_ret
  exact ⟨rfl, rfl⟩

theorem pending_any (D : Nat) (t : TypeId) (rest : List Value) (bv : Value) (bs : List Int) (w : World) (hd : DecV w D t rest bv bs) (hl : bs.length ≤ 3) :
    Calls Try.prog 18 #[.pointer (some ⟨D, 0, none⟩)] w (RetOwn w 5 .u8 bs) := by
  obtain ⟨m, lo, hi, hx, hrd, hap, hf⟩ := hd
  have x1 := hx.cell
  have x2 := hx.free
  have x3 := hx.lt
  simp only [List.cons_append, List.nil_append] at x1
  clear hf
  go_enter Try.func18, Try.ntmps18
  go_wp2_with (at_builtin; refine wpList_app rfl _ _ 22 5 .u8 1 rfl Try.underlying22 el8 w.heap.size _ _ [] bs (Own.nil _ _ _ _) hrd rfl rfl (by simp [maxLen]; omega) (by simp; omega) (Nat.le_refl _) ?_; intro v' w2 hown' hgrow hwhere)
  go_ret
  exact ⟨_, rfl, by simpa using hown', hgrow⟩
theorem pending_nil (w : World) : Calls Try.prog 18 #[.pointer none] w fun e w' => e = .returned (.slice none 0 0) ∧ w = w' := by
  go_enter Try.func18, Try.ntmps18
  go_wp2_with fail
  go_ret
  exact ⟨rfl, rfl⟩

/-- A decoder of its own that has the same bytes pending. -/
def Copied (w : World) (bv : Value) (bs : List Int) (e : Ending) (w' : World) : Prop :=
  e = .returned (.pointer (some ⟨w.heap.size, 0, none⟩)) ∧ DecV w' w.heap.size 35 [] bv bs ∧ Below w.heap.size w w'
theorem copy_any (D : Nat) (bv : Value) (bs : List Int) (w : World) (hd : DecV w D 35 [] bv bs) :
    Calls Try.prog 20 #[.pointer (some ⟨D, 0, none⟩)] w (Copied w bv bs) := by
  have hin := hd.rd.in
  obtain ⟨m, lo, hi, hx, hrd, hap, hf⟩ := hd
  have x1 := hx.cell
  have x2 := hx.free
  have x3 := hx.lt
  simp only [List.cons_append, List.nil_append] at x1
  have F := Lib.hid hf
  have R := hrd
  obtain ⟨p, cap, rfl, l1, m1, c1⟩ := hrd
  clear hf c1
  go_enter Try.func20, Try.ntmps20
  go_wp2_with fail
  go_ret
  refine ⟨rfl, ⟨m, lo, hi, Box.new _ _ _ rfl, R.below ((Below.refl _ _).alloc (Nat.le_refl _) _), fun b off n c e => ?_, F.out⟩, (Below.refl _ _).alloc (Nat.le_refl _) _⟩
  have := hin b (by rw [e]; rfl)
  omega
theorem copy_nil (w : World) : Calls Try.prog 20 #[.pointer none] w fun e w' => e = .returned (.pointer none) ∧ w = w' := by
  go_enter Try.func20, Try.ntmps20
  go_wp2_with fail
  go_ret
  exact ⟨rfl, rfl⟩

theorem DecV.zero (w : World) (n : Nat) (hn : n = w.heap.size) : DecV (w.alloc (.cells #[.slice none 0 0, .int .i64 0, .int .u8 0, .int .u8 0] 35)) n 35 [] (.slice none 0 0) [] :=
  ⟨0, 0, 0, Box.new _ _ _ hn, Rd.nil _ _, Apart.nil _ _ _, fun h => absurd rfl h⟩
theorem Bar.to_below {D : Nat} {w w1 w2 : World} (h : Below w.heap.size w w1) (hb : Bar D w1 w2) (hD : w.heap.size ≤ D) : Below w.heap.size w w2 :=
  ⟨hb.os.trans h.os, hb.tape.trans h.tape, hb.output.trans h.output, Nat.le_trans h.size hb.size, fun k hk => (hb.block k (by omega) (Nat.lt_of_lt_of_le hk h.size)).trans (h.block k hk)⟩
theorem app_below {w w1 w2 : World} {row : Option Nat} (h : Below w.heap.size w w1) (hg : w1.grownBy w2 row) (hr : ∀ g, row = some g → w.heap.size ≤ g) : Below w.heap.size w w2 :=
  ⟨hg.os.trans h.os, hg.tape.trans h.tape, hg.output.trans h.output, Nat.le_trans h.size hg.size, fun k hk => (hg.block k (Nat.lt_of_lt_of_le hk h.size) (fun e => by have := hr k e.symm; omega)).trans (h.block k hk)⟩

set_option maxRecDepth 100000 in
theorem decode_any (vb : Value) (l : List Int) (w : World) (hb : Rd w .u8 vb l) (hl : ∀ x ∈ l, Byte x) (hlen : l.length ≤ 1000000000) :
    Calls Try.prog 11 #[vb] w (RetOwn w 21 .i32 (decL l)) := by
  have hin := hb.in
  have hz := DecV.zero w w.heap.size rfl
  have hb1 : Rd (w.alloc (.cells #[.slice none 0 0, .int .i64 0, .int .u8 0, .int .u8 0] 35)) .u8 vb l := hb.below ((Below.refl _ _).alloc (Nat.le_refl _) _)
  have hap : Apart vb w.heap.size := fun b off n c e => by have := hin b (by rw [e]; rfl); omega
  have hfl := feed_len l [] .nil hl
  have hel : (endO (feedS [] l)).length ≤ 1 := by unfold endO; split <;> simp
  simp only [List.length_nil] at hfl
  go_enter Try.func11, Try.ntmps11
  go_wp2_with (first | (go_at_call 17; refine (feed_any _ _ _ _ _ _ l _ hz .nil hb1 hap hl hlen).mono ?_; rintro e w1 ⟨v1, bv1, rfl, hv1, hv2, hv3, hv4, hv5⟩) | (go_at_call 19; refine (end_any _ _ _ _ _ _ hv3).mono ?_; rintro e w2 ⟨v2, bv2, rfl, hu1, hu2, hu3, hu4, hu5⟩) | (at_builtin; refine wpList_appw rfl _ _ 25 21 .i32 4 rfl Try.underlying25 el32 w.heap.size _ _ (feedO [] l) (endO (feedS [] l)) (Own.weaken (Own.bar hv1 hu3 (hv1.off (by simp))) (by simp)) hu1 rfl rfl (by simp [maxLen]; omega) (by omega) (by have := hv2.size; have := hu3.size; simp at *; omega) ?_; intro v' w3 hown' hgrow hwhere))
  go_ret
  have hb0 : Below w.heap.size w w2 := Bar.to_below (Bar.to_below ((Below.refl _ _).alloc (Nat.le_refl _) _) hv2 (Nat.le_refl _)) hu3 (Nat.le_refl _)
  exact ⟨_, rfl, hown', app_below hb0 hgrow (fun g h => by have := (hv1.block g h).1; simp at this; omega)⟩

end Go.Proofs.Ytacpbfkelpehhaa
