/- modes: the laws' helper about Apply. -/
import Derived.Test.YtcmflmmidipckaaDoorM
import Derived.Outline
set_option linter.unusedSimpArgs false
set_option linter.unusedVariables false
set_option linter.unnecessarySimpa false
namespace Go.Proofs.YtcmflmmidipckaaDoor
open Go.RowKit

theorem el64 : (Tryd.prog.info? 3).map (fun i => (i.zero, i.size, i.bytes)) = some (some (.int .i64 0), 1, 8) := by kernel_rfl
theorem Own.len {w : World} {B : Nat} {E : TypeId} {k : IntKind} {p : Option Addr} {n c : Nat} {xs : List Int} (h : Own w B E k (.slice p n c) xs) : n = xs.length ∧ n ≤ c ∧ c ≤ maxLen := by
  rcases h.shape with ⟨h1, h2⟩ | ⟨g, cap, h1, h2, h3⟩
  · cases h1; subst h2; exact ⟨rfl, Nat.le_refl _, by simp [maxLen]⟩
  · cases h1; exact ⟨rfl, h2, h3⟩
theorem Rd.nth {w : World} {k : IntKind} {p : Option Addr} {n c : Nat} {xs : List Int} (h : Rd w k (.slice p n c) xs) (i : Nat) (hi : i < xs.length) : ∃ b off, p = some ⟨b, off, none⟩ ∧ b < w.heap.size ∧ w.cell? ⟨b, off + i, none⟩ = some (.int k xs[i]) := by
  obtain ⟨p', cap', e, h1, h2, h3⟩ := h
  cases e
  obtain ⟨b, o, e, q, d⟩ := Rd.at h3 h1 hi
  exact ⟨b, o, e, q, d⟩
set_option maxHeartbeats 4000000 in
set_option maxRecDepth 100000 in
theorem applies_t (m : Md) (p : Int) (v : Value) (xs : List Int) (on : Bool) (r : Md) (no : Int) (w : World) (hg : Glob w) (h : Rd w .i64 v xs) (hl : xs.length ≤ 1000) (hr : applyR m p xs on = r) (he : getE m = no) : Calls Tryd.prog 18 #[.agg #[.bool m.aw, .bool m.ori, .bool m.ins, .bool m.vis, .bool m.app, .bool m.pas, .bool m.sgr, .int .i64 m.ptr, .int .i64 m.alt], .int .i32 p, v, .bool on, .agg #[.bool r.aw, .bool r.ori, .bool r.ins, .bool r.vis, .bool r.app, .bool r.pas, .bool r.sgr, .int .i64 r.ptr, .int .i64 r.alt], .int .i64 no] w fun e w' => e = .returned (.bool true) ∧ Below w.heap.size w w' := by
  have h0 := h
  obtain ⟨pp, cap, rfl, l1, m1, c1⟩ := h0
  unfold maxLen at m1
  have C1 := Lib.hid c1
  clear c1
  have cS := fun u W (hu : Rd W .i64 u xs) (hb : Below w.heap.size w W) => apply_any m p u xs on W (hg.below hb) hu
  rw [hr, he] at cS
  go_enter Tryd.func18, Tryd.ntmps18
  go_wp2_with (first | (at_builtin; refine wpList_app rfl _ _ 35 3 .i64 8 rfl Tryd.underlying35 el64 (w.heap.size + 2) _ _ [] xs (Own.nil _ _ _ _) (h.below (bl_alloc (bl_alloc (Below.refl _ _) _) _)) rfl rfl (by simp [maxLen]; omega) (by simp; omega) (by simp) ?_; intro v' w1 hown hg1 _; rw [List.nil_append] at hown; obtain ⟨p1, n1, cc1, hv'⟩ := hown.rd.shape; subst hv'; have hb1 : Below w.heap.size w w1 := bl_trans (bl_alloc (bl_alloc (Below.refl _ _) _) _) (by simpa using hg1); obtain ⟨ho1, ho2, ho3⟩ := hown.len; subst ho1; have hrw : Box w1 (w.heap.size + 1) _ _ := (hg1.block (w.heap.size + 1) (by omega)).trans (Box.new _ _ _ (by simp)); have hmw : Box w1 w.heap.size _ _ := (hg1.block w.heap.size (by omega)).trans ((Box.new w _ _ rfl).alloc _); have hcm := hmw.cell; have hlm := hmw.lt; have hro := hown.rd; clear hg1) | (go_at_call 24; (with_reducible refine (cS _ _ hro hb1).mono ?_); rintro e w2 ⟨rfl, hb2⟩; have hl2 : Below w.heap.size w w2 := bl_trans hb1 hb2; have hrw2 : Box w2 (w.heap.size + 1) _ _ := (hb2.block _ hrw.lt).trans hrw; have hro2 := hro.below hb2; clear hro hown))
  have hl4 : Below w.heap.size w (w2.alloc (.cells #[.bool r.aw, .bool r.ori, .bool r.ins, .bool r.vis, .bool r.app, .bool r.pas, .bool r.sgr, .int .i64 r.ptr, .int .i64 r.alt] 23)) := bl_alloc hl2 _
  have hx4 : Box (w2.alloc (.cells #[.bool r.aw, .bool r.ori, .bool r.ins, .bool r.vis, .bool r.app, .bool r.pas, .bool r.sgr, .int .i64 r.ptr, .int .i64 r.alt] 23)) w2.heap.size _ _ := Box.new w2 _ _ rfl
  have hr4 : Box (w2.alloc (.cells #[.bool r.aw, .bool r.ori, .bool r.ins, .bool r.vis, .bool r.app, .bool r.pas, .bool r.sgr, .int .i64 r.ptr, .int .i64 r.alt] 23)) (w.heap.size + 1) _ _ := hrw2.alloc _
  have ho4 := hro2.below (bl_alloc (Below.refl _ w2) (.cells #[.bool r.aw, .bool r.ori, .bool r.ins, .bool r.vis, .bool r.app, .bool r.pas, .bool r.sgr, .int .i64 r.ptr, .int .i64 r.alt] 23))
  have hv4 := h.below hl4
  obtain ⟨b4, hb4⟩ : ∃ b4, w2.heap.size = b4 := ⟨_, rfl⟩
  generalize w2.alloc (.cells #[.bool r.aw, .bool r.ori, .bool r.ins, .bool r.vis, .bool r.app, .bool r.pas, .bool r.sgr, .int .i64 r.ptr, .int .i64 r.alt] 23) = W4 at *
  rw [hb4] at hx4 ⊢
  clear hb4 hrw2 hro2
  go_loopw [16] (fun i wr => ∃ (k : Nat), k ≤ xs.length ∧ i = .int .i64 k ∧ Below W4.heap.size W4 wr) (fun i _ => xs.length - (intOf i).toNat)
  case atStart => exact ⟨0, Nat.zero_le _, rfl, Below.refl _ _⟩
  case round =>
    obtain ⟨k, hk, rfl, hbel⟩ := hrel
    have hxr := (hbel.block _ hx4.lt).trans hx4
    have hrr := (hbel.block _ hr4.lt).trans hr4
    by_cases hlt : k < xs.length
    · obtain ⟨b1, o1, e1, q1, d1⟩ := hv4.nth k hlt
      obtain ⟨b2, o2, e2, q2, d2⟩ := ho4.nth k hlt
      subst e1 e2
      have d3 : wr.cell? ⟨b1, o1 + k, none⟩ = some (.int .i64 xs[k]) := by rw [hbel.cell (p := ⟨b1, _, none⟩) q1]; exact d1
      have d4 : wr.cell? ⟨b2, o2 + k, none⟩ = some (.int .i64 xs[k]) := by rw [hbel.cell (p := ⟨b2, _, none⟩) q2]; exact d2
      have y3 := Nat.lt_of_lt_of_le q1 hbel.size
      have y4 := Nat.lt_of_lt_of_le q2 hbel.size
      clear d1 d2
      generalize xs[k] = n at *
      have r1 : (0 : Int) ≤ (k : Int) := by omega
      have r2 : (k : Int) < (xs.length : Int) := by omega
      go_wp2_with fail
      first | refine wp_grow2 (by kernel_rfl) (by kernel_rfl) ?_ | refine wp_grow (by kernel_rfl) (by kernel_rfl) ?_
      repeat (go_big_quiet_step (fail))
      refine wpQuiet_nil ?_
      rintro _ ⟨X, rfl⟩
      go_wp2_with fail
      go_roundw
      case rel => exact ⟨k + 1, by omega, by go_num, bl_trans hbel X.grow⟩
      case measure => simp [intOf]; omega
    · have hx5 : Box wr b4 _ _ := hxr
      have hr5 : Box wr (w.heap.size + 1) _ _ := hrr
      have z1 := hx5.cell
      have z2 := hr5.cell
      have z3 := hx5.lt
      have z4 := hr5.lt
      clear C1
      go_wp2_with fail
      go_ret
      exact ⟨rfl, hl4.trans (hbel.mono hl4.size)⟩

end Go.Proofs.YtcmflmmidipckaaDoor
