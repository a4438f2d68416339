/- reply: the laws' helpers. -/
import Derived.Test.YtgaakkgelifgpaaDoorRc
import Derived.Outline
set_option linter.unusedSimpArgs false
set_option linter.unusedVariables false
set_option linter.unnecessarySimpa false
namespace Go.Proofs.YtgaakkgelifgpaaDoor
open Go.RowKit

theorem is_t (s : ByteArray) (no : Int) (w : World) : Calls Tryd.prog 22 #[.string s, .int .i64 no, .string s, .int .i64 no] w fun e w' => e = .returned (.bool true) ∧ Below w.heap.size w w' := by
  go_enter Tryd.func22, Tryd.ntmps22
  go_wp2_with fail
  go_ret
  exact ⟨rfl, Below.refl _ _⟩
theorem asks_t (p : Int) (s : ByteArray) (no : Int) (w : World) (h1 : attS p = s) (h2 : attE p = no) : Calls Tryd.prog 7 #[.int .i32 p, .string s, .int .i64 no] w fun e w' => e = .returned (.bool true) ∧ Below w.heap.size w w' := by
  have cA := fun W => att_any p W
  rw [h1, h2] at cA
  go_enter Tryd.func7, Tryd.ntmps7
  go_wp2_with (first | (go_at_call 21; (with_reducible refine (cA _).mono ?_); rintro e w1 ⟨rfl, hb1⟩) | (go_at_call 22; (with_reducible refine (is_t _ _ _).mono ?_); rintro e w2 ⟨rfl, hb2⟩))
  go_ret
  exact ⟨rfl, bl_trans hb1 hb2⟩
theorem states_t (n : Int) (rows cols top bottom : Int) (o : Bool) (r c : Int) (p : Bool) (s : ByteArray) (no : Int) (w : World) (ht : Tab w) (h1 : statS n rows cols top bottom o r c p = s) (h2 : statE n rows cols top bottom o r c p = no) : Calls Tryd.prog 9 #[.int .i64 n, .agg #[.int .i64 rows, .int .i64 cols, .int .i64 top, .int .i64 bottom, .bool o], .agg #[.int .i64 r, .int .i64 c, .bool p], .string s, .int .i64 no] w fun e w' => e = .returned (.bool true) ∧ Below w.heap.size w w' := by
  have cS := fun W (hb : Below w.heap.size w W) => status_any n rows cols top bottom o r c p W (ht.below hb)
  rw [h1, h2] at cS
  go_enter Tryd.func9, Tryd.ntmps9
  go_wp2_with (first | (go_at_call 16; (with_reducible refine (cS _ (bl_alloc (bl_alloc (Below.refl _ _) _) _)).mono ?_); rintro e w1 ⟨rfl, hb1⟩) | (go_at_call 22; (with_reducible refine (is_t _ _ _).mono ?_); rintro e w2 ⟨rfl, hb2⟩))
  go_ret
  exact ⟨rfl, bl_trans (bl_trans (bl_alloc (bl_alloc (Below.refl _ _) _) _) hb1) hb2⟩
theorem tells_t (m : Md) (p n : Int) (s : ByteArray) (no : Int) (w : World) (hg : Glob w) (ht : Tab w) (h1 : modeS m p n = s) (h2 : modeE m p n = no) : Calls Tryd.prog 12 #[.agg #[.bool m.aw, .bool m.ori, .bool m.ins, .bool m.vis, .bool m.app, .bool m.pas, .bool m.sgr, .int .i64 m.ptr, .int .i64 m.alt], .int .i32 p, .int .i64 n, .string s, .int .i64 no] w fun e w' => e = .returned (.bool true) ∧ Below w.heap.size w w' := by
  have cS := fun W (hb : Below w.heap.size w W) => mode_any m p n W (hg.below hb) (ht.below hb)
  rw [h1, h2] at cS
  go_enter Tryd.func12, Tryd.ntmps12
  go_wp2_with (first | (go_at_call 20; (with_reducible refine (cS _ (bl_alloc (Below.refl _ _) _)).mono ?_); rintro e w1 ⟨rfl, hb1⟩) | (go_at_call 22; (with_reducible refine (is_t _ _ _).mono ?_); rintro e w2 ⟨rfl, hb2⟩))
  go_ret
  exact ⟨rfl, bl_trans (bl_trans (bl_alloc (Below.refl _ _) _) hb1) hb2⟩
theorem at_any (r c : Int) (w : World) : Calls Tryd.prog 25 #[.int .i64 r, .int .i64 c] w fun e w' => e = .returned (.agg #[.int .i64 r, .int .i64 c, .bool false]) ∧ Below w.heap.size w w' := by
  go_enter Tryd.func25, Tryd.ntmps25
  go_wp2_with fail
  refine ret_row (n := 3) rfl rfl Tryd.underlying27 rfl (by kernel_rfl) rfl ⟨_, by simp (maxDischargeDepth := 6) [go_sem] <;> rfl, rfl, ?_⟩
  exact ⟨rfl, (by repeat (first | with_reducible exact Below.refl _ _ | with_reducible assumption | with_reducible exact GW.grow _ | with_reducible refine bl_alloc ?_ _ | with_reducible refine Below.drew ?_ | (with_reducible refine Below.setCell ?_ ?_ _; rotate_left; focus (simp; first | done | omega)) | with_reducible refine bl_trans ?_ (GW.grow _) | (with_reducible refine bl_trans ?_ (by assumption))))⟩
theorem control_any (p : Int) (inter : ByteArray) (rune : Int) (q : Option Addr) (n c : Nat) (w : World) : Calls Tryd.prog 27 #[.int .i32 p, .string inter, .int .i32 rune, .slice q n c] w fun e w' => e = .returned (.agg #[.int .i64 4, .int .i32 rune, .int .i32 p, .string inter, .slice q n c, .string ⟨#[]⟩]) ∧ Below w.heap.size w w' := by
  go_enter Tryd.func27, Tryd.ntmps27
  go_wp2_with fail
  refine ret_row (n := 6) rfl rfl Tryd.underlying44 rfl (by kernel_rfl) rfl ⟨_, by simp (maxDischargeDepth := 6) [go_sem] <;> rfl, rfl, ?_⟩
  exact ⟨rfl, (by repeat (first | with_reducible exact Below.refl _ _ | with_reducible assumption | with_reducible exact GW.grow _ | with_reducible refine bl_alloc ?_ _ | with_reducible refine Below.drew ?_ | (with_reducible refine Below.setCell ?_ ?_ _; rotate_left; focus (simp; first | done | omega)) | with_reducible refine bl_trans ?_ (GW.grow _) | (with_reducible refine bl_trans ?_ (by assumption))))⟩
theorem el64 : (Tryd.prog.info? 3).map (fun i => (i.zero, i.size, i.bytes)) = some (some (.int .i64 0), 1, 8) := by kernel_rfl
theorem Own.len {w : World} {B : Nat} {E : TypeId} {k : IntKind} {p : Option Addr} {n c : Nat} {xs : List Int} (h : Own w B E k (.slice p n c) xs) : n = xs.length ∧ n ≤ c ∧ c ≤ maxLen := by
  rcases h.shape with ⟨h1, h2⟩ | ⟨g, cap, h1, h2, h3⟩
  · cases h1; subst h2; exact ⟨rfl, Nat.le_refl _, by simp [maxLen]⟩
  · cases h1; exact ⟨rfl, h2, h3⟩
theorem Rd.nth {w : World} {k : IntKind} {p : Option Addr} {n c : Nat} {xs : List Int} (h : Rd w k (.slice p n c) xs) (i : Nat) (hi : i < xs.length) : ∃ b off, p = some ⟨b, off, none⟩ ∧ b < w.heap.size ∧ w.cell? ⟨b, off + i, none⟩ = some (.int k xs[i]) := by
  obtain ⟨p', cap', e, h1, h2, h3⟩ := h
  cases e
  obtain ⟨b, o, e, q, d⟩ := Rd.at h3 h1 hi
  exact ⟨b, o, e, q, d⟩
theorem Rd.len {w : World} {k : IntKind} {p : Option Addr} {n c : Nat} {xs : List Int} (h : Rd w k (.slice p n c) xs) : n = xs.length := by
  obtain ⟨p', cap', e, _⟩ := h
  cases e; rfl

def FiveNew (w w1 : World) (c0 c1 c2 c3 c4 : Array Value) : Prop := Below w.heap.size w w1 ∧ Box w1 w.heap.size c0 44 ∧ Box w1 (w.heap.size + 1) c1 25 ∧ Box w1 (w.heap.size + 1 + 1) c2 27 ∧ Box w1 (w.heap.size + 1 + 1 + 1) c3 38 ∧ Box w1 (w.heap.size + 1 + 1 + 1 + 1) c4 44
theorem five_new (w w1 : World) (c0 c1 c2 c3 c4 : Array Value) (hb : Below (((((w.alloc (.cells c0 44)).alloc (.cells c1 25)).alloc (.cells c2 27)).alloc (.cells c3 38)).alloc (.cells c4 44)).heap.size (((((w.alloc (.cells c0 44)).alloc (.cells c1 25)).alloc (.cells c2 27)).alloc (.cells c3 38)).alloc (.cells c4 44)) w1) : FiveNew w w1 c0 c1 c2 c3 c4 :=
  ⟨bl_trans (bl_alloc (bl_alloc (bl_alloc (bl_alloc (bl_alloc (Below.refl _ _) _) _) _) _) _) hb, (hb.block _ (by simp <;> omega)).trans (((((Box.new w _ _ rfl).alloc _).alloc _).alloc _).alloc _), (hb.block _ (by simp <;> omega)).trans ((((Box.new _ _ _ (by simp)).alloc _).alloc _).alloc _), (hb.block _ (by simp <;> omega)).trans (((Box.new _ _ _ (by simp)).alloc _).alloc _), (hb.block _ (by simp)).trans ((Box.new _ _ _ (by simp)).alloc _), (hb.block _ (by simp)).trans (Box.new _ _ _ (by simp))⟩

set_option maxHeartbeats 4000000 in
set_option maxRecDepth 100000 in
theorem answers_t (kind rune pre : Int) (inter text : ByteArray) (v : Value) (xs : List Int) (rows cols top bottom : Int) (o : Bool) (r c : Int) (p : Bool) (m : Md) (s : ByteArray) (no : Int) (w : World) (hv : Rd w .i64 v xs) (hl : xs.length ≤ 1000) (hin : inter.size ≤ 140737488355328) (hgl : Glob w) (ht : Tab w) (hs : ansP kind rune pre inter (firstP xs) rows cols top bottom o r c p m = (s, no)) :
    Calls Tryd.prog 26 #[.agg #[.int .i64 kind, .int .i32 rune, .int .i32 pre, .string inter, v, .string text], .agg #[.int .i64 rows, .int .i64 cols, .int .i64 top, .int .i64 bottom, .bool o], .agg #[.int .i64 r, .int .i64 c, .bool p], .agg #[.bool m.aw, .bool m.ori, .bool m.ins, .bool m.vis, .bool m.app, .bool m.pas, .bool m.sgr, .int .i64 m.ptr, .int .i64 m.alt], .string s, .int .i64 no] w fun e w' => e = .returned (.bool true) ∧ Below w.heap.size w w' := by
  have cA := fun u W (hu : Rd W .i64 u xs) (hb : Below w.heap.size w W) => ans_any kind rune pre inter text u xs rows cols top bottom o r c p m W hu hin (hgl.below hb) (ht.below hb)
  unfold AnsE at cA
  rw [hs] at cA
  simp only at cA
  obtain ⟨vp, vn, vc, rfl⟩ := hv.shape
  obtain rfl := hv.len
  have e5 : ∀ W, Below (((((((w.alloc (.cells #[.int .i64 kind, .int .i32 rune, .int .i32 pre, .string inter, .slice vp xs.length vc, .string text] 44)).alloc (.cells #[.int .i64 rows, .int .i64 cols, .int .i64 top, .int .i64 bottom, .bool o] 25)).alloc (.cells #[.int .i64 r, .int .i64 c, .bool p] 27)).alloc (.cells #[.bool m.aw, .bool m.ori, .bool m.ins, .bool m.vis, .bool m.app, .bool m.pas, .bool m.sgr, .int .i64 m.ptr, .int .i64 m.alt] 38)).alloc (.cells #[.int .i64 kind, .int .i32 rune, .int .i32 pre, .string inter, .slice vp xs.length vc, .string text] 44))).heap.size) ((((((w.alloc (.cells #[.int .i64 kind, .int .i32 rune, .int .i32 pre, .string inter, .slice vp xs.length vc, .string text] 44)).alloc (.cells #[.int .i64 rows, .int .i64 cols, .int .i64 top, .int .i64 bottom, .bool o] 25)).alloc (.cells #[.int .i64 r, .int .i64 c, .bool p] 27)).alloc (.cells #[.bool m.aw, .bool m.ori, .bool m.ins, .bool m.vis, .bool m.app, .bool m.pas, .bool m.sgr, .int .i64 m.ptr, .int .i64 m.alt] 38)).alloc (.cells #[.int .i64 kind, .int .i32 rune, .int .i32 pre, .string inter, .slice vp xs.length vc, .string text] 44))) W → FiveNew w W #[.int .i64 kind, .int .i32 rune, .int .i32 pre, .string inter, .slice vp xs.length vc, .string text] #[.int .i64 rows, .int .i64 cols, .int .i64 top, .int .i64 bottom, .bool o] #[.int .i64 r, .int .i64 c, .bool p] #[.bool m.aw, .bool m.ori, .bool m.ins, .bool m.vis, .bool m.app, .bool m.pas, .bool m.sgr, .int .i64 m.ptr, .int .i64 m.alt] #[.int .i64 kind, .int .i32 rune, .int .i32 pre, .string inter, .slice vp xs.length vc, .string text] := fun W hb => five_new _ _ _ _ _ _ _ hb
  go_enter Tryd.func26, Tryd.ntmps26
  go_wp2_with (first | (at_builtin; refine wpList_app rfl _ _ 32 3 .i64 8 rfl Tryd.underlying32 el64 (((((((w.alloc (.cells #[.int .i64 kind, .int .i32 rune, .int .i32 pre, .string inter, .slice vp xs.length vc, .string text] 44)).alloc (.cells #[.int .i64 rows, .int .i64 cols, .int .i64 top, .int .i64 bottom, .bool o] 25)).alloc (.cells #[.int .i64 r, .int .i64 c, .bool p] 27)).alloc (.cells #[.bool m.aw, .bool m.ori, .bool m.ins, .bool m.vis, .bool m.app, .bool m.pas, .bool m.sgr, .int .i64 m.ptr, .int .i64 m.alt] 38)).alloc (.cells #[.int .i64 kind, .int .i32 rune, .int .i32 pre, .string inter, .slice vp xs.length vc, .string text] 44))).heap.size) _ _ [] xs (Own.nil _ _ _ _) (hv.below (bl_alloc (bl_alloc (bl_alloc (bl_alloc (bl_alloc (Below.refl _ _) _) _) _) _) _)) rfl rfl (by simp [maxLen]; omega) (by simp; omega) (by simp) ?_; intro v' w1 hown hg1 _; rw [List.nil_append] at hown; obtain ⟨p1, n1, cc1, hv'⟩ := hown.rd.shape; subst hv'; obtain ⟨ho1, ho2, ho3⟩ := hown.len; subst ho1; obtain ⟨hl1, x0, x1, x2, x3, x4⟩ := e5 _ hg1; have hap : Apart (.slice p1 xs.length cc1) (w.heap.size + 1 + 1 + 1 + 1) := apart_of (hown.off (by simp)); have hro := hown.rd; clear hown hg1 e5; have hro2 : Rd (w1.setCell ⟨w.heap.size + 1 + 1 + 1 + 1, 4, none⟩ (.slice p1 xs.length cc1)) .i64 _ xs := hro.bar hap ((Bar.refl _ _).set 4 _); have hl2 : Below w.heap.size w (w1.setCell ⟨w.heap.size + 1 + 1 + 1 + 1, 4, none⟩ (.slice p1 xs.length cc1)) := Bar.to_below hl1 ((Bar.refl _ _).set 4 _) (by omega); have k0 := x0.set_other (g := w.heap.size + 1 + 1 + 1 + 1) (by omega) 4 (.slice p1 xs.length cc1); have k1 := x1.set_other (g := w.heap.size + 1 + 1 + 1 + 1) (by omega) 4 (.slice p1 xs.length cc1); have k2 := x2.set_other (g := w.heap.size + 1 + 1 + 1 + 1) (by omega) 4 (.slice p1 xs.length cc1); have k3 := x3.set_other (g := w.heap.size + 1 + 1 + 1 + 1) (by omega) 4 (.slice p1 xs.length cc1); have k4 := (x4.set 4 (.slice p1 xs.length cc1)).as (ds := #[.int .i64 kind, .int .i32 rune, .int .i32 pre, .string inter, .slice p1 xs.length cc1, .string text]) (by simp); have y4 := x4.cell; have z4 := x4.lt; have f4 := x4.free; have a0 := k0.cell; have a1 := k1.cell; have a2 := k2.cell; have a3 := k3.cell; have a4 := k4.cell; have b0 := k0.lt; have b1 := k1.lt; have b2 := k2.lt; have b3 := k3.lt; have b4 := k4.lt) | (go_at_call 13; (with_reducible refine (cA _ _ hro2 hl2).mono ?_); rintro e w2 ⟨rfl, hb2⟩; have hl3 := bl_trans hl2 hb2; have q0 : Box w2 _ _ _ := (hb2.block _ k0.lt).trans k0; have q4 : Box w2 _ _ _ := (hb2.block _ k4.lt).trans k4; have hro3 := hro2.below hb2; have hv3 := hv.below hl3; clear a0 a1 a2 a3 a4 b0 b1 b2 b3 b4 k0 k1 k2 k3 k4 x0 x1 x2 x3 x4 y4 z4 f4 hro hro2 hap hb2 hl1 hl2))
  go_loopw [16] (fun i wr => ∃ (k : Nat), k ≤ xs.length ∧ i = .int .i64 k ∧ Below w2.heap.size w2 wr) (fun i _ => xs.length - (intOf i).toNat)
  case atStart => exact ⟨0, Nat.zero_le _, rfl, Below.refl _ _⟩
  case round =>
    obtain ⟨k, hk, rfl, hbel⟩ := hrel
    have z0 : Box wr _ _ _ := (hbel.block _ q0.lt).trans q0
    have z4 : Box wr _ _ _ := (hbel.block _ q4.lt).trans q4
    have c0 := z0.cell
    have c4 := z4.cell
    have l0 := z0.lt
    have l4 := z4.lt
    by_cases hlt : k < xs.length
    · obtain ⟨b1, o1, e1, q1, d1⟩ := hv3.nth k hlt
      obtain ⟨b2, o2, e2, q2, d2⟩ := hro3.nth k hlt
      subst e1 e2
      have d3 : wr.cell? ⟨b1, o1 + k, none⟩ = some (.int .i64 xs[k]) := by rw [hbel.cell (p := ⟨b1, _, none⟩) q1]; exact d1
      have d4 : wr.cell? ⟨b2, o2 + k, none⟩ = some (.int .i64 xs[k]) := by rw [hbel.cell (p := ⟨b2, _, none⟩) q2]; exact d2
      have y3 := Nat.lt_of_lt_of_le q1 hbel.size
      have y4 := Nat.lt_of_lt_of_le q2 hbel.size
      clear d1 d2
      generalize xs[k] = n at *
      have r1 : (0 : Int) ≤ (k : Int) := by omega
      have r2 : (k : Int) < (xs.length : Int) := by omega
      go_wp2_with fail
      first | refine wp_grow2 (by kernel_rfl) (by kernel_rfl) ?_ | refine wp_grow (by kernel_rfl) (by kernel_rfl) ?_
      repeat (go_big_quiet_step (fail))
      refine wpQuiet_nil ?_
      rintro _ ⟨X, rfl⟩
      go_wp2_with fail
      go_roundw
      case rel => exact ⟨k + 1, by omega, by go_num, bl_trans hbel X.grow⟩
      case measure => simp [intOf]; omega
    · go_wp2_with (first | (go_at_call 22; (with_reducible refine (is_t _ _ _).mono ?_); rintro e w3 ⟨rfl, hb3⟩))
      go_ret
      exact ⟨rfl, bl_trans (hl3.trans (hbel.mono hl3.size)) hb3⟩

end Go.Proofs.YtgaakkgelifgpaaDoor
