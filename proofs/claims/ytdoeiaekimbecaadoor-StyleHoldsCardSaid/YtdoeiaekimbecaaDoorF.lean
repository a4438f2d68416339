/- style: a pen after a group. Printed by mk_f.py. -/
import Derived.Test.YtdoeiaekimbecaaDoorD
import Derived.Test.YtdoeiaekimbecaaDoorLate
import Derived.Outline
set_option linter.unusedSimpArgs false
set_option linter.unusedVariables false
set_option linter.unnecessarySimpa false
namespace Go.Proofs.YtdoeiaekimbecaaDoor
open Go.RowKit

theorem setc10 {w : World} {D : Nat} {v0 v1 v2 v3 v4 v5 v6 v7 v8 v9 v10 : Value} {t : TypeId} (h : Box w D #[v0, v1, v2, v3, v4, v5, v6, v7, v8, v9, v10] t) (a0 a1 a2 a3 a4 a5 a6 a7 a8 a9 : Value) : Box ((((((((((w.setCell ⟨D, 0, none⟩ a0).setCell ⟨D, 1, none⟩ a1).setCell ⟨D, 2, none⟩ a2).setCell ⟨D, 3, none⟩ a3).setCell ⟨D, 4, none⟩ a4).setCell ⟨D, 5, none⟩ a5).setCell ⟨D, 6, none⟩ a6).setCell ⟨D, 7, none⟩ a7).setCell ⟨D, 8, none⟩ a8).setCell ⟨D, 9, none⟩ a9) D #[a0, a1, a2, a3, a4, a5, a6, a7, a8, a9, v10] t := Box.as (Box.set (Box.set (Box.set (Box.set (Box.set (Box.set (Box.set (Box.set (Box.set (Box.set h 0 a0) 1 a1) 2 a2) 3 a3) 4 a4) 5 a5) 6 a6) 7 a7) 8 a8) 9 a9) (by simp)
theorem barc10 (D : Nat) (w : World) (a0 a1 a2 a3 a4 a5 a6 a7 a8 a9 : Value) : Bar D w ((((((((((w.setCell ⟨D, 0, none⟩ a0).setCell ⟨D, 1, none⟩ a1).setCell ⟨D, 2, none⟩ a2).setCell ⟨D, 3, none⟩ a3).setCell ⟨D, 4, none⟩ a4).setCell ⟨D, 5, none⟩ a5).setCell ⟨D, 6, none⟩ a6).setCell ⟨D, 7, none⟩ a7).setCell ⟨D, 8, none⟩ a8).setCell ⟨D, 9, none⟩ a9) := (((((((((((Bar.refl D w).set 0 a0).set 1 a1).set 2 a2).set 3 a3).set 4 a4).set 5 a5).set 6 a6).set 7 a7).set 8 a8).set 9 a9)
theorem setc11 {w : World} {D : Nat} {v0 v1 v2 v3 v4 v5 v6 v7 v8 v9 v10 : Value} {t : TypeId} (h : Box w D #[v0, v1, v2, v3, v4, v5, v6, v7, v8, v9, v10] t) (a0 a1 a2 a3 a4 a5 a6 a7 a8 a9 a10 : Value) : Box (((((((((((w.setCell ⟨D, 0, none⟩ a0).setCell ⟨D, 1, none⟩ a1).setCell ⟨D, 2, none⟩ a2).setCell ⟨D, 3, none⟩ a3).setCell ⟨D, 4, none⟩ a4).setCell ⟨D, 5, none⟩ a5).setCell ⟨D, 6, none⟩ a6).setCell ⟨D, 7, none⟩ a7).setCell ⟨D, 8, none⟩ a8).setCell ⟨D, 9, none⟩ a9).setCell ⟨D, 10, none⟩ a10) D #[a0, a1, a2, a3, a4, a5, a6, a7, a8, a9, a10] t := Box.as (Box.set (Box.set (Box.set (Box.set (Box.set (Box.set (Box.set (Box.set (Box.set (Box.set (Box.set h 0 a0) 1 a1) 2 a2) 3 a3) 4 a4) 5 a5) 6 a6) 7 a7) 8 a8) 9 a9) 10 a10) (by simp)
theorem barc11 (D : Nat) (w : World) (a0 a1 a2 a3 a4 a5 a6 a7 a8 a9 a10 : Value) : Bar D w (((((((((((w.setCell ⟨D, 0, none⟩ a0).setCell ⟨D, 1, none⟩ a1).setCell ⟨D, 2, none⟩ a2).setCell ⟨D, 3, none⟩ a3).setCell ⟨D, 4, none⟩ a4).setCell ⟨D, 5, none⟩ a5).setCell ⟨D, 6, none⟩ a6).setCell ⟨D, 7, none⟩ a7).setCell ⟨D, 8, none⟩ a8).setCell ⟨D, 9, none⟩ a9).setCell ⟨D, 10, none⟩ a10) := ((((((((((((Bar.refl D w).set 0 a0).set 1 a1).set 2 a2).set 3 a3).set 4 a4).set 5 a5).set 6 a6).set 7 a7).set 8 a8).set 9 a9).set 10 a10)
theorem Box.past {w w' : World} {b : Nat} {cs : Array Value} {t : TypeId} (hb : Below w.heap.size w w') (h : Box w b cs t) : Box w' b cs t := (hb.block _ (Box.lt h)).trans h
theorem Box.drewN {w : World} {b : Nat} {cs : Array Value} {t : TypeId} {n : Nat} (h : Box w b cs t) : Box (w.drewN n) b cs t := h
theorem Below.drewN {B : Nat} {w w' : World} (h : Below B w w') (n : Nat) : Below B w (w'.drewN n) := ⟨h.os, h.tape, h.output, h.size, h.block⟩
/-- The table of flags and numbers, as it is laid. -/
abbrev marksA : Array Value := #[.int .u8 1, .int .i64 1, .int .u8 2, .int .i64 2, .int .u8 4, .int .i64 3, .int .u8 8, .int .i64 4, .int .u8 16, .int .i64 5, .int .u8 32, .int .i64 7, .int .u8 64, .int .i64 8, .int .u8 128, .int .i64 9]
@[go_sem high] theorem idx_0 (w : World) : (Instr.index 62 (.agg #[.int .u8 1, .int .i64 1, .int .u8 2, .int .i64 2, .int .u8 4, .int .i64 3, .int .u8 8, .int .i64 4, .int .u8 16, .int .i64 5, .int .u8 32, .int .i64 7, .int .u8 64, .int .i64 8, .int .u8 128, .int .i64 9]) (.int .i64 0)).run Tryd.prog w = .ok (.agg #[.int .u8 1, .int .i64 1]) w := by kernel_rfl
@[go_sem high] theorem idx_1 (w : World) : (Instr.index 62 (.agg #[.int .u8 1, .int .i64 1, .int .u8 2, .int .i64 2, .int .u8 4, .int .i64 3, .int .u8 8, .int .i64 4, .int .u8 16, .int .i64 5, .int .u8 32, .int .i64 7, .int .u8 64, .int .i64 8, .int .u8 128, .int .i64 9]) (.int .i64 1)).run Tryd.prog w = .ok (.agg #[.int .u8 2, .int .i64 2]) w := by kernel_rfl
@[go_sem high] theorem idx_2 (w : World) : (Instr.index 62 (.agg #[.int .u8 1, .int .i64 1, .int .u8 2, .int .i64 2, .int .u8 4, .int .i64 3, .int .u8 8, .int .i64 4, .int .u8 16, .int .i64 5, .int .u8 32, .int .i64 7, .int .u8 64, .int .i64 8, .int .u8 128, .int .i64 9]) (.int .i64 2)).run Tryd.prog w = .ok (.agg #[.int .u8 4, .int .i64 3]) w := by kernel_rfl
@[go_sem high] theorem idx_3 (w : World) : (Instr.index 62 (.agg #[.int .u8 1, .int .i64 1, .int .u8 2, .int .i64 2, .int .u8 4, .int .i64 3, .int .u8 8, .int .i64 4, .int .u8 16, .int .i64 5, .int .u8 32, .int .i64 7, .int .u8 64, .int .i64 8, .int .u8 128, .int .i64 9]) (.int .i64 3)).run Tryd.prog w = .ok (.agg #[.int .u8 8, .int .i64 4]) w := by kernel_rfl
@[go_sem high] theorem idx_4 (w : World) : (Instr.index 62 (.agg #[.int .u8 1, .int .i64 1, .int .u8 2, .int .i64 2, .int .u8 4, .int .i64 3, .int .u8 8, .int .i64 4, .int .u8 16, .int .i64 5, .int .u8 32, .int .i64 7, .int .u8 64, .int .i64 8, .int .u8 128, .int .i64 9]) (.int .i64 4)).run Tryd.prog w = .ok (.agg #[.int .u8 16, .int .i64 5]) w := by kernel_rfl
@[go_sem high] theorem idx_5 (w : World) : (Instr.index 62 (.agg #[.int .u8 1, .int .i64 1, .int .u8 2, .int .i64 2, .int .u8 4, .int .i64 3, .int .u8 8, .int .i64 4, .int .u8 16, .int .i64 5, .int .u8 32, .int .i64 7, .int .u8 64, .int .i64 8, .int .u8 128, .int .i64 9]) (.int .i64 5)).run Tryd.prog w = .ok (.agg #[.int .u8 32, .int .i64 7]) w := by kernel_rfl
@[go_sem high] theorem idx_6 (w : World) : (Instr.index 62 (.agg #[.int .u8 1, .int .i64 1, .int .u8 2, .int .i64 2, .int .u8 4, .int .i64 3, .int .u8 8, .int .i64 4, .int .u8 16, .int .i64 5, .int .u8 32, .int .i64 7, .int .u8 64, .int .i64 8, .int .u8 128, .int .i64 9]) (.int .i64 6)).run Tryd.prog w = .ok (.agg #[.int .u8 64, .int .i64 8]) w := by kernel_rfl
@[go_sem high] theorem idx_7 (w : World) : (Instr.index 62 (.agg #[.int .u8 1, .int .i64 1, .int .u8 2, .int .i64 2, .int .u8 4, .int .i64 3, .int .u8 8, .int .i64 4, .int .u8 16, .int .i64 5, .int .u8 32, .int .i64 7, .int .u8 64, .int .i64 8, .int .u8 128, .int .i64 9]) (.int .i64 7)).run Tryd.prog w = .ok (.agg #[.int .u8 128, .int .i64 9]) w := by kernel_rfl
def Mk (w : World) : Prop := ∃ t fr, w.heap[0]? = some (.cells marksA t fr)
theorem Mk.lt {w : World} (h : Mk w) : 0 < w.heap.size := by obtain ⟨t, fr, h⟩ := h; exact (Array.getElem?_eq_some_iff.1 h).1
theorem Mk.cell {w : World} (h : Mk w) (o : Nat) : w.cell? ⟨0, o, none⟩ = marksA[o]? := by obtain ⟨t, fr, h⟩ := h; exact cell_of_row w _ o marksA t fr h
theorem Mk.below {w w' : World} (h : Mk w) (hb : Below w.heap.size w w') : Mk w' := by
  have hl := h.lt
  obtain ⟨t, fr, h⟩ := h
  exact ⟨t, fr, (hb.block _ hl).trans h⟩
def ms : List (Int × Int) := [(1, 1), (2, 2), (4, 3), (8, 4), (16, 5), (32, 7), (64, 8), (128, 9)]
def flagStep (n f : Int) (m : Int × Int) : Int := if n = m.2 then bits .or .u8 f m.1 else if n = m.2 + 20 ∧ bits .and .u8 m.1 3 = 0 then bits .andNot .u8 f m.1 else f
def flagsK (n f : Int) (k : Nat) : Int := (ms.take k).foldl (flagStep n) f
def oneN (p : Pn) (g : List Int) (n : Int) : Pn := ⟨colorG p.f g (n - 30), colorG p.b g (n - 40), flagsK n (if n = 22 then bits .andNot .u8 p.x 3 else p.x) 8⟩
set_option maxHeartbeats 4000000 in
theorem one_zero (p : Pn) (v : Value) (g : List Int) (w : World) (h : Rd w .i64 v g) (h0 : 0 < g.length) (hn : g.getD 0 0 ≤ 0) : Calls Tryd.prog 32 #[.agg p.a, v] w fun e w' => e = .returned (.agg (Pn.mk coZ coZ 0).a) ∧ Below w.heap.size w w' := by
  obtain ⟨b, off, cap, rfl, hbl, c0, _⟩ := cells01 h h0
  clear h
  generalize g.getD 0 0 = n at *
  go_enter Tryd.func32, Tryd.ntmps32
  go_wp2_with fail
  refine ret_row (n := 11) rfl rfl Tryd.underlying27 rfl (by kernel_rfl) rfl ⟨_, by simp (maxDischargeDepth := 6) [go_sem] <;> rfl, rfl, ?_⟩
  exact ⟨rfl, (by repeat (first | with_reducible exact Below.refl _ _ | with_reducible assumption | with_reducible exact GW.grow _ | with_reducible refine bl_alloc ?_ _ | with_reducible refine Below.drew ?_ | (with_reducible refine Below.setCell ?_ ?_ _; rotate_left; focus (simp; first | done | omega)) | with_reducible refine bl_trans ?_ (GW.grow _) | (with_reducible refine bl_trans ?_ (by assumption))))⟩
set_option maxHeartbeats 8000000 in
set_option maxRecDepth 100000 in
theorem one_at (p : Pn) (v : Value) (g : List Int) (n : Int) (w : World) (hm : Mk w) (h : Rd w .i64 v g) (h0 : 0 < g.length) (hn : 1 ≤ n ∧ n ≤ 9999) (hg : g.getD 0 0 = n) : Calls Tryd.prog 32 #[.agg p.a, v] w fun e w' => e = .returned (.agg (oneN p g n).a) ∧ Below w.heap.size w w' := by
  obtain ⟨b, off, cap, rfl, hbl, c00, _⟩ := cells01 h h0
  obtain ⟨f, bk, x⟩ := p
  have cF : ∀ W, Below w.heap.size w W → Calls Tryd.prog 40 #[.agg f.a, .slice (some ⟨b, off, none⟩) g.length cap, .int .i64 30] W fun e w' => e = .returned (.agg (colorG f g (n - 30)).a) ∧ Below W.heap.size W w' := fun W hW => colored_at f _ g 30 (n - 30) W (h.below hW) h0 (by omega) (by omega) (by omega)
  have cB : ∀ W, Below w.heap.size w W → Calls Tryd.prog 40 #[.agg bk.a, .slice (some ⟨b, off, none⟩) g.length cap, .int .i64 40] W fun e w' => e = .returned (.agg (colorG bk g (n - 40)).a) ∧ Below W.heap.size W w' := fun W hW => colored_at bk _ g 40 (n - 40) W (h.below hW) h0 (by omega) (by omega) (by omega)
  rw [hg] at c00
  have HQ : Hid (oneN ⟨f, bk, x⟩ g n = ⟨colorG f g (n - 30), colorG bk g (n - 40), flagsK n (if n = 22 then bits .andNot .u8 x 3 else x) 8⟩) := Lib.hid rfl
  clear h hg
  generalize oneN ⟨f, bk, x⟩ g n = q at *
  generalize colorG f g (n - 30) = qf at *
  generalize colorG bk g (n - 40) = qb at *
  obtain ⟨hn1, hn2⟩ := hn
  have hmb := hm
  have hmc := hm.cell
  have hml := hm.lt
  by_cases h22 : n = 22
  · subst h22
    rw [if_pos rfl] at HQ
    go_enter Tryd.func32, Tryd.ntmps32
    go_wp2_with fail
    refine wp_name (fun Z => Below w.heap.size w Z ∧ Box Z w.heap.size #[.int .i64 f.k, .int .u8 f.i, .int .u8 f.r, .int .u8 f.g, .int .u8 f.b, .int .i64 bk.k, .int .u8 bk.i, .int .u8 bk.r, .int .u8 bk.g, .int .u8 bk.b, .int .u8 (bits .andNot .u8 x 3)] 27 ∧ Box Z (w.heap.size + 1) #[.int .i64 0, .int .u8 0, .int .u8 0, .int .u8 0, .int .u8 0, .int .i64 0, .int .u8 0, .int .u8 0, .int .u8 0, .int .u8 0, .int .u8 0] 27) ⟨(by repeat (first | with_reducible exact Below.refl _ _ | with_reducible assumption | with_reducible exact GW.grow _ | with_reducible refine bl_alloc ?_ _ | with_reducible refine Below.drew ?_ | (with_reducible refine Below.setCell ?_ ?_ _; rotate_left; focus (simp; first | done | omega)) | with_reducible refine bl_trans ?_ (GW.grow _) | (with_reducible refine bl_trans ?_ (by assumption)))), (by first | with_reducible assumption | (apply Box.as; (focus (repeat (first | with_reducible assumption | (with_reducible apply Box.new; simp; done) | with_reducible apply Box.gw | with_reducible apply Box.drew | with_reducible apply Box.alloc | with_reducible apply Box.set | (with_reducible apply Box.set_other; case hg => omega)))); rfl)), (by first | with_reducible assumption | (apply Box.as; (focus (repeat (first | with_reducible assumption | (with_reducible apply Box.new; simp; done) | with_reducible apply Box.gw | with_reducible apply Box.drew | with_reducible apply Box.alloc | with_reducible apply Box.set | (with_reducible apply Box.set_other; case hg => omega)))); rfl))⟩ ?_
    rintro W0 ⟨hW0, xP, xR⟩
    obtain ⟨f0, hf0⟩ : ∃ f0, f0 = (bits .andNot .u8 x 3) := ⟨_, rfl⟩
    rw [← hf0] at xP HQ
    clear hf0
    go_loopw [23] (fun i wr => ∃ k : Nat, k ≤ 8 ∧ i = .int .i64 k ∧ Below w.heap.size w wr ∧ Box wr w.heap.size #[.int .i64 f.k, .int .u8 f.i, .int .u8 f.r, .int .u8 f.g, .int .u8 f.b, .int .i64 bk.k, .int .u8 bk.i, .int .u8 bk.r, .int .u8 bk.g, .int .u8 bk.b, .int .u8 (flagsK 22 f0 k)] 27 ∧ Box wr (w.heap.size + 1) #[.int .i64 0, .int .u8 0, .int .u8 0, .int .u8 0, .int .u8 0, .int .i64 0, .int .u8 0, .int .u8 0, .int .u8 0, .int .u8 0, .int .u8 0] 27) (fun i _ => 8 - (intOf i).toNat)
    case atStart => exact ⟨0, by omega, rfl, hW0, xP, xR⟩
    case round =>
      obtain ⟨k, hk, rfl, hbel, yP, yR⟩ := hrel
      clear xP xR hW0 hmc hml hmb
      have yl := yP.lt
      have yl2 := yR.lt
      have c0 := (hbel.cell (p := ⟨b, off, none⟩) hbl).trans c00
      have hbw : b < wr.heap.size := Nat.lt_of_lt_of_le hbl hbel.size
      have hbp : b ≠ w.heap.size := by omega
      have hcs : k = 0 ∨ k = 1 ∨ k = 2 ∨ k = 3 ∨ k = 4 ∨ k = 5 ∨ k = 6 ∨ k = 7 ∨ k = 8 := by omega
      clear hk
      rcases hcs with rfl | rfl | rfl | rfl | rfl | rfl | rfl | rfl | rfl
      · have HF := Lib.hid (show flagsK 22 f0 1 = flagStep 22 (flagsK 22 f0 0) (1, 1) from rfl)
        generalize flagsK 22 f0 0 = fk at *
        have yc := yP.cell
        have yf := yP.free
        have yc2 := yR.cell
        have yf2 := yR.free
        go_wp2_with fail
        go_quiet (fail)
        go_wp2_with fail
        go_quiet (fail)
        go_wp2_with fail
        have HE : flagsK 22 f0 1 = fk := by
          rw [HF.out]
          rfl
        go_roundw
        case rel => first | exact ⟨1, by omega, (by first | rfl | go_num), (by repeat (first | with_reducible exact Below.refl _ _ | with_reducible assumption | with_reducible exact GW.grow _ | with_reducible refine bl_alloc ?_ _ | with_reducible refine Below.drewN ?_ _ | with_reducible refine Below.drew ?_ | (with_reducible refine Below.setCell ?_ ?_ _; rotate_left; focus (simp; first | done | omega)) | with_reducible refine bl_trans ?_ (GW.grow _) | (with_reducible refine bl_trans ?_ (by assumption)))), (by rw [HE]; exact (by first | with_reducible assumption | (apply Box.as; (focus (repeat (first | with_reducible assumption | (with_reducible apply Box.new; simp; done) | with_reducible apply Box.gw | with_reducible apply Box.drewN | with_reducible apply Box.drew | with_reducible apply Box.alloc | with_reducible apply Box.set | (with_reducible apply Box.set_other; case hg => omega)))); rfl))), (by first | with_reducible assumption | (apply Box.as; (focus (repeat (first | with_reducible assumption | (with_reducible apply Box.new; simp; done) | with_reducible apply Box.gw | with_reducible apply Box.drewN | with_reducible apply Box.drew | with_reducible apply Box.alloc | with_reducible apply Box.set | (with_reducible apply Box.set_other; case hg => omega)))); rfl))⟩ | ((repeat apply Exists.intro); exact ⟨⟨1, by omega, (by first | rfl | go_num), (by repeat (first | with_reducible exact Below.refl _ _ | with_reducible assumption | with_reducible exact GW.grow _ | with_reducible refine bl_alloc ?_ _ | with_reducible refine Below.drewN ?_ _ | with_reducible refine Below.drew ?_ | (with_reducible refine Below.setCell ?_ ?_ _; rotate_left; focus (simp; first | done | omega)) | with_reducible refine bl_trans ?_ (GW.grow _) | (with_reducible refine bl_trans ?_ (by assumption)))), (by rw [HE]; exact (by first | with_reducible assumption | (apply Box.as; (focus (repeat (first | with_reducible assumption | (with_reducible apply Box.new; simp; done) | with_reducible apply Box.gw | with_reducible apply Box.drewN | with_reducible apply Box.drew | with_reducible apply Box.alloc | with_reducible apply Box.set | (with_reducible apply Box.set_other; case hg => omega)))); rfl))), (by first | with_reducible assumption | (apply Box.as; (focus (repeat (first | with_reducible assumption | (with_reducible apply Box.new; simp; done) | with_reducible apply Box.gw | with_reducible apply Box.drewN | with_reducible apply Box.drew | with_reducible apply Box.alloc | with_reducible apply Box.set | (with_reducible apply Box.set_other; case hg => omega)))); rfl))⟩, rfl⟩)
        case measure => simp [intOf]
      · have HF := Lib.hid (show flagsK 22 f0 2 = flagStep 22 (flagsK 22 f0 1) (2, 2) from rfl)
        generalize flagsK 22 f0 1 = fk at *
        have yc := yP.cell
        have yf := yP.free
        have yc2 := yR.cell
        have yf2 := yR.free
        have hb3 : bits .and .u8 2 3 = 2 := by decide
        go_wp2_with fail
        go_quiet (fail)
        go_wp2_with fail
        go_quiet (fail)
        go_wp2_with fail
        have HE : flagsK 22 f0 2 = fk := by
          rw [HF.out]
          rfl
        go_roundw
        case rel => first | exact ⟨2, by omega, (by first | rfl | go_num), (by repeat (first | with_reducible exact Below.refl _ _ | with_reducible assumption | with_reducible exact GW.grow _ | with_reducible refine bl_alloc ?_ _ | with_reducible refine Below.drewN ?_ _ | with_reducible refine Below.drew ?_ | (with_reducible refine Below.setCell ?_ ?_ _; rotate_left; focus (simp; first | done | omega)) | with_reducible refine bl_trans ?_ (GW.grow _) | (with_reducible refine bl_trans ?_ (by assumption)))), (by rw [HE]; exact (by first | with_reducible assumption | (apply Box.as; (focus (repeat (first | with_reducible assumption | (with_reducible apply Box.new; simp; done) | with_reducible apply Box.gw | with_reducible apply Box.drewN | with_reducible apply Box.drew | with_reducible apply Box.alloc | with_reducible apply Box.set | (with_reducible apply Box.set_other; case hg => omega)))); rfl))), (by first | with_reducible assumption | (apply Box.as; (focus (repeat (first | with_reducible assumption | (with_reducible apply Box.new; simp; done) | with_reducible apply Box.gw | with_reducible apply Box.drewN | with_reducible apply Box.drew | with_reducible apply Box.alloc | with_reducible apply Box.set | (with_reducible apply Box.set_other; case hg => omega)))); rfl))⟩ | ((repeat apply Exists.intro); exact ⟨⟨2, by omega, (by first | rfl | go_num), (by repeat (first | with_reducible exact Below.refl _ _ | with_reducible assumption | with_reducible exact GW.grow _ | with_reducible refine bl_alloc ?_ _ | with_reducible refine Below.drewN ?_ _ | with_reducible refine Below.drew ?_ | (with_reducible refine Below.setCell ?_ ?_ _; rotate_left; focus (simp; first | done | omega)) | with_reducible refine bl_trans ?_ (GW.grow _) | (with_reducible refine bl_trans ?_ (by assumption)))), (by rw [HE]; exact (by first | with_reducible assumption | (apply Box.as; (focus (repeat (first | with_reducible assumption | (with_reducible apply Box.new; simp; done) | with_reducible apply Box.gw | with_reducible apply Box.drewN | with_reducible apply Box.drew | with_reducible apply Box.alloc | with_reducible apply Box.set | (with_reducible apply Box.set_other; case hg => omega)))); rfl))), (by first | with_reducible assumption | (apply Box.as; (focus (repeat (first | with_reducible assumption | (with_reducible apply Box.new; simp; done) | with_reducible apply Box.gw | with_reducible apply Box.drewN | with_reducible apply Box.drew | with_reducible apply Box.alloc | with_reducible apply Box.set | (with_reducible apply Box.set_other; case hg => omega)))); rfl))⟩, rfl⟩)
        case measure => simp [intOf]
      · have HF := Lib.hid (show flagsK 22 f0 3 = flagStep 22 (flagsK 22 f0 2) (4, 3) from rfl)
        generalize flagsK 22 f0 2 = fk at *
        have yc := yP.cell
        have yf := yP.free
        have yc2 := yR.cell
        have yf2 := yR.free
        go_wp2_with fail
        go_quiet (fail)
        go_wp2_with fail
        go_quiet (fail)
        go_wp2_with fail
        have HE : flagsK 22 f0 3 = fk := by
          rw [HF.out]
          rfl
        go_roundw
        case rel => first | exact ⟨3, by omega, (by first | rfl | go_num), (by repeat (first | with_reducible exact Below.refl _ _ | with_reducible assumption | with_reducible exact GW.grow _ | with_reducible refine bl_alloc ?_ _ | with_reducible refine Below.drewN ?_ _ | with_reducible refine Below.drew ?_ | (with_reducible refine Below.setCell ?_ ?_ _; rotate_left; focus (simp; first | done | omega)) | with_reducible refine bl_trans ?_ (GW.grow _) | (with_reducible refine bl_trans ?_ (by assumption)))), (by rw [HE]; exact (by first | with_reducible assumption | (apply Box.as; (focus (repeat (first | with_reducible assumption | (with_reducible apply Box.new; simp; done) | with_reducible apply Box.gw | with_reducible apply Box.drewN | with_reducible apply Box.drew | with_reducible apply Box.alloc | with_reducible apply Box.set | (with_reducible apply Box.set_other; case hg => omega)))); rfl))), (by first | with_reducible assumption | (apply Box.as; (focus (repeat (first | with_reducible assumption | (with_reducible apply Box.new; simp; done) | with_reducible apply Box.gw | with_reducible apply Box.drewN | with_reducible apply Box.drew | with_reducible apply Box.alloc | with_reducible apply Box.set | (with_reducible apply Box.set_other; case hg => omega)))); rfl))⟩ | ((repeat apply Exists.intro); exact ⟨⟨3, by omega, (by first | rfl | go_num), (by repeat (first | with_reducible exact Below.refl _ _ | with_reducible assumption | with_reducible exact GW.grow _ | with_reducible refine bl_alloc ?_ _ | with_reducible refine Below.drewN ?_ _ | with_reducible refine Below.drew ?_ | (with_reducible refine Below.setCell ?_ ?_ _; rotate_left; focus (simp; first | done | omega)) | with_reducible refine bl_trans ?_ (GW.grow _) | (with_reducible refine bl_trans ?_ (by assumption)))), (by rw [HE]; exact (by first | with_reducible assumption | (apply Box.as; (focus (repeat (first | with_reducible assumption | (with_reducible apply Box.new; simp; done) | with_reducible apply Box.gw | with_reducible apply Box.drewN | with_reducible apply Box.drew | with_reducible apply Box.alloc | with_reducible apply Box.set | (with_reducible apply Box.set_other; case hg => omega)))); rfl))), (by first | with_reducible assumption | (apply Box.as; (focus (repeat (first | with_reducible assumption | (with_reducible apply Box.new; simp; done) | with_reducible apply Box.gw | with_reducible apply Box.drewN | with_reducible apply Box.drew | with_reducible apply Box.alloc | with_reducible apply Box.set | (with_reducible apply Box.set_other; case hg => omega)))); rfl))⟩, rfl⟩)
        case measure => simp [intOf]
      · have HF := Lib.hid (show flagsK 22 f0 4 = flagStep 22 (flagsK 22 f0 3) (8, 4) from rfl)
        generalize flagsK 22 f0 3 = fk at *
        have yc := yP.cell
        have yf := yP.free
        have yc2 := yR.cell
        have yf2 := yR.free
        go_wp2_with fail
        go_quiet (fail)
        go_wp2_with fail
        go_quiet (fail)
        go_wp2_with fail
        have HE : flagsK 22 f0 4 = fk := by
          rw [HF.out]
          rfl
        go_roundw
        case rel => first | exact ⟨4, by omega, (by first | rfl | go_num), (by repeat (first | with_reducible exact Below.refl _ _ | with_reducible assumption | with_reducible exact GW.grow _ | with_reducible refine bl_alloc ?_ _ | with_reducible refine Below.drewN ?_ _ | with_reducible refine Below.drew ?_ | (with_reducible refine Below.setCell ?_ ?_ _; rotate_left; focus (simp; first | done | omega)) | with_reducible refine bl_trans ?_ (GW.grow _) | (with_reducible refine bl_trans ?_ (by assumption)))), (by rw [HE]; exact (by first | with_reducible assumption | (apply Box.as; (focus (repeat (first | with_reducible assumption | (with_reducible apply Box.new; simp; done) | with_reducible apply Box.gw | with_reducible apply Box.drewN | with_reducible apply Box.drew | with_reducible apply Box.alloc | with_reducible apply Box.set | (with_reducible apply Box.set_other; case hg => omega)))); rfl))), (by first | with_reducible assumption | (apply Box.as; (focus (repeat (first | with_reducible assumption | (with_reducible apply Box.new; simp; done) | with_reducible apply Box.gw | with_reducible apply Box.drewN | with_reducible apply Box.drew | with_reducible apply Box.alloc | with_reducible apply Box.set | (with_reducible apply Box.set_other; case hg => omega)))); rfl))⟩ | ((repeat apply Exists.intro); exact ⟨⟨4, by omega, (by first | rfl | go_num), (by repeat (first | with_reducible exact Below.refl _ _ | with_reducible assumption | with_reducible exact GW.grow _ | with_reducible refine bl_alloc ?_ _ | with_reducible refine Below.drewN ?_ _ | with_reducible refine Below.drew ?_ | (with_reducible refine Below.setCell ?_ ?_ _; rotate_left; focus (simp; first | done | omega)) | with_reducible refine bl_trans ?_ (GW.grow _) | (with_reducible refine bl_trans ?_ (by assumption)))), (by rw [HE]; exact (by first | with_reducible assumption | (apply Box.as; (focus (repeat (first | with_reducible assumption | (with_reducible apply Box.new; simp; done) | with_reducible apply Box.gw | with_reducible apply Box.drewN | with_reducible apply Box.drew | with_reducible apply Box.alloc | with_reducible apply Box.set | (with_reducible apply Box.set_other; case hg => omega)))); rfl))), (by first | with_reducible assumption | (apply Box.as; (focus (repeat (first | with_reducible assumption | (with_reducible apply Box.new; simp; done) | with_reducible apply Box.gw | with_reducible apply Box.drewN | with_reducible apply Box.drew | with_reducible apply Box.alloc | with_reducible apply Box.set | (with_reducible apply Box.set_other; case hg => omega)))); rfl))⟩, rfl⟩)
        case measure => simp [intOf]
      · have HF := Lib.hid (show flagsK 22 f0 5 = flagStep 22 (flagsK 22 f0 4) (16, 5) from rfl)
        generalize flagsK 22 f0 4 = fk at *
        have yc := yP.cell
        have yf := yP.free
        have yc2 := yR.cell
        have yf2 := yR.free
        go_wp2_with fail
        go_quiet (fail)
        go_wp2_with fail
        go_quiet (fail)
        go_wp2_with fail
        have HE : flagsK 22 f0 5 = fk := by
          rw [HF.out]
          rfl
        go_roundw
        case rel => first | exact ⟨5, by omega, (by first | rfl | go_num), (by repeat (first | with_reducible exact Below.refl _ _ | with_reducible assumption | with_reducible exact GW.grow _ | with_reducible refine bl_alloc ?_ _ | with_reducible refine Below.drewN ?_ _ | with_reducible refine Below.drew ?_ | (with_reducible refine Below.setCell ?_ ?_ _; rotate_left; focus (simp; first | done | omega)) | with_reducible refine bl_trans ?_ (GW.grow _) | (with_reducible refine bl_trans ?_ (by assumption)))), (by rw [HE]; exact (by first | with_reducible assumption | (apply Box.as; (focus (repeat (first | with_reducible assumption | (with_reducible apply Box.new; simp; done) | with_reducible apply Box.gw | with_reducible apply Box.drewN | with_reducible apply Box.drew | with_reducible apply Box.alloc | with_reducible apply Box.set | (with_reducible apply Box.set_other; case hg => omega)))); rfl))), (by first | with_reducible assumption | (apply Box.as; (focus (repeat (first | with_reducible assumption | (with_reducible apply Box.new; simp; done) | with_reducible apply Box.gw | with_reducible apply Box.drewN | with_reducible apply Box.drew | with_reducible apply Box.alloc | with_reducible apply Box.set | (with_reducible apply Box.set_other; case hg => omega)))); rfl))⟩ | ((repeat apply Exists.intro); exact ⟨⟨5, by omega, (by first | rfl | go_num), (by repeat (first | with_reducible exact Below.refl _ _ | with_reducible assumption | with_reducible exact GW.grow _ | with_reducible refine bl_alloc ?_ _ | with_reducible refine Below.drewN ?_ _ | with_reducible refine Below.drew ?_ | (with_reducible refine Below.setCell ?_ ?_ _; rotate_left; focus (simp; first | done | omega)) | with_reducible refine bl_trans ?_ (GW.grow _) | (with_reducible refine bl_trans ?_ (by assumption)))), (by rw [HE]; exact (by first | with_reducible assumption | (apply Box.as; (focus (repeat (first | with_reducible assumption | (with_reducible apply Box.new; simp; done) | with_reducible apply Box.gw | with_reducible apply Box.drewN | with_reducible apply Box.drew | with_reducible apply Box.alloc | with_reducible apply Box.set | (with_reducible apply Box.set_other; case hg => omega)))); rfl))), (by first | with_reducible assumption | (apply Box.as; (focus (repeat (first | with_reducible assumption | (with_reducible apply Box.new; simp; done) | with_reducible apply Box.gw | with_reducible apply Box.drewN | with_reducible apply Box.drew | with_reducible apply Box.alloc | with_reducible apply Box.set | (with_reducible apply Box.set_other; case hg => omega)))); rfl))⟩, rfl⟩)
        case measure => simp [intOf]
      · have HF := Lib.hid (show flagsK 22 f0 6 = flagStep 22 (flagsK 22 f0 5) (32, 7) from rfl)
        generalize flagsK 22 f0 5 = fk at *
        have yc := yP.cell
        have yf := yP.free
        have yc2 := yR.cell
        have yf2 := yR.free
        go_wp2_with fail
        go_quiet (fail)
        go_wp2_with fail
        go_quiet (fail)
        go_wp2_with fail
        have HE : flagsK 22 f0 6 = fk := by
          rw [HF.out]
          rfl
        go_roundw
        case rel => first | exact ⟨6, by omega, (by first | rfl | go_num), (by repeat (first | with_reducible exact Below.refl _ _ | with_reducible assumption | with_reducible exact GW.grow _ | with_reducible refine bl_alloc ?_ _ | with_reducible refine Below.drewN ?_ _ | with_reducible refine Below.drew ?_ | (with_reducible refine Below.setCell ?_ ?_ _; rotate_left; focus (simp; first | done | omega)) | with_reducible refine bl_trans ?_ (GW.grow _) | (with_reducible refine bl_trans ?_ (by assumption)))), (by rw [HE]; exact (by first | with_reducible assumption | (apply Box.as; (focus (repeat (first | with_reducible assumption | (with_reducible apply Box.new; simp; done) | with_reducible apply Box.gw | with_reducible apply Box.drewN | with_reducible apply Box.drew | with_reducible apply Box.alloc | with_reducible apply Box.set | (with_reducible apply Box.set_other; case hg => omega)))); rfl))), (by first | with_reducible assumption | (apply Box.as; (focus (repeat (first | with_reducible assumption | (with_reducible apply Box.new; simp; done) | with_reducible apply Box.gw | with_reducible apply Box.drewN | with_reducible apply Box.drew | with_reducible apply Box.alloc | with_reducible apply Box.set | (with_reducible apply Box.set_other; case hg => omega)))); rfl))⟩ | ((repeat apply Exists.intro); exact ⟨⟨6, by omega, (by first | rfl | go_num), (by repeat (first | with_reducible exact Below.refl _ _ | with_reducible assumption | with_reducible exact GW.grow _ | with_reducible refine bl_alloc ?_ _ | with_reducible refine Below.drewN ?_ _ | with_reducible refine Below.drew ?_ | (with_reducible refine Below.setCell ?_ ?_ _; rotate_left; focus (simp; first | done | omega)) | with_reducible refine bl_trans ?_ (GW.grow _) | (with_reducible refine bl_trans ?_ (by assumption)))), (by rw [HE]; exact (by first | with_reducible assumption | (apply Box.as; (focus (repeat (first | with_reducible assumption | (with_reducible apply Box.new; simp; done) | with_reducible apply Box.gw | with_reducible apply Box.drewN | with_reducible apply Box.drew | with_reducible apply Box.alloc | with_reducible apply Box.set | (with_reducible apply Box.set_other; case hg => omega)))); rfl))), (by first | with_reducible assumption | (apply Box.as; (focus (repeat (first | with_reducible assumption | (with_reducible apply Box.new; simp; done) | with_reducible apply Box.gw | with_reducible apply Box.drewN | with_reducible apply Box.drew | with_reducible apply Box.alloc | with_reducible apply Box.set | (with_reducible apply Box.set_other; case hg => omega)))); rfl))⟩, rfl⟩)
        case measure => simp [intOf]
      · have HF := Lib.hid (show flagsK 22 f0 7 = flagStep 22 (flagsK 22 f0 6) (64, 8) from rfl)
        generalize flagsK 22 f0 6 = fk at *
        have yc := yP.cell
        have yf := yP.free
        have yc2 := yR.cell
        have yf2 := yR.free
        go_wp2_with fail
        go_quiet (fail)
        go_wp2_with fail
        go_quiet (fail)
        go_wp2_with fail
        have HE : flagsK 22 f0 7 = fk := by
          rw [HF.out]
          rfl
        go_roundw
        case rel => first | exact ⟨7, by omega, (by first | rfl | go_num), (by repeat (first | with_reducible exact Below.refl _ _ | with_reducible assumption | with_reducible exact GW.grow _ | with_reducible refine bl_alloc ?_ _ | with_reducible refine Below.drewN ?_ _ | with_reducible refine Below.drew ?_ | (with_reducible refine Below.setCell ?_ ?_ _; rotate_left; focus (simp; first | done | omega)) | with_reducible refine bl_trans ?_ (GW.grow _) | (with_reducible refine bl_trans ?_ (by assumption)))), (by rw [HE]; exact (by first | with_reducible assumption | (apply Box.as; (focus (repeat (first | with_reducible assumption | (with_reducible apply Box.new; simp; done) | with_reducible apply Box.gw | with_reducible apply Box.drewN | with_reducible apply Box.drew | with_reducible apply Box.alloc | with_reducible apply Box.set | (with_reducible apply Box.set_other; case hg => omega)))); rfl))), (by first | with_reducible assumption | (apply Box.as; (focus (repeat (first | with_reducible assumption | (with_reducible apply Box.new; simp; done) | with_reducible apply Box.gw | with_reducible apply Box.drewN | with_reducible apply Box.drew | with_reducible apply Box.alloc | with_reducible apply Box.set | (with_reducible apply Box.set_other; case hg => omega)))); rfl))⟩ | ((repeat apply Exists.intro); exact ⟨⟨7, by omega, (by first | rfl | go_num), (by repeat (first | with_reducible exact Below.refl _ _ | with_reducible assumption | with_reducible exact GW.grow _ | with_reducible refine bl_alloc ?_ _ | with_reducible refine Below.drewN ?_ _ | with_reducible refine Below.drew ?_ | (with_reducible refine Below.setCell ?_ ?_ _; rotate_left; focus (simp; first | done | omega)) | with_reducible refine bl_trans ?_ (GW.grow _) | (with_reducible refine bl_trans ?_ (by assumption)))), (by rw [HE]; exact (by first | with_reducible assumption | (apply Box.as; (focus (repeat (first | with_reducible assumption | (with_reducible apply Box.new; simp; done) | with_reducible apply Box.gw | with_reducible apply Box.drewN | with_reducible apply Box.drew | with_reducible apply Box.alloc | with_reducible apply Box.set | (with_reducible apply Box.set_other; case hg => omega)))); rfl))), (by first | with_reducible assumption | (apply Box.as; (focus (repeat (first | with_reducible assumption | (with_reducible apply Box.new; simp; done) | with_reducible apply Box.gw | with_reducible apply Box.drewN | with_reducible apply Box.drew | with_reducible apply Box.alloc | with_reducible apply Box.set | (with_reducible apply Box.set_other; case hg => omega)))); rfl))⟩, rfl⟩)
        case measure => simp [intOf]
      · have HF := Lib.hid (show flagsK 22 f0 8 = flagStep 22 (flagsK 22 f0 7) (128, 9) from rfl)
        generalize flagsK 22 f0 7 = fk at *
        have yc := yP.cell
        have yf := yP.free
        have yc2 := yR.cell
        have yf2 := yR.free
        go_wp2_with fail
        go_quiet (fail)
        go_wp2_with fail
        go_quiet (fail)
        go_wp2_with fail
        have HE : flagsK 22 f0 8 = fk := by
          rw [HF.out]
          rfl
        go_roundw
        case rel => first | exact ⟨8, by omega, (by first | rfl | go_num), (by repeat (first | with_reducible exact Below.refl _ _ | with_reducible assumption | with_reducible exact GW.grow _ | with_reducible refine bl_alloc ?_ _ | with_reducible refine Below.drewN ?_ _ | with_reducible refine Below.drew ?_ | (with_reducible refine Below.setCell ?_ ?_ _; rotate_left; focus (simp; first | done | omega)) | with_reducible refine bl_trans ?_ (GW.grow _) | (with_reducible refine bl_trans ?_ (by assumption)))), (by rw [HE]; exact (by first | with_reducible assumption | (apply Box.as; (focus (repeat (first | with_reducible assumption | (with_reducible apply Box.new; simp; done) | with_reducible apply Box.gw | with_reducible apply Box.drewN | with_reducible apply Box.drew | with_reducible apply Box.alloc | with_reducible apply Box.set | (with_reducible apply Box.set_other; case hg => omega)))); rfl))), (by first | with_reducible assumption | (apply Box.as; (focus (repeat (first | with_reducible assumption | (with_reducible apply Box.new; simp; done) | with_reducible apply Box.gw | with_reducible apply Box.drewN | with_reducible apply Box.drew | with_reducible apply Box.alloc | with_reducible apply Box.set | (with_reducible apply Box.set_other; case hg => omega)))); rfl))⟩ | ((repeat apply Exists.intro); exact ⟨⟨8, by omega, (by first | rfl | go_num), (by repeat (first | with_reducible exact Below.refl _ _ | with_reducible assumption | with_reducible exact GW.grow _ | with_reducible refine bl_alloc ?_ _ | with_reducible refine Below.drewN ?_ _ | with_reducible refine Below.drew ?_ | (with_reducible refine Below.setCell ?_ ?_ _; rotate_left; focus (simp; first | done | omega)) | with_reducible refine bl_trans ?_ (GW.grow _) | (with_reducible refine bl_trans ?_ (by assumption)))), (by rw [HE]; exact (by first | with_reducible assumption | (apply Box.as; (focus (repeat (first | with_reducible assumption | (with_reducible apply Box.new; simp; done) | with_reducible apply Box.gw | with_reducible apply Box.drewN | with_reducible apply Box.drew | with_reducible apply Box.alloc | with_reducible apply Box.set | (with_reducible apply Box.set_other; case hg => omega)))); rfl))), (by first | with_reducible assumption | (apply Box.as; (focus (repeat (first | with_reducible assumption | (with_reducible apply Box.new; simp; done) | with_reducible apply Box.gw | with_reducible apply Box.drewN | with_reducible apply Box.drew | with_reducible apply Box.alloc | with_reducible apply Box.set | (with_reducible apply Box.set_other; case hg => omega)))); rfl))⟩, rfl⟩)
        case measure => simp [intOf]
      · generalize flagsK 22 f0 8 = fz at *
        have yc := yP.cell
        have yf := yP.free
        have yc2 := yR.cell
        have yf2 := yR.free
        go_wp2_with fail
        have hS : Below wr.heap.size wr wr.drew := (Below.refl _ _).drew
        refine wp_region_late (fun Z => Below wr.heap.size wr Z) [9, 11] (by kernel_rfl) ?_
        refine wpAnyG_pure (v := ?v0) 0 rfl (by kernel_rfl) (by kernel_rfl) (by kernel_rfl) (by kernel_rfl) (fun _ _ _ h => h) (Or.inl ⟨by rfl, ?h0⟩) (fun _ => hS) (fun _ => ?r0)
        case h0 => (intro w _; go_simp; try with_reducible rfl)
        try simp only [Act.put, List.getElem_toArray, List.getElem_cons_zero, List.getElem_cons_succ, List.setIfInBounds_toArray, List.set_cons_zero, List.set_cons_succ]
        refine wpAnyG_load (v := ?v1) 1 rfl (by kernel_rfl) (by kernel_rfl) (by kernel_rfl) (by kernel_rfl) (fun _ _ _ h => h) (Or.inl ⟨by rfl, ?h1⟩) hS (fun _ => ?r1)
        case h1 => (intro Z hZ; obtain ⟨z1, z2⟩ := bcell hZ; go_simp; try with_reducible rfl)
        try simp only [Act.put, List.getElem_toArray, List.getElem_cons_zero, List.getElem_cons_succ, List.setIfInBounds_toArray, List.set_cons_zero, List.set_cons_succ]
        refine wpAnyG_pure (v := ?v2) 2 rfl (by kernel_rfl) (by kernel_rfl) (by kernel_rfl) (by kernel_rfl) (fun _ _ _ h => h) (Or.inl ⟨by rfl, ?h2⟩) (fun _ => hS) (fun _ => ?r2)
        case h2 => (intro w _; go_simp; try with_reducible rfl)
        try simp only [Act.put, List.getElem_toArray, List.getElem_cons_zero, List.getElem_cons_succ, List.setIfInBounds_toArray, List.set_cons_zero, List.set_cons_succ]
        refine wpAnyG_pure (v := ?v4) 4 rfl (by kernel_rfl) (by kernel_rfl) (by kernel_rfl) (by kernel_rfl) (fun _ _ _ h => h) (Or.inl ⟨by rfl, ?h4⟩) (fun _ => hS) (fun _ => ?r4)
        case h4 => (intro w _; go_simp; try with_reducible rfl)
        try simp only [Act.put, List.getElem_toArray, List.getElem_cons_zero, List.getElem_cons_succ, List.setIfInBounds_toArray, List.set_cons_zero, List.set_cons_succ]
        refine wpAnyG_load (v := ?v5) 5 rfl (by kernel_rfl) (by kernel_rfl) (by kernel_rfl) (by kernel_rfl) (fun _ _ _ h => h) (Or.inl ⟨by rfl, ?h5⟩) hS (fun _ => ?r5)
        case h5 => (intro Z hZ; obtain ⟨z1, z2⟩ := bcell hZ; go_simp; try with_reducible rfl)
        try simp only [Act.put, List.getElem_toArray, List.getElem_cons_zero, List.getElem_cons_succ, List.setIfInBounds_toArray, List.set_cons_zero, List.set_cons_succ]
        refine wpAnyG_pure (v := ?v6) 6 rfl (by kernel_rfl) (by kernel_rfl) (by kernel_rfl) (by kernel_rfl) (fun _ _ _ h => h) (Or.inl ⟨by rfl, ?h6⟩) (fun _ => hS) (fun _ => ?r6)
        case h6 => (intro w _; go_simp; try with_reducible rfl)
        try simp only [Act.put, List.getElem_toArray, List.getElem_cons_zero, List.getElem_cons_succ, List.setIfInBounds_toArray, List.set_cons_zero, List.set_cons_succ]
        refine wpAnyG_one 3 rfl (by kernel_rfl) ?_
        refine wpOp_step rfl (fun K hK => ?_)
        go_simp
        with_reducible refine (cF _ hbel.drew).mono ?_
        rintro e w1 ⟨rfl, hb1⟩
        have hcur1 : Below wr.heap.size wr w1 := bl_trans hS hb1
        go_simp
        refine hK _ _ ⟨fun _ => hcur1, ?_⟩
        clear hK K
        try simp only [Act.put, List.getElem_toArray, List.getElem_cons_zero, List.getElem_cons_succ, List.setIfInBounds_toArray, List.set_cons_zero, List.set_cons_succ]
        refine wpAnyG_pure (v := ?v8) 8 rfl (by kernel_rfl) (by kernel_rfl) (by kernel_rfl) (by kernel_rfl) (fun _ _ _ h => h) (Or.inl ⟨by rfl, ?h8⟩) (fun _ => hcur1) (fun _ => ?r8)
        case h8 => (intro w _; go_simp; try with_reducible rfl)
        try simp only [Act.put, List.getElem_toArray, List.getElem_cons_zero, List.getElem_cons_succ, List.setIfInBounds_toArray, List.set_cons_zero, List.set_cons_succ]
        refine wpAnyG_one 7 rfl (by kernel_rfl) ?_
        refine wpOp_step rfl (fun K hK => ?_)
        go_simp
        refine (cB _ (bl_trans hbel hcur1)).mono ?_
        rintro e w2 ⟨rfl, hb2⟩
        have hcur2 : Below wr.heap.size wr w2 := bl_trans hcur1 hb2
        go_simp
        refine hK _ _ ⟨fun _ => hcur2, ?_⟩
        clear hK K
        try simp only [Act.put, List.getElem_toArray, List.getElem_cons_zero, List.getElem_cons_succ, List.setIfInBounds_toArray, List.set_cons_zero, List.set_cons_succ]
        have zP := Box.past hcur2 yP
        have zR := Box.past hcur2 yR
        have zf := zP.free
        have zc := zP.cell
        have zl := zP.lt
        refine wpAnyG_one 9 rfl (by kernel_rfl) ?_
        refine wpOp_step rfl (fun K hK => ?_)
        go_simp
        refine hK _ _ ⟨fun h => absurd (h 9 (by simp)) (by simp), ?_⟩
        clear hK K
        try simp only [Act.put, List.getElem_toArray, List.getElem_cons_zero, List.getElem_cons_succ, List.setIfInBounds_toArray, List.set_cons_zero, List.set_cons_succ]
        refine wpAnyG_one 10 rfl (by kernel_rfl) ?_
        refine wpOp_step rfl (fun K hK => ?_)
        go_simp
        refine hK _ _ ⟨fun h => absurd (h 9 (by simp)) (by simp), ?_⟩
        clear hK K
        try simp only [Act.put, List.getElem_toArray, List.getElem_cons_zero, List.getElem_cons_succ, List.setIfInBounds_toArray, List.set_cons_zero, List.set_cons_succ]
        refine wpAnyG_one 11 rfl (by kernel_rfl) ?_
        refine wpOp_step rfl (fun K hK => ?_)
        go_simp
        refine hK _ _ ⟨fun h => absurd (h 9 (by simp)) (by simp), ?_⟩
        clear hK K
        try simp only [Act.put, List.getElem_toArray, List.getElem_cons_zero, List.getElem_cons_succ, List.setIfInBounds_toArray, List.set_cons_zero, List.set_cons_succ]
        refine wpAnyG_done (by kernel_rfl) ?_ _
        refine then_name (fun Z => Box Z w.heap.size #[.int .i64 qf.k, .int .u8 qf.i, .int .u8 qf.r, .int .u8 qf.g, .int .u8 qf.b, .int .i64 qb.k, .int .u8 qb.i, .int .u8 qb.r, .int .u8 qb.g, .int .u8 qb.b, .int .u8 fz] 27 ∧ Box Z (w.heap.size + 1) #[.int .i64 0, .int .u8 0, .int .u8 0, .int .u8 0, .int .u8 0, .int .i64 0, .int .u8 0, .int .u8 0, .int .u8 0, .int .u8 0, .int .u8 0] 27 ∧ Below w.heap.size w Z) ⟨setc10 zP _ _ _ _ _ _ _ _ _ _, Box.bar zR (barc10 _ _ _ _ _ _ _ _ _ _ _ _) (by omega), Bar.to_below (bl_trans hbel hcur2) (barc10 _ _ _ _ _ _ _ _ _ _ _ _) (Nat.le_refl _)⟩ ?_
        rintro W9 ⟨vP, vR, hW9⟩
        clear zP zR zf zc zl yc yf yc2 yf2 yP yR yl yl2
        have vc := vP.cell
        have vl := vP.lt
        have vc2 := vR.cell
        have vf2 := vR.free
        have vl2 := vR.lt
        go_wp2_with fail
        have xE := setc11 vR (.int .i64 qf.k) (.int .u8 qf.i) (.int .u8 qf.r) (.int .u8 qf.g) (.int .u8 qf.b) (.int .i64 qb.k) (.int .u8 qb.i) (.int .u8 qb.r) (.int .u8 qb.g) (.int .u8 qb.b) (.int .u8 fz)
        have xl := xE.lt
        refine ret_row (n := 11) rfl rfl Tryd.underlying27 rfl (by kernel_rfl) rfl ⟨_, by simp (maxDischargeDepth := 6) [go_sem, Box.row xE, xl] <;> rfl, rfl, ?_⟩
        exact ⟨by rw [HQ.out], Bar.to_below hW9 (barc11 _ _ _ _ _ _ _ _ _ _ _ _ _) (by omega)⟩
  · rw [if_neg h22] at HQ
    have n22 : (n == 22) = false := by rw [beq_eq_false_iff_ne]; exact h22
    have H22 := Lib.hid h22
    clear h22
    go_enter Tryd.func32, Tryd.ntmps32
    go_wp2_with fail
    refine wp_name (fun Z => Below w.heap.size w Z ∧ Box Z w.heap.size #[.int .i64 f.k, .int .u8 f.i, .int .u8 f.r, .int .u8 f.g, .int .u8 f.b, .int .i64 bk.k, .int .u8 bk.i, .int .u8 bk.r, .int .u8 bk.g, .int .u8 bk.b, .int .u8 x] 27 ∧ Box Z (w.heap.size + 1) #[.int .i64 0, .int .u8 0, .int .u8 0, .int .u8 0, .int .u8 0, .int .i64 0, .int .u8 0, .int .u8 0, .int .u8 0, .int .u8 0, .int .u8 0] 27) ⟨(by repeat (first | with_reducible exact Below.refl _ _ | with_reducible assumption | with_reducible exact GW.grow _ | with_reducible refine bl_alloc ?_ _ | with_reducible refine Below.drew ?_ | (with_reducible refine Below.setCell ?_ ?_ _; rotate_left; focus (simp; first | done | omega)) | with_reducible refine bl_trans ?_ (GW.grow _) | (with_reducible refine bl_trans ?_ (by assumption)))), (by first | with_reducible assumption | (apply Box.as; (focus (repeat (first | with_reducible assumption | (with_reducible apply Box.new; simp; done) | with_reducible apply Box.gw | with_reducible apply Box.drew | with_reducible apply Box.alloc | with_reducible apply Box.set | (with_reducible apply Box.set_other; case hg => omega)))); rfl)), (by first | with_reducible assumption | (apply Box.as; (focus (repeat (first | with_reducible assumption | (with_reducible apply Box.new; simp; done) | with_reducible apply Box.gw | with_reducible apply Box.drew | with_reducible apply Box.alloc | with_reducible apply Box.set | (with_reducible apply Box.set_other; case hg => omega)))); rfl))⟩ ?_
    rintro W0 ⟨hW0, xP, xR⟩
    obtain ⟨f0, hf0⟩ : ∃ f0, f0 = x := ⟨_, rfl⟩
    rw [← hf0] at xP HQ
    clear hf0
    go_loopw [23] (fun i wr => ∃ k : Nat, k ≤ 8 ∧ i = .int .i64 k ∧ Below w.heap.size w wr ∧ Box wr w.heap.size #[.int .i64 f.k, .int .u8 f.i, .int .u8 f.r, .int .u8 f.g, .int .u8 f.b, .int .i64 bk.k, .int .u8 bk.i, .int .u8 bk.r, .int .u8 bk.g, .int .u8 bk.b, .int .u8 (flagsK n f0 k)] 27 ∧ Box wr (w.heap.size + 1) #[.int .i64 0, .int .u8 0, .int .u8 0, .int .u8 0, .int .u8 0, .int .i64 0, .int .u8 0, .int .u8 0, .int .u8 0, .int .u8 0, .int .u8 0] 27) (fun i _ => 8 - (intOf i).toNat)
    case atStart => exact ⟨0, by omega, rfl, hW0, xP, xR⟩
    case round =>
      obtain ⟨k, hk, rfl, hbel, yP, yR⟩ := hrel
      clear xP xR hW0 hmc hml hmb
      have yl := yP.lt
      have yl2 := yR.lt
      have c0 := (hbel.cell (p := ⟨b, off, none⟩) hbl).trans c00
      have hbw : b < wr.heap.size := Nat.lt_of_lt_of_le hbl hbel.size
      have hbp : b ≠ w.heap.size := by omega
      have hcs : k = 0 ∨ k = 1 ∨ k = 2 ∨ k = 3 ∨ k = 4 ∨ k = 5 ∨ k = 6 ∨ k = 7 ∨ k = 8 := by omega
      clear hk
      rcases hcs with rfl | rfl | rfl | rfl | rfl | rfl | rfl | rfl | rfl
      · have HF := Lib.hid (show flagsK n f0 1 = flagStep n (flagsK n f0 0) (1, 1) from rfl)
        generalize flagsK n f0 0 = fk at *
        have yc := yP.cell
        have yf := yP.free
        have yc2 := yR.cell
        have yf2 := yR.free
        by_cases e1 : n = 1
        · subst e1
          go_wp2_with fail
          go_quiet (fail)
          go_wp2_with fail
          have HE : flagsK 1 f0 1 = bits .or .u8 fk 1 := by
            rw [HF.out]
            rfl
          go_roundw
          case rel => first | exact ⟨1, by omega, (by first | rfl | go_num), (by repeat (first | with_reducible exact Below.refl _ _ | with_reducible assumption | with_reducible exact GW.grow _ | with_reducible refine bl_alloc ?_ _ | with_reducible refine Below.drewN ?_ _ | with_reducible refine Below.drew ?_ | (with_reducible refine Below.setCell ?_ ?_ _; rotate_left; focus (simp; first | done | omega)) | with_reducible refine bl_trans ?_ (GW.grow _) | (with_reducible refine bl_trans ?_ (by assumption)))), (by rw [HE]; exact (by first | with_reducible assumption | (apply Box.as; (focus (repeat (first | with_reducible assumption | (with_reducible apply Box.new; simp; done) | with_reducible apply Box.gw | with_reducible apply Box.drewN | with_reducible apply Box.drew | with_reducible apply Box.alloc | with_reducible apply Box.set | (with_reducible apply Box.set_other; case hg => omega)))); rfl))), (by first | with_reducible assumption | (apply Box.as; (focus (repeat (first | with_reducible assumption | (with_reducible apply Box.new; simp; done) | with_reducible apply Box.gw | with_reducible apply Box.drewN | with_reducible apply Box.drew | with_reducible apply Box.alloc | with_reducible apply Box.set | (with_reducible apply Box.set_other; case hg => omega)))); rfl))⟩ | ((repeat apply Exists.intro); exact ⟨⟨1, by omega, (by first | rfl | go_num), (by repeat (first | with_reducible exact Below.refl _ _ | with_reducible assumption | with_reducible exact GW.grow _ | with_reducible refine bl_alloc ?_ _ | with_reducible refine Below.drewN ?_ _ | with_reducible refine Below.drew ?_ | (with_reducible refine Below.setCell ?_ ?_ _; rotate_left; focus (simp; first | done | omega)) | with_reducible refine bl_trans ?_ (GW.grow _) | (with_reducible refine bl_trans ?_ (by assumption)))), (by rw [HE]; exact (by first | with_reducible assumption | (apply Box.as; (focus (repeat (first | with_reducible assumption | (with_reducible apply Box.new; simp; done) | with_reducible apply Box.gw | with_reducible apply Box.drewN | with_reducible apply Box.drew | with_reducible apply Box.alloc | with_reducible apply Box.set | (with_reducible apply Box.set_other; case hg => omega)))); rfl))), (by first | with_reducible assumption | (apply Box.as; (focus (repeat (first | with_reducible assumption | (with_reducible apply Box.new; simp; done) | with_reducible apply Box.gw | with_reducible apply Box.drewN | with_reducible apply Box.drew | with_reducible apply Box.alloc | with_reducible apply Box.set | (with_reducible apply Box.set_other; case hg => omega)))); rfl))⟩, rfl⟩)
          case measure => simp [intOf]
        · by_cases e2 : n = 21
          · subst e2
            have hb3 : bits .and .u8 1 3 = 1 := by decide
            go_wp2_with fail
            go_quiet (fail)
            go_wp2_with fail
            go_quiet (fail)
            go_wp2_with fail
            have HE : flagsK 21 f0 1 = fk := by
              rw [HF.out]
              rfl
            go_roundw
            case rel => first | exact ⟨1, by omega, (by first | rfl | go_num), (by repeat (first | with_reducible exact Below.refl _ _ | with_reducible assumption | with_reducible exact GW.grow _ | with_reducible refine bl_alloc ?_ _ | with_reducible refine Below.drewN ?_ _ | with_reducible refine Below.drew ?_ | (with_reducible refine Below.setCell ?_ ?_ _; rotate_left; focus (simp; first | done | omega)) | with_reducible refine bl_trans ?_ (GW.grow _) | (with_reducible refine bl_trans ?_ (by assumption)))), (by rw [HE]; exact (by first | with_reducible assumption | (apply Box.as; (focus (repeat (first | with_reducible assumption | (with_reducible apply Box.new; simp; done) | with_reducible apply Box.gw | with_reducible apply Box.drewN | with_reducible apply Box.drew | with_reducible apply Box.alloc | with_reducible apply Box.set | (with_reducible apply Box.set_other; case hg => omega)))); rfl))), (by first | with_reducible assumption | (apply Box.as; (focus (repeat (first | with_reducible assumption | (with_reducible apply Box.new; simp; done) | with_reducible apply Box.gw | with_reducible apply Box.drewN | with_reducible apply Box.drew | with_reducible apply Box.alloc | with_reducible apply Box.set | (with_reducible apply Box.set_other; case hg => omega)))); rfl))⟩ | ((repeat apply Exists.intro); exact ⟨⟨1, by omega, (by first | rfl | go_num), (by repeat (first | with_reducible exact Below.refl _ _ | with_reducible assumption | with_reducible exact GW.grow _ | with_reducible refine bl_alloc ?_ _ | with_reducible refine Below.drewN ?_ _ | with_reducible refine Below.drew ?_ | (with_reducible refine Below.setCell ?_ ?_ _; rotate_left; focus (simp; first | done | omega)) | with_reducible refine bl_trans ?_ (GW.grow _) | (with_reducible refine bl_trans ?_ (by assumption)))), (by rw [HE]; exact (by first | with_reducible assumption | (apply Box.as; (focus (repeat (first | with_reducible assumption | (with_reducible apply Box.new; simp; done) | with_reducible apply Box.gw | with_reducible apply Box.drewN | with_reducible apply Box.drew | with_reducible apply Box.alloc | with_reducible apply Box.set | (with_reducible apply Box.set_other; case hg => omega)))); rfl))), (by first | with_reducible assumption | (apply Box.as; (focus (repeat (first | with_reducible assumption | (with_reducible apply Box.new; simp; done) | with_reducible apply Box.gw | with_reducible apply Box.drewN | with_reducible apply Box.drew | with_reducible apply Box.alloc | with_reducible apply Box.set | (with_reducible apply Box.set_other; case hg => omega)))); rfl))⟩, rfl⟩)
            case measure => simp [intOf]
          · have n1 : (n == 1) = false := by rw [beq_eq_false_iff_ne]; exact e1
            have n2 : (n == 21) = false := by rw [beq_eq_false_iff_ne]; exact e2
            have E1 := Lib.hid e1
            have E2 := Lib.hid e2
            clear e1 e2
            go_wp2_with fail
            go_quiet (fail)
            go_wp2_with fail
            go_quiet (fail)
            go_wp2_with fail
            have HE : flagsK n f0 1 = fk := by
              rw [HF.out]
              unfold flagStep; rw [if_neg E1.out, if_neg (fun h => E2.out h.1)]
            go_roundw
            case rel => first | exact ⟨1, by omega, (by first | rfl | go_num), (by repeat (first | with_reducible exact Below.refl _ _ | with_reducible assumption | with_reducible exact GW.grow _ | with_reducible refine bl_alloc ?_ _ | with_reducible refine Below.drewN ?_ _ | with_reducible refine Below.drew ?_ | (with_reducible refine Below.setCell ?_ ?_ _; rotate_left; focus (simp; first | done | omega)) | with_reducible refine bl_trans ?_ (GW.grow _) | (with_reducible refine bl_trans ?_ (by assumption)))), (by rw [HE]; exact (by first | with_reducible assumption | (apply Box.as; (focus (repeat (first | with_reducible assumption | (with_reducible apply Box.new; simp; done) | with_reducible apply Box.gw | with_reducible apply Box.drewN | with_reducible apply Box.drew | with_reducible apply Box.alloc | with_reducible apply Box.set | (with_reducible apply Box.set_other; case hg => omega)))); rfl))), (by first | with_reducible assumption | (apply Box.as; (focus (repeat (first | with_reducible assumption | (with_reducible apply Box.new; simp; done) | with_reducible apply Box.gw | with_reducible apply Box.drewN | with_reducible apply Box.drew | with_reducible apply Box.alloc | with_reducible apply Box.set | (with_reducible apply Box.set_other; case hg => omega)))); rfl))⟩ | ((repeat apply Exists.intro); exact ⟨⟨1, by omega, (by first | rfl | go_num), (by repeat (first | with_reducible exact Below.refl _ _ | with_reducible assumption | with_reducible exact GW.grow _ | with_reducible refine bl_alloc ?_ _ | with_reducible refine Below.drewN ?_ _ | with_reducible refine Below.drew ?_ | (with_reducible refine Below.setCell ?_ ?_ _; rotate_left; focus (simp; first | done | omega)) | with_reducible refine bl_trans ?_ (GW.grow _) | (with_reducible refine bl_trans ?_ (by assumption)))), (by rw [HE]; exact (by first | with_reducible assumption | (apply Box.as; (focus (repeat (first | with_reducible assumption | (with_reducible apply Box.new; simp; done) | with_reducible apply Box.gw | with_reducible apply Box.drewN | with_reducible apply Box.drew | with_reducible apply Box.alloc | with_reducible apply Box.set | (with_reducible apply Box.set_other; case hg => omega)))); rfl))), (by first | with_reducible assumption | (apply Box.as; (focus (repeat (first | with_reducible assumption | (with_reducible apply Box.new; simp; done) | with_reducible apply Box.gw | with_reducible apply Box.drewN | with_reducible apply Box.drew | with_reducible apply Box.alloc | with_reducible apply Box.set | (with_reducible apply Box.set_other; case hg => omega)))); rfl))⟩, rfl⟩)
            case measure => simp [intOf]
      · have HF := Lib.hid (show flagsK n f0 2 = flagStep n (flagsK n f0 1) (2, 2) from rfl)
        generalize flagsK n f0 1 = fk at *
        have yc := yP.cell
        have yf := yP.free
        have yc2 := yR.cell
        have yf2 := yR.free
        by_cases e1 : n = 2
        · subst e1
          go_wp2_with fail
          go_quiet (fail)
          go_wp2_with fail
          have HE : flagsK 2 f0 2 = bits .or .u8 fk 2 := by
            rw [HF.out]
            rfl
          go_roundw
          case rel => first | exact ⟨2, by omega, (by first | rfl | go_num), (by repeat (first | with_reducible exact Below.refl _ _ | with_reducible assumption | with_reducible exact GW.grow _ | with_reducible refine bl_alloc ?_ _ | with_reducible refine Below.drewN ?_ _ | with_reducible refine Below.drew ?_ | (with_reducible refine Below.setCell ?_ ?_ _; rotate_left; focus (simp; first | done | omega)) | with_reducible refine bl_trans ?_ (GW.grow _) | (with_reducible refine bl_trans ?_ (by assumption)))), (by rw [HE]; exact (by first | with_reducible assumption | (apply Box.as; (focus (repeat (first | with_reducible assumption | (with_reducible apply Box.new; simp; done) | with_reducible apply Box.gw | with_reducible apply Box.drewN | with_reducible apply Box.drew | with_reducible apply Box.alloc | with_reducible apply Box.set | (with_reducible apply Box.set_other; case hg => omega)))); rfl))), (by first | with_reducible assumption | (apply Box.as; (focus (repeat (first | with_reducible assumption | (with_reducible apply Box.new; simp; done) | with_reducible apply Box.gw | with_reducible apply Box.drewN | with_reducible apply Box.drew | with_reducible apply Box.alloc | with_reducible apply Box.set | (with_reducible apply Box.set_other; case hg => omega)))); rfl))⟩ | ((repeat apply Exists.intro); exact ⟨⟨2, by omega, (by first | rfl | go_num), (by repeat (first | with_reducible exact Below.refl _ _ | with_reducible assumption | with_reducible exact GW.grow _ | with_reducible refine bl_alloc ?_ _ | with_reducible refine Below.drewN ?_ _ | with_reducible refine Below.drew ?_ | (with_reducible refine Below.setCell ?_ ?_ _; rotate_left; focus (simp; first | done | omega)) | with_reducible refine bl_trans ?_ (GW.grow _) | (with_reducible refine bl_trans ?_ (by assumption)))), (by rw [HE]; exact (by first | with_reducible assumption | (apply Box.as; (focus (repeat (first | with_reducible assumption | (with_reducible apply Box.new; simp; done) | with_reducible apply Box.gw | with_reducible apply Box.drewN | with_reducible apply Box.drew | with_reducible apply Box.alloc | with_reducible apply Box.set | (with_reducible apply Box.set_other; case hg => omega)))); rfl))), (by first | with_reducible assumption | (apply Box.as; (focus (repeat (first | with_reducible assumption | (with_reducible apply Box.new; simp; done) | with_reducible apply Box.gw | with_reducible apply Box.drewN | with_reducible apply Box.drew | with_reducible apply Box.alloc | with_reducible apply Box.set | (with_reducible apply Box.set_other; case hg => omega)))); rfl))⟩, rfl⟩)
          case measure => simp [intOf]
        · have n1 : (n == 2) = false := by rw [beq_eq_false_iff_ne]; exact e1
          have n2 : (n == 22) = false := by rw [beq_eq_false_iff_ne]; exact H22.out
          have E1 := Lib.hid e1
          clear e1
          go_wp2_with fail
          go_quiet (fail)
          go_wp2_with fail
          go_quiet (fail)
          go_wp2_with fail
          have HE : flagsK n f0 2 = fk := by
            rw [HF.out]
            unfold flagStep; rw [if_neg E1.out, if_neg (fun h => H22.out h.1)]
          go_roundw
          case rel => first | exact ⟨2, by omega, (by first | rfl | go_num), (by repeat (first | with_reducible exact Below.refl _ _ | with_reducible assumption | with_reducible exact GW.grow _ | with_reducible refine bl_alloc ?_ _ | with_reducible refine Below.drewN ?_ _ | with_reducible refine Below.drew ?_ | (with_reducible refine Below.setCell ?_ ?_ _; rotate_left; focus (simp; first | done | omega)) | with_reducible refine bl_trans ?_ (GW.grow _) | (with_reducible refine bl_trans ?_ (by assumption)))), (by rw [HE]; exact (by first | with_reducible assumption | (apply Box.as; (focus (repeat (first | with_reducible assumption | (with_reducible apply Box.new; simp; done) | with_reducible apply Box.gw | with_reducible apply Box.drewN | with_reducible apply Box.drew | with_reducible apply Box.alloc | with_reducible apply Box.set | (with_reducible apply Box.set_other; case hg => omega)))); rfl))), (by first | with_reducible assumption | (apply Box.as; (focus (repeat (first | with_reducible assumption | (with_reducible apply Box.new; simp; done) | with_reducible apply Box.gw | with_reducible apply Box.drewN | with_reducible apply Box.drew | with_reducible apply Box.alloc | with_reducible apply Box.set | (with_reducible apply Box.set_other; case hg => omega)))); rfl))⟩ | ((repeat apply Exists.intro); exact ⟨⟨2, by omega, (by first | rfl | go_num), (by repeat (first | with_reducible exact Below.refl _ _ | with_reducible assumption | with_reducible exact GW.grow _ | with_reducible refine bl_alloc ?_ _ | with_reducible refine Below.drewN ?_ _ | with_reducible refine Below.drew ?_ | (with_reducible refine Below.setCell ?_ ?_ _; rotate_left; focus (simp; first | done | omega)) | with_reducible refine bl_trans ?_ (GW.grow _) | (with_reducible refine bl_trans ?_ (by assumption)))), (by rw [HE]; exact (by first | with_reducible assumption | (apply Box.as; (focus (repeat (first | with_reducible assumption | (with_reducible apply Box.new; simp; done) | with_reducible apply Box.gw | with_reducible apply Box.drewN | with_reducible apply Box.drew | with_reducible apply Box.alloc | with_reducible apply Box.set | (with_reducible apply Box.set_other; case hg => omega)))); rfl))), (by first | with_reducible assumption | (apply Box.as; (focus (repeat (first | with_reducible assumption | (with_reducible apply Box.new; simp; done) | with_reducible apply Box.gw | with_reducible apply Box.drewN | with_reducible apply Box.drew | with_reducible apply Box.alloc | with_reducible apply Box.set | (with_reducible apply Box.set_other; case hg => omega)))); rfl))⟩, rfl⟩)
          case measure => simp [intOf]
      · have HF := Lib.hid (show flagsK n f0 3 = flagStep n (flagsK n f0 2) (4, 3) from rfl)
        generalize flagsK n f0 2 = fk at *
        have yc := yP.cell
        have yf := yP.free
        have yc2 := yR.cell
        have yf2 := yR.free
        by_cases e1 : n = 3
        · subst e1
          go_wp2_with fail
          go_quiet (fail)
          go_wp2_with fail
          have HE : flagsK 3 f0 3 = bits .or .u8 fk 4 := by
            rw [HF.out]
            rfl
          go_roundw
          case rel => first | exact ⟨3, by omega, (by first | rfl | go_num), (by repeat (first | with_reducible exact Below.refl _ _ | with_reducible assumption | with_reducible exact GW.grow _ | with_reducible refine bl_alloc ?_ _ | with_reducible refine Below.drewN ?_ _ | with_reducible refine Below.drew ?_ | (with_reducible refine Below.setCell ?_ ?_ _; rotate_left; focus (simp; first | done | omega)) | with_reducible refine bl_trans ?_ (GW.grow _) | (with_reducible refine bl_trans ?_ (by assumption)))), (by rw [HE]; exact (by first | with_reducible assumption | (apply Box.as; (focus (repeat (first | with_reducible assumption | (with_reducible apply Box.new; simp; done) | with_reducible apply Box.gw | with_reducible apply Box.drewN | with_reducible apply Box.drew | with_reducible apply Box.alloc | with_reducible apply Box.set | (with_reducible apply Box.set_other; case hg => omega)))); rfl))), (by first | with_reducible assumption | (apply Box.as; (focus (repeat (first | with_reducible assumption | (with_reducible apply Box.new; simp; done) | with_reducible apply Box.gw | with_reducible apply Box.drewN | with_reducible apply Box.drew | with_reducible apply Box.alloc | with_reducible apply Box.set | (with_reducible apply Box.set_other; case hg => omega)))); rfl))⟩ | ((repeat apply Exists.intro); exact ⟨⟨3, by omega, (by first | rfl | go_num), (by repeat (first | with_reducible exact Below.refl _ _ | with_reducible assumption | with_reducible exact GW.grow _ | with_reducible refine bl_alloc ?_ _ | with_reducible refine Below.drewN ?_ _ | with_reducible refine Below.drew ?_ | (with_reducible refine Below.setCell ?_ ?_ _; rotate_left; focus (simp; first | done | omega)) | with_reducible refine bl_trans ?_ (GW.grow _) | (with_reducible refine bl_trans ?_ (by assumption)))), (by rw [HE]; exact (by first | with_reducible assumption | (apply Box.as; (focus (repeat (first | with_reducible assumption | (with_reducible apply Box.new; simp; done) | with_reducible apply Box.gw | with_reducible apply Box.drewN | with_reducible apply Box.drew | with_reducible apply Box.alloc | with_reducible apply Box.set | (with_reducible apply Box.set_other; case hg => omega)))); rfl))), (by first | with_reducible assumption | (apply Box.as; (focus (repeat (first | with_reducible assumption | (with_reducible apply Box.new; simp; done) | with_reducible apply Box.gw | with_reducible apply Box.drewN | with_reducible apply Box.drew | with_reducible apply Box.alloc | with_reducible apply Box.set | (with_reducible apply Box.set_other; case hg => omega)))); rfl))⟩, rfl⟩)
          case measure => simp [intOf]
        · by_cases e2 : n = 23
          · subst e2
            have hb3 : bits .and .u8 4 3 = 0 := by decide
            go_wp2_with fail
            go_quiet (fail)
            go_wp2_with fail
            go_quiet (fail)
            go_wp2_with fail
            have HE : flagsK 23 f0 3 = bits .andNot .u8 fk 4 := by
              rw [HF.out]
              rfl
            go_roundw
            case rel => first | exact ⟨3, by omega, (by first | rfl | go_num), (by repeat (first | with_reducible exact Below.refl _ _ | with_reducible assumption | with_reducible exact GW.grow _ | with_reducible refine bl_alloc ?_ _ | with_reducible refine Below.drewN ?_ _ | with_reducible refine Below.drew ?_ | (with_reducible refine Below.setCell ?_ ?_ _; rotate_left; focus (simp; first | done | omega)) | with_reducible refine bl_trans ?_ (GW.grow _) | (with_reducible refine bl_trans ?_ (by assumption)))), (by rw [HE]; exact (by first | with_reducible assumption | (apply Box.as; (focus (repeat (first | with_reducible assumption | (with_reducible apply Box.new; simp; done) | with_reducible apply Box.gw | with_reducible apply Box.drewN | with_reducible apply Box.drew | with_reducible apply Box.alloc | with_reducible apply Box.set | (with_reducible apply Box.set_other; case hg => omega)))); rfl))), (by first | with_reducible assumption | (apply Box.as; (focus (repeat (first | with_reducible assumption | (with_reducible apply Box.new; simp; done) | with_reducible apply Box.gw | with_reducible apply Box.drewN | with_reducible apply Box.drew | with_reducible apply Box.alloc | with_reducible apply Box.set | (with_reducible apply Box.set_other; case hg => omega)))); rfl))⟩ | ((repeat apply Exists.intro); exact ⟨⟨3, by omega, (by first | rfl | go_num), (by repeat (first | with_reducible exact Below.refl _ _ | with_reducible assumption | with_reducible exact GW.grow _ | with_reducible refine bl_alloc ?_ _ | with_reducible refine Below.drewN ?_ _ | with_reducible refine Below.drew ?_ | (with_reducible refine Below.setCell ?_ ?_ _; rotate_left; focus (simp; first | done | omega)) | with_reducible refine bl_trans ?_ (GW.grow _) | (with_reducible refine bl_trans ?_ (by assumption)))), (by rw [HE]; exact (by first | with_reducible assumption | (apply Box.as; (focus (repeat (first | with_reducible assumption | (with_reducible apply Box.new; simp; done) | with_reducible apply Box.gw | with_reducible apply Box.drewN | with_reducible apply Box.drew | with_reducible apply Box.alloc | with_reducible apply Box.set | (with_reducible apply Box.set_other; case hg => omega)))); rfl))), (by first | with_reducible assumption | (apply Box.as; (focus (repeat (first | with_reducible assumption | (with_reducible apply Box.new; simp; done) | with_reducible apply Box.gw | with_reducible apply Box.drewN | with_reducible apply Box.drew | with_reducible apply Box.alloc | with_reducible apply Box.set | (with_reducible apply Box.set_other; case hg => omega)))); rfl))⟩, rfl⟩)
            case measure => simp [intOf]
          · have n1 : (n == 3) = false := by rw [beq_eq_false_iff_ne]; exact e1
            have n2 : (n == 23) = false := by rw [beq_eq_false_iff_ne]; exact e2
            have E1 := Lib.hid e1
            have E2 := Lib.hid e2
            clear e1 e2
            go_wp2_with fail
            go_quiet (fail)
            go_wp2_with fail
            go_quiet (fail)
            go_wp2_with fail
            have HE : flagsK n f0 3 = fk := by
              rw [HF.out]
              unfold flagStep; rw [if_neg E1.out, if_neg (fun h => E2.out h.1)]
            go_roundw
            case rel => first | exact ⟨3, by omega, (by first | rfl | go_num), (by repeat (first | with_reducible exact Below.refl _ _ | with_reducible assumption | with_reducible exact GW.grow _ | with_reducible refine bl_alloc ?_ _ | with_reducible refine Below.drewN ?_ _ | with_reducible refine Below.drew ?_ | (with_reducible refine Below.setCell ?_ ?_ _; rotate_left; focus (simp; first | done | omega)) | with_reducible refine bl_trans ?_ (GW.grow _) | (with_reducible refine bl_trans ?_ (by assumption)))), (by rw [HE]; exact (by first | with_reducible assumption | (apply Box.as; (focus (repeat (first | with_reducible assumption | (with_reducible apply Box.new; simp; done) | with_reducible apply Box.gw | with_reducible apply Box.drewN | with_reducible apply Box.drew | with_reducible apply Box.alloc | with_reducible apply Box.set | (with_reducible apply Box.set_other; case hg => omega)))); rfl))), (by first | with_reducible assumption | (apply Box.as; (focus (repeat (first | with_reducible assumption | (with_reducible apply Box.new; simp; done) | with_reducible apply Box.gw | with_reducible apply Box.drewN | with_reducible apply Box.drew | with_reducible apply Box.alloc | with_reducible apply Box.set | (with_reducible apply Box.set_other; case hg => omega)))); rfl))⟩ | ((repeat apply Exists.intro); exact ⟨⟨3, by omega, (by first | rfl | go_num), (by repeat (first | with_reducible exact Below.refl _ _ | with_reducible assumption | with_reducible exact GW.grow _ | with_reducible refine bl_alloc ?_ _ | with_reducible refine Below.drewN ?_ _ | with_reducible refine Below.drew ?_ | (with_reducible refine Below.setCell ?_ ?_ _; rotate_left; focus (simp; first | done | omega)) | with_reducible refine bl_trans ?_ (GW.grow _) | (with_reducible refine bl_trans ?_ (by assumption)))), (by rw [HE]; exact (by first | with_reducible assumption | (apply Box.as; (focus (repeat (first | with_reducible assumption | (with_reducible apply Box.new; simp; done) | with_reducible apply Box.gw | with_reducible apply Box.drewN | with_reducible apply Box.drew | with_reducible apply Box.alloc | with_reducible apply Box.set | (with_reducible apply Box.set_other; case hg => omega)))); rfl))), (by first | with_reducible assumption | (apply Box.as; (focus (repeat (first | with_reducible assumption | (with_reducible apply Box.new; simp; done) | with_reducible apply Box.gw | with_reducible apply Box.drewN | with_reducible apply Box.drew | with_reducible apply Box.alloc | with_reducible apply Box.set | (with_reducible apply Box.set_other; case hg => omega)))); rfl))⟩, rfl⟩)
            case measure => simp [intOf]
      · have HF := Lib.hid (show flagsK n f0 4 = flagStep n (flagsK n f0 3) (8, 4) from rfl)
        generalize flagsK n f0 3 = fk at *
        have yc := yP.cell
        have yf := yP.free
        have yc2 := yR.cell
        have yf2 := yR.free
        by_cases e1 : n = 4
        · subst e1
          go_wp2_with fail
          go_quiet (fail)
          go_wp2_with fail
          have HE : flagsK 4 f0 4 = bits .or .u8 fk 8 := by
            rw [HF.out]
            rfl
          go_roundw
          case rel => first | exact ⟨4, by omega, (by first | rfl | go_num), (by repeat (first | with_reducible exact Below.refl _ _ | with_reducible assumption | with_reducible exact GW.grow _ | with_reducible refine bl_alloc ?_ _ | with_reducible refine Below.drewN ?_ _ | with_reducible refine Below.drew ?_ | (with_reducible refine Below.setCell ?_ ?_ _; rotate_left; focus (simp; first | done | omega)) | with_reducible refine bl_trans ?_ (GW.grow _) | (with_reducible refine bl_trans ?_ (by assumption)))), (by rw [HE]; exact (by first | with_reducible assumption | (apply Box.as; (focus (repeat (first | with_reducible assumption | (with_reducible apply Box.new; simp; done) | with_reducible apply Box.gw | with_reducible apply Box.drewN | with_reducible apply Box.drew | with_reducible apply Box.alloc | with_reducible apply Box.set | (with_reducible apply Box.set_other; case hg => omega)))); rfl))), (by first | with_reducible assumption | (apply Box.as; (focus (repeat (first | with_reducible assumption | (with_reducible apply Box.new; simp; done) | with_reducible apply Box.gw | with_reducible apply Box.drewN | with_reducible apply Box.drew | with_reducible apply Box.alloc | with_reducible apply Box.set | (with_reducible apply Box.set_other; case hg => omega)))); rfl))⟩ | ((repeat apply Exists.intro); exact ⟨⟨4, by omega, (by first | rfl | go_num), (by repeat (first | with_reducible exact Below.refl _ _ | with_reducible assumption | with_reducible exact GW.grow _ | with_reducible refine bl_alloc ?_ _ | with_reducible refine Below.drewN ?_ _ | with_reducible refine Below.drew ?_ | (with_reducible refine Below.setCell ?_ ?_ _; rotate_left; focus (simp; first | done | omega)) | with_reducible refine bl_trans ?_ (GW.grow _) | (with_reducible refine bl_trans ?_ (by assumption)))), (by rw [HE]; exact (by first | with_reducible assumption | (apply Box.as; (focus (repeat (first | with_reducible assumption | (with_reducible apply Box.new; simp; done) | with_reducible apply Box.gw | with_reducible apply Box.drewN | with_reducible apply Box.drew | with_reducible apply Box.alloc | with_reducible apply Box.set | (with_reducible apply Box.set_other; case hg => omega)))); rfl))), (by first | with_reducible assumption | (apply Box.as; (focus (repeat (first | with_reducible assumption | (with_reducible apply Box.new; simp; done) | with_reducible apply Box.gw | with_reducible apply Box.drewN | with_reducible apply Box.drew | with_reducible apply Box.alloc | with_reducible apply Box.set | (with_reducible apply Box.set_other; case hg => omega)))); rfl))⟩, rfl⟩)
          case measure => simp [intOf]
        · by_cases e2 : n = 24
          · subst e2
            have hb3 : bits .and .u8 8 3 = 0 := by decide
            go_wp2_with fail
            go_quiet (fail)
            go_wp2_with fail
            go_quiet (fail)
            go_wp2_with fail
            have HE : flagsK 24 f0 4 = bits .andNot .u8 fk 8 := by
              rw [HF.out]
              rfl
            go_roundw
            case rel => first | exact ⟨4, by omega, (by first | rfl | go_num), (by repeat (first | with_reducible exact Below.refl _ _ | with_reducible assumption | with_reducible exact GW.grow _ | with_reducible refine bl_alloc ?_ _ | with_reducible refine Below.drewN ?_ _ | with_reducible refine Below.drew ?_ | (with_reducible refine Below.setCell ?_ ?_ _; rotate_left; focus (simp; first | done | omega)) | with_reducible refine bl_trans ?_ (GW.grow _) | (with_reducible refine bl_trans ?_ (by assumption)))), (by rw [HE]; exact (by first | with_reducible assumption | (apply Box.as; (focus (repeat (first | with_reducible assumption | (with_reducible apply Box.new; simp; done) | with_reducible apply Box.gw | with_reducible apply Box.drewN | with_reducible apply Box.drew | with_reducible apply Box.alloc | with_reducible apply Box.set | (with_reducible apply Box.set_other; case hg => omega)))); rfl))), (by first | with_reducible assumption | (apply Box.as; (focus (repeat (first | with_reducible assumption | (with_reducible apply Box.new; simp; done) | with_reducible apply Box.gw | with_reducible apply Box.drewN | with_reducible apply Box.drew | with_reducible apply Box.alloc | with_reducible apply Box.set | (with_reducible apply Box.set_other; case hg => omega)))); rfl))⟩ | ((repeat apply Exists.intro); exact ⟨⟨4, by omega, (by first | rfl | go_num), (by repeat (first | with_reducible exact Below.refl _ _ | with_reducible assumption | with_reducible exact GW.grow _ | with_reducible refine bl_alloc ?_ _ | with_reducible refine Below.drewN ?_ _ | with_reducible refine Below.drew ?_ | (with_reducible refine Below.setCell ?_ ?_ _; rotate_left; focus (simp; first | done | omega)) | with_reducible refine bl_trans ?_ (GW.grow _) | (with_reducible refine bl_trans ?_ (by assumption)))), (by rw [HE]; exact (by first | with_reducible assumption | (apply Box.as; (focus (repeat (first | with_reducible assumption | (with_reducible apply Box.new; simp; done) | with_reducible apply Box.gw | with_reducible apply Box.drewN | with_reducible apply Box.drew | with_reducible apply Box.alloc | with_reducible apply Box.set | (with_reducible apply Box.set_other; case hg => omega)))); rfl))), (by first | with_reducible assumption | (apply Box.as; (focus (repeat (first | with_reducible assumption | (with_reducible apply Box.new; simp; done) | with_reducible apply Box.gw | with_reducible apply Box.drewN | with_reducible apply Box.drew | with_reducible apply Box.alloc | with_reducible apply Box.set | (with_reducible apply Box.set_other; case hg => omega)))); rfl))⟩, rfl⟩)
            case measure => simp [intOf]
          · have n1 : (n == 4) = false := by rw [beq_eq_false_iff_ne]; exact e1
            have n2 : (n == 24) = false := by rw [beq_eq_false_iff_ne]; exact e2
            have E1 := Lib.hid e1
            have E2 := Lib.hid e2
            clear e1 e2
            go_wp2_with fail
            go_quiet (fail)
            go_wp2_with fail
            go_quiet (fail)
            go_wp2_with fail
            have HE : flagsK n f0 4 = fk := by
              rw [HF.out]
              unfold flagStep; rw [if_neg E1.out, if_neg (fun h => E2.out h.1)]
            go_roundw
            case rel => first | exact ⟨4, by omega, (by first | rfl | go_num), (by repeat (first | with_reducible exact Below.refl _ _ | with_reducible assumption | with_reducible exact GW.grow _ | with_reducible refine bl_alloc ?_ _ | with_reducible refine Below.drewN ?_ _ | with_reducible refine Below.drew ?_ | (with_reducible refine Below.setCell ?_ ?_ _; rotate_left; focus (simp; first | done | omega)) | with_reducible refine bl_trans ?_ (GW.grow _) | (with_reducible refine bl_trans ?_ (by assumption)))), (by rw [HE]; exact (by first | with_reducible assumption | (apply Box.as; (focus (repeat (first | with_reducible assumption | (with_reducible apply Box.new; simp; done) | with_reducible apply Box.gw | with_reducible apply Box.drewN | with_reducible apply Box.drew | with_reducible apply Box.alloc | with_reducible apply Box.set | (with_reducible apply Box.set_other; case hg => omega)))); rfl))), (by first | with_reducible assumption | (apply Box.as; (focus (repeat (first | with_reducible assumption | (with_reducible apply Box.new; simp; done) | with_reducible apply Box.gw | with_reducible apply Box.drewN | with_reducible apply Box.drew | with_reducible apply Box.alloc | with_reducible apply Box.set | (with_reducible apply Box.set_other; case hg => omega)))); rfl))⟩ | ((repeat apply Exists.intro); exact ⟨⟨4, by omega, (by first | rfl | go_num), (by repeat (first | with_reducible exact Below.refl _ _ | with_reducible assumption | with_reducible exact GW.grow _ | with_reducible refine bl_alloc ?_ _ | with_reducible refine Below.drewN ?_ _ | with_reducible refine Below.drew ?_ | (with_reducible refine Below.setCell ?_ ?_ _; rotate_left; focus (simp; first | done | omega)) | with_reducible refine bl_trans ?_ (GW.grow _) | (with_reducible refine bl_trans ?_ (by assumption)))), (by rw [HE]; exact (by first | with_reducible assumption | (apply Box.as; (focus (repeat (first | with_reducible assumption | (with_reducible apply Box.new; simp; done) | with_reducible apply Box.gw | with_reducible apply Box.drewN | with_reducible apply Box.drew | with_reducible apply Box.alloc | with_reducible apply Box.set | (with_reducible apply Box.set_other; case hg => omega)))); rfl))), (by first | with_reducible assumption | (apply Box.as; (focus (repeat (first | with_reducible assumption | (with_reducible apply Box.new; simp; done) | with_reducible apply Box.gw | with_reducible apply Box.drewN | with_reducible apply Box.drew | with_reducible apply Box.alloc | with_reducible apply Box.set | (with_reducible apply Box.set_other; case hg => omega)))); rfl))⟩, rfl⟩)
            case measure => simp [intOf]
      · have HF := Lib.hid (show flagsK n f0 5 = flagStep n (flagsK n f0 4) (16, 5) from rfl)
        generalize flagsK n f0 4 = fk at *
        have yc := yP.cell
        have yf := yP.free
        have yc2 := yR.cell
        have yf2 := yR.free
        by_cases e1 : n = 5
        · subst e1
          go_wp2_with fail
          go_quiet (fail)
          go_wp2_with fail
          have HE : flagsK 5 f0 5 = bits .or .u8 fk 16 := by
            rw [HF.out]
            rfl
          go_roundw
          case rel => first | exact ⟨5, by omega, (by first | rfl | go_num), (by repeat (first | with_reducible exact Below.refl _ _ | with_reducible assumption | with_reducible exact GW.grow _ | with_reducible refine bl_alloc ?_ _ | with_reducible refine Below.drewN ?_ _ | with_reducible refine Below.drew ?_ | (with_reducible refine Below.setCell ?_ ?_ _; rotate_left; focus (simp; first | done | omega)) | with_reducible refine bl_trans ?_ (GW.grow _) | (with_reducible refine bl_trans ?_ (by assumption)))), (by rw [HE]; exact (by first | with_reducible assumption | (apply Box.as; (focus (repeat (first | with_reducible assumption | (with_reducible apply Box.new; simp; done) | with_reducible apply Box.gw | with_reducible apply Box.drewN | with_reducible apply Box.drew | with_reducible apply Box.alloc | with_reducible apply Box.set | (with_reducible apply Box.set_other; case hg => omega)))); rfl))), (by first | with_reducible assumption | (apply Box.as; (focus (repeat (first | with_reducible assumption | (with_reducible apply Box.new; simp; done) | with_reducible apply Box.gw | with_reducible apply Box.drewN | with_reducible apply Box.drew | with_reducible apply Box.alloc | with_reducible apply Box.set | (with_reducible apply Box.set_other; case hg => omega)))); rfl))⟩ | ((repeat apply Exists.intro); exact ⟨⟨5, by omega, (by first | rfl | go_num), (by repeat (first | with_reducible exact Below.refl _ _ | with_reducible assumption | with_reducible exact GW.grow _ | with_reducible refine bl_alloc ?_ _ | with_reducible refine Below.drewN ?_ _ | with_reducible refine Below.drew ?_ | (with_reducible refine Below.setCell ?_ ?_ _; rotate_left; focus (simp; first | done | omega)) | with_reducible refine bl_trans ?_ (GW.grow _) | (with_reducible refine bl_trans ?_ (by assumption)))), (by rw [HE]; exact (by first | with_reducible assumption | (apply Box.as; (focus (repeat (first | with_reducible assumption | (with_reducible apply Box.new; simp; done) | with_reducible apply Box.gw | with_reducible apply Box.drewN | with_reducible apply Box.drew | with_reducible apply Box.alloc | with_reducible apply Box.set | (with_reducible apply Box.set_other; case hg => omega)))); rfl))), (by first | with_reducible assumption | (apply Box.as; (focus (repeat (first | with_reducible assumption | (with_reducible apply Box.new; simp; done) | with_reducible apply Box.gw | with_reducible apply Box.drewN | with_reducible apply Box.drew | with_reducible apply Box.alloc | with_reducible apply Box.set | (with_reducible apply Box.set_other; case hg => omega)))); rfl))⟩, rfl⟩)
          case measure => simp [intOf]
        · by_cases e2 : n = 25
          · subst e2
            have hb3 : bits .and .u8 16 3 = 0 := by decide
            go_wp2_with fail
            go_quiet (fail)
            go_wp2_with fail
            go_quiet (fail)
            go_wp2_with fail
            have HE : flagsK 25 f0 5 = bits .andNot .u8 fk 16 := by
              rw [HF.out]
              rfl
            go_roundw
            case rel => first | exact ⟨5, by omega, (by first | rfl | go_num), (by repeat (first | with_reducible exact Below.refl _ _ | with_reducible assumption | with_reducible exact GW.grow _ | with_reducible refine bl_alloc ?_ _ | with_reducible refine Below.drewN ?_ _ | with_reducible refine Below.drew ?_ | (with_reducible refine Below.setCell ?_ ?_ _; rotate_left; focus (simp; first | done | omega)) | with_reducible refine bl_trans ?_ (GW.grow _) | (with_reducible refine bl_trans ?_ (by assumption)))), (by rw [HE]; exact (by first | with_reducible assumption | (apply Box.as; (focus (repeat (first | with_reducible assumption | (with_reducible apply Box.new; simp; done) | with_reducible apply Box.gw | with_reducible apply Box.drewN | with_reducible apply Box.drew | with_reducible apply Box.alloc | with_reducible apply Box.set | (with_reducible apply Box.set_other; case hg => omega)))); rfl))), (by first | with_reducible assumption | (apply Box.as; (focus (repeat (first | with_reducible assumption | (with_reducible apply Box.new; simp; done) | with_reducible apply Box.gw | with_reducible apply Box.drewN | with_reducible apply Box.drew | with_reducible apply Box.alloc | with_reducible apply Box.set | (with_reducible apply Box.set_other; case hg => omega)))); rfl))⟩ | ((repeat apply Exists.intro); exact ⟨⟨5, by omega, (by first | rfl | go_num), (by repeat (first | with_reducible exact Below.refl _ _ | with_reducible assumption | with_reducible exact GW.grow _ | with_reducible refine bl_alloc ?_ _ | with_reducible refine Below.drewN ?_ _ | with_reducible refine Below.drew ?_ | (with_reducible refine Below.setCell ?_ ?_ _; rotate_left; focus (simp; first | done | omega)) | with_reducible refine bl_trans ?_ (GW.grow _) | (with_reducible refine bl_trans ?_ (by assumption)))), (by rw [HE]; exact (by first | with_reducible assumption | (apply Box.as; (focus (repeat (first | with_reducible assumption | (with_reducible apply Box.new; simp; done) | with_reducible apply Box.gw | with_reducible apply Box.drewN | with_reducible apply Box.drew | with_reducible apply Box.alloc | with_reducible apply Box.set | (with_reducible apply Box.set_other; case hg => omega)))); rfl))), (by first | with_reducible assumption | (apply Box.as; (focus (repeat (first | with_reducible assumption | (with_reducible apply Box.new; simp; done) | with_reducible apply Box.gw | with_reducible apply Box.drewN | with_reducible apply Box.drew | with_reducible apply Box.alloc | with_reducible apply Box.set | (with_reducible apply Box.set_other; case hg => omega)))); rfl))⟩, rfl⟩)
            case measure => simp [intOf]
          · have n1 : (n == 5) = false := by rw [beq_eq_false_iff_ne]; exact e1
            have n2 : (n == 25) = false := by rw [beq_eq_false_iff_ne]; exact e2
            have E1 := Lib.hid e1
            have E2 := Lib.hid e2
            clear e1 e2
            go_wp2_with fail
            go_quiet (fail)
            go_wp2_with fail
            go_quiet (fail)
            go_wp2_with fail
            have HE : flagsK n f0 5 = fk := by
              rw [HF.out]
              unfold flagStep; rw [if_neg E1.out, if_neg (fun h => E2.out h.1)]
            go_roundw
            case rel => first | exact ⟨5, by omega, (by first | rfl | go_num), (by repeat (first | with_reducible exact Below.refl _ _ | with_reducible assumption | with_reducible exact GW.grow _ | with_reducible refine bl_alloc ?_ _ | with_reducible refine Below.drewN ?_ _ | with_reducible refine Below.drew ?_ | (with_reducible refine Below.setCell ?_ ?_ _; rotate_left; focus (simp; first | done | omega)) | with_reducible refine bl_trans ?_ (GW.grow _) | (with_reducible refine bl_trans ?_ (by assumption)))), (by rw [HE]; exact (by first | with_reducible assumption | (apply Box.as; (focus (repeat (first | with_reducible assumption | (with_reducible apply Box.new; simp; done) | with_reducible apply Box.gw | with_reducible apply Box.drewN | with_reducible apply Box.drew | with_reducible apply Box.alloc | with_reducible apply Box.set | (with_reducible apply Box.set_other; case hg => omega)))); rfl))), (by first | with_reducible assumption | (apply Box.as; (focus (repeat (first | with_reducible assumption | (with_reducible apply Box.new; simp; done) | with_reducible apply Box.gw | with_reducible apply Box.drewN | with_reducible apply Box.drew | with_reducible apply Box.alloc | with_reducible apply Box.set | (with_reducible apply Box.set_other; case hg => omega)))); rfl))⟩ | ((repeat apply Exists.intro); exact ⟨⟨5, by omega, (by first | rfl | go_num), (by repeat (first | with_reducible exact Below.refl _ _ | with_reducible assumption | with_reducible exact GW.grow _ | with_reducible refine bl_alloc ?_ _ | with_reducible refine Below.drewN ?_ _ | with_reducible refine Below.drew ?_ | (with_reducible refine Below.setCell ?_ ?_ _; rotate_left; focus (simp; first | done | omega)) | with_reducible refine bl_trans ?_ (GW.grow _) | (with_reducible refine bl_trans ?_ (by assumption)))), (by rw [HE]; exact (by first | with_reducible assumption | (apply Box.as; (focus (repeat (first | with_reducible assumption | (with_reducible apply Box.new; simp; done) | with_reducible apply Box.gw | with_reducible apply Box.drewN | with_reducible apply Box.drew | with_reducible apply Box.alloc | with_reducible apply Box.set | (with_reducible apply Box.set_other; case hg => omega)))); rfl))), (by first | with_reducible assumption | (apply Box.as; (focus (repeat (first | with_reducible assumption | (with_reducible apply Box.new; simp; done) | with_reducible apply Box.gw | with_reducible apply Box.drewN | with_reducible apply Box.drew | with_reducible apply Box.alloc | with_reducible apply Box.set | (with_reducible apply Box.set_other; case hg => omega)))); rfl))⟩, rfl⟩)
            case measure => simp [intOf]
      · have HF := Lib.hid (show flagsK n f0 6 = flagStep n (flagsK n f0 5) (32, 7) from rfl)
        generalize flagsK n f0 5 = fk at *
        have yc := yP.cell
        have yf := yP.free
        have yc2 := yR.cell
        have yf2 := yR.free
        by_cases e1 : n = 7
        · subst e1
          go_wp2_with fail
          go_quiet (fail)
          go_wp2_with fail
          have HE : flagsK 7 f0 6 = bits .or .u8 fk 32 := by
            rw [HF.out]
            rfl
          go_roundw
          case rel => first | exact ⟨6, by omega, (by first | rfl | go_num), (by repeat (first | with_reducible exact Below.refl _ _ | with_reducible assumption | with_reducible exact GW.grow _ | with_reducible refine bl_alloc ?_ _ | with_reducible refine Below.drewN ?_ _ | with_reducible refine Below.drew ?_ | (with_reducible refine Below.setCell ?_ ?_ _; rotate_left; focus (simp; first | done | omega)) | with_reducible refine bl_trans ?_ (GW.grow _) | (with_reducible refine bl_trans ?_ (by assumption)))), (by rw [HE]; exact (by first | with_reducible assumption | (apply Box.as; (focus (repeat (first | with_reducible assumption | (with_reducible apply Box.new; simp; done) | with_reducible apply Box.gw | with_reducible apply Box.drewN | with_reducible apply Box.drew | with_reducible apply Box.alloc | with_reducible apply Box.set | (with_reducible apply Box.set_other; case hg => omega)))); rfl))), (by first | with_reducible assumption | (apply Box.as; (focus (repeat (first | with_reducible assumption | (with_reducible apply Box.new; simp; done) | with_reducible apply Box.gw | with_reducible apply Box.drewN | with_reducible apply Box.drew | with_reducible apply Box.alloc | with_reducible apply Box.set | (with_reducible apply Box.set_other; case hg => omega)))); rfl))⟩ | ((repeat apply Exists.intro); exact ⟨⟨6, by omega, (by first | rfl | go_num), (by repeat (first | with_reducible exact Below.refl _ _ | with_reducible assumption | with_reducible exact GW.grow _ | with_reducible refine bl_alloc ?_ _ | with_reducible refine Below.drewN ?_ _ | with_reducible refine Below.drew ?_ | (with_reducible refine Below.setCell ?_ ?_ _; rotate_left; focus (simp; first | done | omega)) | with_reducible refine bl_trans ?_ (GW.grow _) | (with_reducible refine bl_trans ?_ (by assumption)))), (by rw [HE]; exact (by first | with_reducible assumption | (apply Box.as; (focus (repeat (first | with_reducible assumption | (with_reducible apply Box.new; simp; done) | with_reducible apply Box.gw | with_reducible apply Box.drewN | with_reducible apply Box.drew | with_reducible apply Box.alloc | with_reducible apply Box.set | (with_reducible apply Box.set_other; case hg => omega)))); rfl))), (by first | with_reducible assumption | (apply Box.as; (focus (repeat (first | with_reducible assumption | (with_reducible apply Box.new; simp; done) | with_reducible apply Box.gw | with_reducible apply Box.drewN | with_reducible apply Box.drew | with_reducible apply Box.alloc | with_reducible apply Box.set | (with_reducible apply Box.set_other; case hg => omega)))); rfl))⟩, rfl⟩)
          case measure => simp [intOf]
        · by_cases e2 : n = 27
          · subst e2
            have hb3 : bits .and .u8 32 3 = 0 := by decide
            go_wp2_with fail
            go_quiet (fail)
            go_wp2_with fail
            go_quiet (fail)
            go_wp2_with fail
            have HE : flagsK 27 f0 6 = bits .andNot .u8 fk 32 := by
              rw [HF.out]
              rfl
            go_roundw
            case rel => first | exact ⟨6, by omega, (by first | rfl | go_num), (by repeat (first | with_reducible exact Below.refl _ _ | with_reducible assumption | with_reducible exact GW.grow _ | with_reducible refine bl_alloc ?_ _ | with_reducible refine Below.drewN ?_ _ | with_reducible refine Below.drew ?_ | (with_reducible refine Below.setCell ?_ ?_ _; rotate_left; focus (simp; first | done | omega)) | with_reducible refine bl_trans ?_ (GW.grow _) | (with_reducible refine bl_trans ?_ (by assumption)))), (by rw [HE]; exact (by first | with_reducible assumption | (apply Box.as; (focus (repeat (first | with_reducible assumption | (with_reducible apply Box.new; simp; done) | with_reducible apply Box.gw | with_reducible apply Box.drewN | with_reducible apply Box.drew | with_reducible apply Box.alloc | with_reducible apply Box.set | (with_reducible apply Box.set_other; case hg => omega)))); rfl))), (by first | with_reducible assumption | (apply Box.as; (focus (repeat (first | with_reducible assumption | (with_reducible apply Box.new; simp; done) | with_reducible apply Box.gw | with_reducible apply Box.drewN | with_reducible apply Box.drew | with_reducible apply Box.alloc | with_reducible apply Box.set | (with_reducible apply Box.set_other; case hg => omega)))); rfl))⟩ | ((repeat apply Exists.intro); exact ⟨⟨6, by omega, (by first | rfl | go_num), (by repeat (first | with_reducible exact Below.refl _ _ | with_reducible assumption | with_reducible exact GW.grow _ | with_reducible refine bl_alloc ?_ _ | with_reducible refine Below.drewN ?_ _ | with_reducible refine Below.drew ?_ | (with_reducible refine Below.setCell ?_ ?_ _; rotate_left; focus (simp; first | done | omega)) | with_reducible refine bl_trans ?_ (GW.grow _) | (with_reducible refine bl_trans ?_ (by assumption)))), (by rw [HE]; exact (by first | with_reducible assumption | (apply Box.as; (focus (repeat (first | with_reducible assumption | (with_reducible apply Box.new; simp; done) | with_reducible apply Box.gw | with_reducible apply Box.drewN | with_reducible apply Box.drew | with_reducible apply Box.alloc | with_reducible apply Box.set | (with_reducible apply Box.set_other; case hg => omega)))); rfl))), (by first | with_reducible assumption | (apply Box.as; (focus (repeat (first | with_reducible assumption | (with_reducible apply Box.new; simp; done) | with_reducible apply Box.gw | with_reducible apply Box.drewN | with_reducible apply Box.drew | with_reducible apply Box.alloc | with_reducible apply Box.set | (with_reducible apply Box.set_other; case hg => omega)))); rfl))⟩, rfl⟩)
            case measure => simp [intOf]
          · have n1 : (n == 7) = false := by rw [beq_eq_false_iff_ne]; exact e1
            have n2 : (n == 27) = false := by rw [beq_eq_false_iff_ne]; exact e2
            have E1 := Lib.hid e1
            have E2 := Lib.hid e2
            clear e1 e2
            go_wp2_with fail
            go_quiet (fail)
            go_wp2_with fail
            go_quiet (fail)
            go_wp2_with fail
            have HE : flagsK n f0 6 = fk := by
              rw [HF.out]
              unfold flagStep; rw [if_neg E1.out, if_neg (fun h => E2.out h.1)]
            go_roundw
            case rel => first | exact ⟨6, by omega, (by first | rfl | go_num), (by repeat (first | with_reducible exact Below.refl _ _ | with_reducible assumption | with_reducible exact GW.grow _ | with_reducible refine bl_alloc ?_ _ | with_reducible refine Below.drewN ?_ _ | with_reducible refine Below.drew ?_ | (with_reducible refine Below.setCell ?_ ?_ _; rotate_left; focus (simp; first | done | omega)) | with_reducible refine bl_trans ?_ (GW.grow _) | (with_reducible refine bl_trans ?_ (by assumption)))), (by rw [HE]; exact (by first | with_reducible assumption | (apply Box.as; (focus (repeat (first | with_reducible assumption | (with_reducible apply Box.new; simp; done) | with_reducible apply Box.gw | with_reducible apply Box.drewN | with_reducible apply Box.drew | with_reducible apply Box.alloc | with_reducible apply Box.set | (with_reducible apply Box.set_other; case hg => omega)))); rfl))), (by first | with_reducible assumption | (apply Box.as; (focus (repeat (first | with_reducible assumption | (with_reducible apply Box.new; simp; done) | with_reducible apply Box.gw | with_reducible apply Box.drewN | with_reducible apply Box.drew | with_reducible apply Box.alloc | with_reducible apply Box.set | (with_reducible apply Box.set_other; case hg => omega)))); rfl))⟩ | ((repeat apply Exists.intro); exact ⟨⟨6, by omega, (by first | rfl | go_num), (by repeat (first | with_reducible exact Below.refl _ _ | with_reducible assumption | with_reducible exact GW.grow _ | with_reducible refine bl_alloc ?_ _ | with_reducible refine Below.drewN ?_ _ | with_reducible refine Below.drew ?_ | (with_reducible refine Below.setCell ?_ ?_ _; rotate_left; focus (simp; first | done | omega)) | with_reducible refine bl_trans ?_ (GW.grow _) | (with_reducible refine bl_trans ?_ (by assumption)))), (by rw [HE]; exact (by first | with_reducible assumption | (apply Box.as; (focus (repeat (first | with_reducible assumption | (with_reducible apply Box.new; simp; done) | with_reducible apply Box.gw | with_reducible apply Box.drewN | with_reducible apply Box.drew | with_reducible apply Box.alloc | with_reducible apply Box.set | (with_reducible apply Box.set_other; case hg => omega)))); rfl))), (by first | with_reducible assumption | (apply Box.as; (focus (repeat (first | with_reducible assumption | (with_reducible apply Box.new; simp; done) | with_reducible apply Box.gw | with_reducible apply Box.drewN | with_reducible apply Box.drew | with_reducible apply Box.alloc | with_reducible apply Box.set | (with_reducible apply Box.set_other; case hg => omega)))); rfl))⟩, rfl⟩)
            case measure => simp [intOf]
      · have HF := Lib.hid (show flagsK n f0 7 = flagStep n (flagsK n f0 6) (64, 8) from rfl)
        generalize flagsK n f0 6 = fk at *
        have yc := yP.cell
        have yf := yP.free
        have yc2 := yR.cell
        have yf2 := yR.free
        by_cases e1 : n = 8
        · subst e1
          go_wp2_with fail
          go_quiet (fail)
          go_wp2_with fail
          have HE : flagsK 8 f0 7 = bits .or .u8 fk 64 := by
            rw [HF.out]
            rfl
          go_roundw
          case rel => first | exact ⟨7, by omega, (by first | rfl | go_num), (by repeat (first | with_reducible exact Below.refl _ _ | with_reducible assumption | with_reducible exact GW.grow _ | with_reducible refine bl_alloc ?_ _ | with_reducible refine Below.drewN ?_ _ | with_reducible refine Below.drew ?_ | (with_reducible refine Below.setCell ?_ ?_ _; rotate_left; focus (simp; first | done | omega)) | with_reducible refine bl_trans ?_ (GW.grow _) | (with_reducible refine bl_trans ?_ (by assumption)))), (by rw [HE]; exact (by first | with_reducible assumption | (apply Box.as; (focus (repeat (first | with_reducible assumption | (with_reducible apply Box.new; simp; done) | with_reducible apply Box.gw | with_reducible apply Box.drewN | with_reducible apply Box.drew | with_reducible apply Box.alloc | with_reducible apply Box.set | (with_reducible apply Box.set_other; case hg => omega)))); rfl))), (by first | with_reducible assumption | (apply Box.as; (focus (repeat (first | with_reducible assumption | (with_reducible apply Box.new; simp; done) | with_reducible apply Box.gw | with_reducible apply Box.drewN | with_reducible apply Box.drew | with_reducible apply Box.alloc | with_reducible apply Box.set | (with_reducible apply Box.set_other; case hg => omega)))); rfl))⟩ | ((repeat apply Exists.intro); exact ⟨⟨7, by omega, (by first | rfl | go_num), (by repeat (first | with_reducible exact Below.refl _ _ | with_reducible assumption | with_reducible exact GW.grow _ | with_reducible refine bl_alloc ?_ _ | with_reducible refine Below.drewN ?_ _ | with_reducible refine Below.drew ?_ | (with_reducible refine Below.setCell ?_ ?_ _; rotate_left; focus (simp; first | done | omega)) | with_reducible refine bl_trans ?_ (GW.grow _) | (with_reducible refine bl_trans ?_ (by assumption)))), (by rw [HE]; exact (by first | with_reducible assumption | (apply Box.as; (focus (repeat (first | with_reducible assumption | (with_reducible apply Box.new; simp; done) | with_reducible apply Box.gw | with_reducible apply Box.drewN | with_reducible apply Box.drew | with_reducible apply Box.alloc | with_reducible apply Box.set | (with_reducible apply Box.set_other; case hg => omega)))); rfl))), (by first | with_reducible assumption | (apply Box.as; (focus (repeat (first | with_reducible assumption | (with_reducible apply Box.new; simp; done) | with_reducible apply Box.gw | with_reducible apply Box.drewN | with_reducible apply Box.drew | with_reducible apply Box.alloc | with_reducible apply Box.set | (with_reducible apply Box.set_other; case hg => omega)))); rfl))⟩, rfl⟩)
          case measure => simp [intOf]
        · by_cases e2 : n = 28
          · subst e2
            have hb3 : bits .and .u8 64 3 = 0 := by decide
            go_wp2_with fail
            go_quiet (fail)
            go_wp2_with fail
            go_quiet (fail)
            go_wp2_with fail
            have HE : flagsK 28 f0 7 = bits .andNot .u8 fk 64 := by
              rw [HF.out]
              rfl
            go_roundw
            case rel => first | exact ⟨7, by omega, (by first | rfl | go_num), (by repeat (first | with_reducible exact Below.refl _ _ | with_reducible assumption | with_reducible exact GW.grow _ | with_reducible refine bl_alloc ?_ _ | with_reducible refine Below.drewN ?_ _ | with_reducible refine Below.drew ?_ | (with_reducible refine Below.setCell ?_ ?_ _; rotate_left; focus (simp; first | done | omega)) | with_reducible refine bl_trans ?_ (GW.grow _) | (with_reducible refine bl_trans ?_ (by assumption)))), (by rw [HE]; exact (by first | with_reducible assumption | (apply Box.as; (focus (repeat (first | with_reducible assumption | (with_reducible apply Box.new; simp; done) | with_reducible apply Box.gw | with_reducible apply Box.drewN | with_reducible apply Box.drew | with_reducible apply Box.alloc | with_reducible apply Box.set | (with_reducible apply Box.set_other; case hg => omega)))); rfl))), (by first | with_reducible assumption | (apply Box.as; (focus (repeat (first | with_reducible assumption | (with_reducible apply Box.new; simp; done) | with_reducible apply Box.gw | with_reducible apply Box.drewN | with_reducible apply Box.drew | with_reducible apply Box.alloc | with_reducible apply Box.set | (with_reducible apply Box.set_other; case hg => omega)))); rfl))⟩ | ((repeat apply Exists.intro); exact ⟨⟨7, by omega, (by first | rfl | go_num), (by repeat (first | with_reducible exact Below.refl _ _ | with_reducible assumption | with_reducible exact GW.grow _ | with_reducible refine bl_alloc ?_ _ | with_reducible refine Below.drewN ?_ _ | with_reducible refine Below.drew ?_ | (with_reducible refine Below.setCell ?_ ?_ _; rotate_left; focus (simp; first | done | omega)) | with_reducible refine bl_trans ?_ (GW.grow _) | (with_reducible refine bl_trans ?_ (by assumption)))), (by rw [HE]; exact (by first | with_reducible assumption | (apply Box.as; (focus (repeat (first | with_reducible assumption | (with_reducible apply Box.new; simp; done) | with_reducible apply Box.gw | with_reducible apply Box.drewN | with_reducible apply Box.drew | with_reducible apply Box.alloc | with_reducible apply Box.set | (with_reducible apply Box.set_other; case hg => omega)))); rfl))), (by first | with_reducible assumption | (apply Box.as; (focus (repeat (first | with_reducible assumption | (with_reducible apply Box.new; simp; done) | with_reducible apply Box.gw | with_reducible apply Box.drewN | with_reducible apply Box.drew | with_reducible apply Box.alloc | with_reducible apply Box.set | (with_reducible apply Box.set_other; case hg => omega)))); rfl))⟩, rfl⟩)
            case measure => simp [intOf]
          · have n1 : (n == 8) = false := by rw [beq_eq_false_iff_ne]; exact e1
            have n2 : (n == 28) = false := by rw [beq_eq_false_iff_ne]; exact e2
            have E1 := Lib.hid e1
            have E2 := Lib.hid e2
            clear e1 e2
            go_wp2_with fail
            go_quiet (fail)
            go_wp2_with fail
            go_quiet (fail)
            go_wp2_with fail
            have HE : flagsK n f0 7 = fk := by
              rw [HF.out]
              unfold flagStep; rw [if_neg E1.out, if_neg (fun h => E2.out h.1)]
            go_roundw
            case rel => first | exact ⟨7, by omega, (by first | rfl | go_num), (by repeat (first | with_reducible exact Below.refl _ _ | with_reducible assumption | with_reducible exact GW.grow _ | with_reducible refine bl_alloc ?_ _ | with_reducible refine Below.drewN ?_ _ | with_reducible refine Below.drew ?_ | (with_reducible refine Below.setCell ?_ ?_ _; rotate_left; focus (simp; first | done | omega)) | with_reducible refine bl_trans ?_ (GW.grow _) | (with_reducible refine bl_trans ?_ (by assumption)))), (by rw [HE]; exact (by first | with_reducible assumption | (apply Box.as; (focus (repeat (first | with_reducible assumption | (with_reducible apply Box.new; simp; done) | with_reducible apply Box.gw | with_reducible apply Box.drewN | with_reducible apply Box.drew | with_reducible apply Box.alloc | with_reducible apply Box.set | (with_reducible apply Box.set_other; case hg => omega)))); rfl))), (by first | with_reducible assumption | (apply Box.as; (focus (repeat (first | with_reducible assumption | (with_reducible apply Box.new; simp; done) | with_reducible apply Box.gw | with_reducible apply Box.drewN | with_reducible apply Box.drew | with_reducible apply Box.alloc | with_reducible apply Box.set | (with_reducible apply Box.set_other; case hg => omega)))); rfl))⟩ | ((repeat apply Exists.intro); exact ⟨⟨7, by omega, (by first | rfl | go_num), (by repeat (first | with_reducible exact Below.refl _ _ | with_reducible assumption | with_reducible exact GW.grow _ | with_reducible refine bl_alloc ?_ _ | with_reducible refine Below.drewN ?_ _ | with_reducible refine Below.drew ?_ | (with_reducible refine Below.setCell ?_ ?_ _; rotate_left; focus (simp; first | done | omega)) | with_reducible refine bl_trans ?_ (GW.grow _) | (with_reducible refine bl_trans ?_ (by assumption)))), (by rw [HE]; exact (by first | with_reducible assumption | (apply Box.as; (focus (repeat (first | with_reducible assumption | (with_reducible apply Box.new; simp; done) | with_reducible apply Box.gw | with_reducible apply Box.drewN | with_reducible apply Box.drew | with_reducible apply Box.alloc | with_reducible apply Box.set | (with_reducible apply Box.set_other; case hg => omega)))); rfl))), (by first | with_reducible assumption | (apply Box.as; (focus (repeat (first | with_reducible assumption | (with_reducible apply Box.new; simp; done) | with_reducible apply Box.gw | with_reducible apply Box.drewN | with_reducible apply Box.drew | with_reducible apply Box.alloc | with_reducible apply Box.set | (with_reducible apply Box.set_other; case hg => omega)))); rfl))⟩, rfl⟩)
            case measure => simp [intOf]
      · have HF := Lib.hid (show flagsK n f0 8 = flagStep n (flagsK n f0 7) (128, 9) from rfl)
        generalize flagsK n f0 7 = fk at *
        have yc := yP.cell
        have yf := yP.free
        have yc2 := yR.cell
        have yf2 := yR.free
        by_cases e1 : n = 9
        · subst e1
          go_wp2_with fail
          go_quiet (fail)
          go_wp2_with fail
          have HE : flagsK 9 f0 8 = bits .or .u8 fk 128 := by
            rw [HF.out]
            rfl
          go_roundw
          case rel => first | exact ⟨8, by omega, (by first | rfl | go_num), (by repeat (first | with_reducible exact Below.refl _ _ | with_reducible assumption | with_reducible exact GW.grow _ | with_reducible refine bl_alloc ?_ _ | with_reducible refine Below.drewN ?_ _ | with_reducible refine Below.drew ?_ | (with_reducible refine Below.setCell ?_ ?_ _; rotate_left; focus (simp; first | done | omega)) | with_reducible refine bl_trans ?_ (GW.grow _) | (with_reducible refine bl_trans ?_ (by assumption)))), (by rw [HE]; exact (by first | with_reducible assumption | (apply Box.as; (focus (repeat (first | with_reducible assumption | (with_reducible apply Box.new; simp; done) | with_reducible apply Box.gw | with_reducible apply Box.drewN | with_reducible apply Box.drew | with_reducible apply Box.alloc | with_reducible apply Box.set | (with_reducible apply Box.set_other; case hg => omega)))); rfl))), (by first | with_reducible assumption | (apply Box.as; (focus (repeat (first | with_reducible assumption | (with_reducible apply Box.new; simp; done) | with_reducible apply Box.gw | with_reducible apply Box.drewN | with_reducible apply Box.drew | with_reducible apply Box.alloc | with_reducible apply Box.set | (with_reducible apply Box.set_other; case hg => omega)))); rfl))⟩ | ((repeat apply Exists.intro); exact ⟨⟨8, by omega, (by first | rfl | go_num), (by repeat (first | with_reducible exact Below.refl _ _ | with_reducible assumption | with_reducible exact GW.grow _ | with_reducible refine bl_alloc ?_ _ | with_reducible refine Below.drewN ?_ _ | with_reducible refine Below.drew ?_ | (with_reducible refine Below.setCell ?_ ?_ _; rotate_left; focus (simp; first | done | omega)) | with_reducible refine bl_trans ?_ (GW.grow _) | (with_reducible refine bl_trans ?_ (by assumption)))), (by rw [HE]; exact (by first | with_reducible assumption | (apply Box.as; (focus (repeat (first | with_reducible assumption | (with_reducible apply Box.new; simp; done) | with_reducible apply Box.gw | with_reducible apply Box.drewN | with_reducible apply Box.drew | with_reducible apply Box.alloc | with_reducible apply Box.set | (with_reducible apply Box.set_other; case hg => omega)))); rfl))), (by first | with_reducible assumption | (apply Box.as; (focus (repeat (first | with_reducible assumption | (with_reducible apply Box.new; simp; done) | with_reducible apply Box.gw | with_reducible apply Box.drewN | with_reducible apply Box.drew | with_reducible apply Box.alloc | with_reducible apply Box.set | (with_reducible apply Box.set_other; case hg => omega)))); rfl))⟩, rfl⟩)
          case measure => simp [intOf]
        · by_cases e2 : n = 29
          · subst e2
            have hb3 : bits .and .u8 128 3 = 0 := by decide
            go_wp2_with fail
            go_quiet (fail)
            go_wp2_with fail
            go_quiet (fail)
            go_wp2_with fail
            have HE : flagsK 29 f0 8 = bits .andNot .u8 fk 128 := by
              rw [HF.out]
              rfl
            go_roundw
            case rel => first | exact ⟨8, by omega, (by first | rfl | go_num), (by repeat (first | with_reducible exact Below.refl _ _ | with_reducible assumption | with_reducible exact GW.grow _ | with_reducible refine bl_alloc ?_ _ | with_reducible refine Below.drewN ?_ _ | with_reducible refine Below.drew ?_ | (with_reducible refine Below.setCell ?_ ?_ _; rotate_left; focus (simp; first | done | omega)) | with_reducible refine bl_trans ?_ (GW.grow _) | (with_reducible refine bl_trans ?_ (by assumption)))), (by rw [HE]; exact (by first | with_reducible assumption | (apply Box.as; (focus (repeat (first | with_reducible assumption | (with_reducible apply Box.new; simp; done) | with_reducible apply Box.gw | with_reducible apply Box.drewN | with_reducible apply Box.drew | with_reducible apply Box.alloc | with_reducible apply Box.set | (with_reducible apply Box.set_other; case hg => omega)))); rfl))), (by first | with_reducible assumption | (apply Box.as; (focus (repeat (first | with_reducible assumption | (with_reducible apply Box.new; simp; done) | with_reducible apply Box.gw | with_reducible apply Box.drewN | with_reducible apply Box.drew | with_reducible apply Box.alloc | with_reducible apply Box.set | (with_reducible apply Box.set_other; case hg => omega)))); rfl))⟩ | ((repeat apply Exists.intro); exact ⟨⟨8, by omega, (by first | rfl | go_num), (by repeat (first | with_reducible exact Below.refl _ _ | with_reducible assumption | with_reducible exact GW.grow _ | with_reducible refine bl_alloc ?_ _ | with_reducible refine Below.drewN ?_ _ | with_reducible refine Below.drew ?_ | (with_reducible refine Below.setCell ?_ ?_ _; rotate_left; focus (simp; first | done | omega)) | with_reducible refine bl_trans ?_ (GW.grow _) | (with_reducible refine bl_trans ?_ (by assumption)))), (by rw [HE]; exact (by first | with_reducible assumption | (apply Box.as; (focus (repeat (first | with_reducible assumption | (with_reducible apply Box.new; simp; done) | with_reducible apply Box.gw | with_reducible apply Box.drewN | with_reducible apply Box.drew | with_reducible apply Box.alloc | with_reducible apply Box.set | (with_reducible apply Box.set_other; case hg => omega)))); rfl))), (by first | with_reducible assumption | (apply Box.as; (focus (repeat (first | with_reducible assumption | (with_reducible apply Box.new; simp; done) | with_reducible apply Box.gw | with_reducible apply Box.drewN | with_reducible apply Box.drew | with_reducible apply Box.alloc | with_reducible apply Box.set | (with_reducible apply Box.set_other; case hg => omega)))); rfl))⟩, rfl⟩)
            case measure => simp [intOf]
          · have n1 : (n == 9) = false := by rw [beq_eq_false_iff_ne]; exact e1
            have n2 : (n == 29) = false := by rw [beq_eq_false_iff_ne]; exact e2
            have E1 := Lib.hid e1
            have E2 := Lib.hid e2
            clear e1 e2
            go_wp2_with fail
            go_quiet (fail)
            go_wp2_with fail
            go_quiet (fail)
            go_wp2_with fail
            have HE : flagsK n f0 8 = fk := by
              rw [HF.out]
              unfold flagStep; rw [if_neg E1.out, if_neg (fun h => E2.out h.1)]
            go_roundw
            case rel => first | exact ⟨8, by omega, (by first | rfl | go_num), (by repeat (first | with_reducible exact Below.refl _ _ | with_reducible assumption | with_reducible exact GW.grow _ | with_reducible refine bl_alloc ?_ _ | with_reducible refine Below.drewN ?_ _ | with_reducible refine Below.drew ?_ | (with_reducible refine Below.setCell ?_ ?_ _; rotate_left; focus (simp; first | done | omega)) | with_reducible refine bl_trans ?_ (GW.grow _) | (with_reducible refine bl_trans ?_ (by assumption)))), (by rw [HE]; exact (by first | with_reducible assumption | (apply Box.as; (focus (repeat (first | with_reducible assumption | (with_reducible apply Box.new; simp; done) | with_reducible apply Box.gw | with_reducible apply Box.drewN | with_reducible apply Box.drew | with_reducible apply Box.alloc | with_reducible apply Box.set | (with_reducible apply Box.set_other; case hg => omega)))); rfl))), (by first | with_reducible assumption | (apply Box.as; (focus (repeat (first | with_reducible assumption | (with_reducible apply Box.new; simp; done) | with_reducible apply Box.gw | with_reducible apply Box.drewN | with_reducible apply Box.drew | with_reducible apply Box.alloc | with_reducible apply Box.set | (with_reducible apply Box.set_other; case hg => omega)))); rfl))⟩ | ((repeat apply Exists.intro); exact ⟨⟨8, by omega, (by first | rfl | go_num), (by repeat (first | with_reducible exact Below.refl _ _ | with_reducible assumption | with_reducible exact GW.grow _ | with_reducible refine bl_alloc ?_ _ | with_reducible refine Below.drewN ?_ _ | with_reducible refine Below.drew ?_ | (with_reducible refine Below.setCell ?_ ?_ _; rotate_left; focus (simp; first | done | omega)) | with_reducible refine bl_trans ?_ (GW.grow _) | (with_reducible refine bl_trans ?_ (by assumption)))), (by rw [HE]; exact (by first | with_reducible assumption | (apply Box.as; (focus (repeat (first | with_reducible assumption | (with_reducible apply Box.new; simp; done) | with_reducible apply Box.gw | with_reducible apply Box.drewN | with_reducible apply Box.drew | with_reducible apply Box.alloc | with_reducible apply Box.set | (with_reducible apply Box.set_other; case hg => omega)))); rfl))), (by first | with_reducible assumption | (apply Box.as; (focus (repeat (first | with_reducible assumption | (with_reducible apply Box.new; simp; done) | with_reducible apply Box.gw | with_reducible apply Box.drewN | with_reducible apply Box.drew | with_reducible apply Box.alloc | with_reducible apply Box.set | (with_reducible apply Box.set_other; case hg => omega)))); rfl))⟩, rfl⟩)
            case measure => simp [intOf]
      · generalize flagsK n f0 8 = fz at *
        have yc := yP.cell
        have yf := yP.free
        have yc2 := yR.cell
        have yf2 := yR.free
        go_wp2_with fail
        have hS : Below wr.heap.size wr wr.drew := (Below.refl _ _).drew
        refine wp_region_late (fun Z => Below wr.heap.size wr Z) [9, 11] (by kernel_rfl) ?_
        refine wpAnyG_pure (v := ?v0b) 0 rfl (by kernel_rfl) (by kernel_rfl) (by kernel_rfl) (by kernel_rfl) (fun _ _ _ h => h) (Or.inl ⟨by rfl, ?h0b⟩) (fun _ => hS) (fun _ => ?r0b)
        case h0b => (intro w _; go_simp; try with_reducible rfl)
        try simp only [Act.put, List.getElem_toArray, List.getElem_cons_zero, List.getElem_cons_succ, List.setIfInBounds_toArray, List.set_cons_zero, List.set_cons_succ]
        refine wpAnyG_load (v := ?v1b) 1 rfl (by kernel_rfl) (by kernel_rfl) (by kernel_rfl) (by kernel_rfl) (fun _ _ _ h => h) (Or.inl ⟨by rfl, ?h1b⟩) hS (fun _ => ?r1b)
        case h1b => (intro Z hZ; obtain ⟨z1, z2⟩ := bcell hZ; go_simp; try with_reducible rfl)
        try simp only [Act.put, List.getElem_toArray, List.getElem_cons_zero, List.getElem_cons_succ, List.setIfInBounds_toArray, List.set_cons_zero, List.set_cons_succ]
        refine wpAnyG_pure (v := ?v2b) 2 rfl (by kernel_rfl) (by kernel_rfl) (by kernel_rfl) (by kernel_rfl) (fun _ _ _ h => h) (Or.inl ⟨by rfl, ?h2b⟩) (fun _ => hS) (fun _ => ?r2b)
        case h2b => (intro w _; go_simp; try with_reducible rfl)
        try simp only [Act.put, List.getElem_toArray, List.getElem_cons_zero, List.getElem_cons_succ, List.setIfInBounds_toArray, List.set_cons_zero, List.set_cons_succ]
        refine wpAnyG_pure (v := ?v4b) 4 rfl (by kernel_rfl) (by kernel_rfl) (by kernel_rfl) (by kernel_rfl) (fun _ _ _ h => h) (Or.inl ⟨by rfl, ?h4b⟩) (fun _ => hS) (fun _ => ?r4b)
        case h4b => (intro w _; go_simp; try with_reducible rfl)
        try simp only [Act.put, List.getElem_toArray, List.getElem_cons_zero, List.getElem_cons_succ, List.setIfInBounds_toArray, List.set_cons_zero, List.set_cons_succ]
        refine wpAnyG_load (v := ?v5b) 5 rfl (by kernel_rfl) (by kernel_rfl) (by kernel_rfl) (by kernel_rfl) (fun _ _ _ h => h) (Or.inl ⟨by rfl, ?h5b⟩) hS (fun _ => ?r5b)
        case h5b => (intro Z hZ; obtain ⟨z1, z2⟩ := bcell hZ; go_simp; try with_reducible rfl)
        try simp only [Act.put, List.getElem_toArray, List.getElem_cons_zero, List.getElem_cons_succ, List.setIfInBounds_toArray, List.set_cons_zero, List.set_cons_succ]
        refine wpAnyG_pure (v := ?v6b) 6 rfl (by kernel_rfl) (by kernel_rfl) (by kernel_rfl) (by kernel_rfl) (fun _ _ _ h => h) (Or.inl ⟨by rfl, ?h6b⟩) (fun _ => hS) (fun _ => ?r6b)
        case h6b => (intro w _; go_simp; try with_reducible rfl)
        try simp only [Act.put, List.getElem_toArray, List.getElem_cons_zero, List.getElem_cons_succ, List.setIfInBounds_toArray, List.set_cons_zero, List.set_cons_succ]
        refine wpAnyG_one 3 rfl (by kernel_rfl) ?_
        refine wpOp_step rfl (fun K hK => ?_)
        go_simp
        with_reducible refine (cF _ hbel.drew).mono ?_
        rintro e w1 ⟨rfl, hb1⟩
        have hcur1 : Below wr.heap.size wr w1 := bl_trans hS hb1
        go_simp
        refine hK _ _ ⟨fun _ => hcur1, ?_⟩
        clear hK K
        try simp only [Act.put, List.getElem_toArray, List.getElem_cons_zero, List.getElem_cons_succ, List.setIfInBounds_toArray, List.set_cons_zero, List.set_cons_succ]
        refine wpAnyG_pure (v := ?v8b) 8 rfl (by kernel_rfl) (by kernel_rfl) (by kernel_rfl) (by kernel_rfl) (fun _ _ _ h => h) (Or.inl ⟨by rfl, ?h8b⟩) (fun _ => hcur1) (fun _ => ?r8b)
        case h8b => (intro w _; go_simp; try with_reducible rfl)
        try simp only [Act.put, List.getElem_toArray, List.getElem_cons_zero, List.getElem_cons_succ, List.setIfInBounds_toArray, List.set_cons_zero, List.set_cons_succ]
        refine wpAnyG_one 7 rfl (by kernel_rfl) ?_
        refine wpOp_step rfl (fun K hK => ?_)
        go_simp
        refine (cB _ (bl_trans hbel hcur1)).mono ?_
        rintro e w2 ⟨rfl, hb2⟩
        have hcur2 : Below wr.heap.size wr w2 := bl_trans hcur1 hb2
        go_simp
        refine hK _ _ ⟨fun _ => hcur2, ?_⟩
        clear hK K
        try simp only [Act.put, List.getElem_toArray, List.getElem_cons_zero, List.getElem_cons_succ, List.setIfInBounds_toArray, List.set_cons_zero, List.set_cons_succ]
        have zP := Box.past hcur2 yP
        have zR := Box.past hcur2 yR
        have zf := zP.free
        have zc := zP.cell
        have zl := zP.lt
        refine wpAnyG_one 9 rfl (by kernel_rfl) ?_
        refine wpOp_step rfl (fun K hK => ?_)
        go_simp
        refine hK _ _ ⟨fun h => absurd (h 9 (by simp)) (by simp), ?_⟩
        clear hK K
        try simp only [Act.put, List.getElem_toArray, List.getElem_cons_zero, List.getElem_cons_succ, List.setIfInBounds_toArray, List.set_cons_zero, List.set_cons_succ]
        refine wpAnyG_one 10 rfl (by kernel_rfl) ?_
        refine wpOp_step rfl (fun K hK => ?_)
        go_simp
        refine hK _ _ ⟨fun h => absurd (h 9 (by simp)) (by simp), ?_⟩
        clear hK K
        try simp only [Act.put, List.getElem_toArray, List.getElem_cons_zero, List.getElem_cons_succ, List.setIfInBounds_toArray, List.set_cons_zero, List.set_cons_succ]
        refine wpAnyG_one 11 rfl (by kernel_rfl) ?_
        refine wpOp_step rfl (fun K hK => ?_)
        go_simp
        refine hK _ _ ⟨fun h => absurd (h 9 (by simp)) (by simp), ?_⟩
        clear hK K
        try simp only [Act.put, List.getElem_toArray, List.getElem_cons_zero, List.getElem_cons_succ, List.setIfInBounds_toArray, List.set_cons_zero, List.set_cons_succ]
        refine wpAnyG_done (by kernel_rfl) ?_ _
        refine then_name (fun Z => Box Z w.heap.size #[.int .i64 qf.k, .int .u8 qf.i, .int .u8 qf.r, .int .u8 qf.g, .int .u8 qf.b, .int .i64 qb.k, .int .u8 qb.i, .int .u8 qb.r, .int .u8 qb.g, .int .u8 qb.b, .int .u8 fz] 27 ∧ Box Z (w.heap.size + 1) #[.int .i64 0, .int .u8 0, .int .u8 0, .int .u8 0, .int .u8 0, .int .i64 0, .int .u8 0, .int .u8 0, .int .u8 0, .int .u8 0, .int .u8 0] 27 ∧ Below w.heap.size w Z) ⟨setc10 zP _ _ _ _ _ _ _ _ _ _, Box.bar zR (barc10 _ _ _ _ _ _ _ _ _ _ _ _) (by omega), Bar.to_below (bl_trans hbel hcur2) (barc10 _ _ _ _ _ _ _ _ _ _ _ _) (Nat.le_refl _)⟩ ?_
        rintro W9 ⟨vP, vR, hW9⟩
        clear zP zR zf zc zl yc yf yc2 yf2 yP yR yl yl2
        have vc := vP.cell
        have vl := vP.lt
        have vc2 := vR.cell
        have vf2 := vR.free
        have vl2 := vR.lt
        go_wp2_with fail
        have xE := setc11 vR (.int .i64 qf.k) (.int .u8 qf.i) (.int .u8 qf.r) (.int .u8 qf.g) (.int .u8 qf.b) (.int .i64 qb.k) (.int .u8 qb.i) (.int .u8 qb.r) (.int .u8 qb.g) (.int .u8 qb.b) (.int .u8 fz)
        have xl := xE.lt
        refine ret_row (n := 11) rfl rfl Tryd.underlying27 rfl (by kernel_rfl) rfl ⟨_, by simp (maxDischargeDepth := 6) [go_sem, Box.row xE, xl] <;> rfl, rfl, ?_⟩
        exact ⟨by rw [HQ.out], Bar.to_below hW9 (barc11 _ _ _ _ _ _ _ _ _ _ _ _ _) (by omega)⟩

end Go.Proofs.YtdoeiaekimbecaaDoor
