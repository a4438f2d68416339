/- style: the reference's Apply. Printed by mk_m.py. -/
import Derived.Test.YtdoeiaekimbecaaDoorL
import Derived.Outline
set_option linter.unusedSimpArgs false
set_option linter.unusedVariables false
set_option linter.unnecessarySimpa false
namespace Go.Proofs.YtdoeiaekimbecaaDoor
open Go.RowKit

def oneGR (p : Pn) (g : List Int) : Pn := if g.getD 0 0 ≤ 0 then ⟨coZ, coZ, 0⟩ else oneR p g (g.getD 0 0)
theorem rone_any (p : Pn) (v : Value) (g : List Int) (w : World) (h : Rd w .i64 v g) (h0 : 0 < g.length) (hn : g.getD 0 0 ≤ 9999) : Calls Tryd.prog 23 #[.agg p.a, v] w fun e w' => e = .returned (.agg (oneGR p g).a) ∧ Below w.heap.size w w' := by
  unfold oneGR
  by_cases hz : g.getD 0 0 ≤ 0
  · rw [if_pos hz]; exact rone_zero p v g w h h0 hz
  · rw [if_neg hz]; exact rone_at p v g _ w h h0 (by omega) rfl
def applyRF : Nat → Pn → List Int → Pn
  | 0, p, _ => p
  | k + 1, p, l => if l = [] then p else applyRF k (oneGR p (l.take (groupN l))) (l.drop (groupN l))
def applyR (p : Pn) (l : List Int) : Pn := applyRF l.length p l
theorem applyRF_more (k : Nat) : ∀ (m : Nat) (p : Pn) (l : List Int), l.length ≤ k → l.length ≤ m → applyRF k p l = applyRF m p l := by
  induction k with
  | zero =>
    intro m p l hk hm
    have : l = [] := List.length_eq_zero_iff.1 (by omega)
    subst this
    cases m <;> simp [applyRF]
  | succ k ih =>
    intro m p l hk hm
    by_cases hl : l = []
    · subst hl
      cases m <;> simp [applyRF]
    · cases m with
      | zero => have := List.length_pos_iff.2 hl; omega
      | succ m =>
        have hg := group_pos l hl
        simp only [applyRF, if_neg hl]
        exact ih m _ _ (by rw [List.length_drop]; omega) (by rw [List.length_drop]; omega)
theorem applyR_step (p : Pn) (l : List Int) (hl : l ≠ []) : applyR p l = applyR (oneGR p (l.take (groupN l))) (l.drop (groupN l)) := by
  have hg := group_pos l hl
  have hp := List.length_pos_iff.2 hl
  unfold applyR
  obtain ⟨k, hk⟩ : ∃ k, l.length = k + 1 := ⟨l.length - 1, by omega⟩
  rw [hk]
  simp only [applyRF, if_neg hl]
  exact applyRF_more k _ _ _ (by rw [List.length_drop]; omega) (by rw [List.length_drop]; omega)
set_option maxHeartbeats 4000000 in
set_option maxRecDepth 100000 in
theorem rapply_any (p : Pn) (v : Value) (l : List Int) (w : World) (h : Rd w .i64 v l) (hr : rightN l = true) : Calls Tryd.prog 12 #[.agg p.a, v] w fun e w' => e = .returned (.agg (applyR p l).a) ∧ Below w.heap.size w w' := by
  have HR := Lib.hid hr
  clear hr
  obtain ⟨p0, n0, c0, hvs⟩ := h.shape
  subst hvs
  go_enter Tryd.func12, Tryd.ntmps12
  go_wp2_with fail
  refine wp_name (fun Z => Below w.heap.size w Z ∧ Box Z w.heap.size p.a 27 ∧ Box Z (w.heap.size + 1) #[.int .i64 0, .int .u8 0, .int .u8 0, .int .u8 0, .int .u8 0, .int .i64 0, .int .u8 0, .int .u8 0, .int .u8 0, .int .u8 0, .int .u8 0] 27) ⟨(by repeat (first | with_reducible exact Below.refl _ _ | with_reducible assumption | with_reducible exact GW.grow _ | with_reducible refine bl_alloc ?_ _ | with_reducible refine Below.drew ?_ | (with_reducible refine Below.setCell ?_ ?_ _; rotate_left; focus (simp; first | done | omega)) | with_reducible refine bl_trans ?_ (GW.grow _) | (with_reducible refine bl_trans ?_ (by assumption)))), (by first | with_reducible assumption | (apply Box.as; (focus (repeat (first | with_reducible assumption | (with_reducible apply Box.new; simp; done) | with_reducible apply Box.gw | with_reducible apply Box.drew | with_reducible apply Box.alloc | with_reducible apply Box.set | (with_reducible apply Box.set_other; case hg => omega)))); rfl)), (by first | with_reducible assumption | (apply Box.as; (focus (repeat (first | with_reducible assumption | (with_reducible apply Box.new; simp; done) | with_reducible apply Box.gw | with_reducible apply Box.drew | with_reducible apply Box.alloc | with_reducible apply Box.set | (with_reducible apply Box.set_other; case hg => omega)))); rfl))⟩ ?_
  rintro W0 ⟨hW0, xP, xR⟩
  go_loopw [1] (fun i wr => ∃ (ys : List Int) (q : Pn), Rd wr .i64 i ys ∧ Apart i w.heap.size ∧ applyR q ys = applyR p l ∧ rightN ys = true ∧ Below w.heap.size w wr ∧ Box wr w.heap.size q.a 27 ∧ Box wr (w.heap.size + 1) #[.int .i64 0, .int .u8 0, .int .u8 0, .int .u8 0, .int .u8 0, .int .i64 0, .int .u8 0, .int .u8 0, .int .u8 0, .int .u8 0, .int .u8 0] 27) (fun i _ => match i with | .slice _ n _ => n | _ => 0)
  case atStart => exact ⟨l, p, h.below hW0, (fun b off n c e => by have := h.in b (by rw [e]; rfl); omega), rfl, HR.out, hW0, xP, xR⟩
  case round =>
    obtain ⟨ys, q, hys, hAp, hap, hry, hbel, yP, yR⟩ := hrel
    have hys2 := hys
    obtain ⟨b, c, rfl, hlc, hcm, hcell⟩ := hys2
    clear xP xR hW0
    by_cases hl : ys = []
    · subst hl
      rw [show applyR q [] = q from rfl] at hap
      have HA := Lib.hid hap
      clear hap
      have yl := yP.lt
      have yc := yP.cell
      have yl2 := yR.lt
      have yc2 := yR.cell
      have yf2 := yR.free
      have yE := setc11 yR (.int .i64 q.f.k) (.int .u8 q.f.i) (.int .u8 q.f.r) (.int .u8 q.f.g) (.int .u8 q.f.b) (.int .i64 q.b.k) (.int .u8 q.b.i) (.int .u8 q.b.r) (.int .u8 q.b.g) (.int .u8 q.b.b) (.int .u8 q.x)
      have yEl := yE.lt
      go_wp2_with fail
      refine ret_row (n := 11) rfl rfl Tryd.underlying27 rfl (by kernel_rfl) rfl ⟨_, by simp (maxDischargeDepth := 6) [go_sem, Box.row yE, yEl] <;> rfl, rfl, ?_⟩
      exact ⟨by rw [← HA.out], Bar.to_below hbel (barc11 _ _ _ _ _ _ _ _ _ _ _ _ _) (by omega)⟩
    · have hp := List.length_pos_iff.2 hl
      have hg := group_pos ys hl
      obtain ⟨hh, hrest⟩ := right_head ys hry hl
      have hst := applyR_step q ys hl
      obtain ⟨bb, off, cap, hv, hbl, c0, c1⟩ := cells01 hys hp
      injection hv with e1 e2 e3
      have hbn : Apart (sliced (some ⟨bb, off, none⟩) (groupN ys) ys.length c 1) w.heap.size := apart_of (by rw [sliced_block _ 0 0]; subst e1; have := hAp _ _ _ _ rfl; simpa [Value.ownBlock] using this)
      subst e1 e3
      have cG : ∀ W, Below wr.heap.size wr W → Calls Tryd.prog 21 #[.slice (some ⟨bb, off, none⟩) ys.length c] W fun e w' => e = .returned (.int .i64 (groupN ys)) ∧ Below W.heap.size W w' := fun W hW => rgroup_any _ ys W (hys.below hW) hp
      generalize groupN ys = g at *
      obtain ⟨hg1, hg2⟩ := hg
      have hgc : g ≤ c := Nat.le_trans hg2 hlc
      have r1 := hys.part 0 g (Nat.zero_le _) hg2
      have r2 := hys.part g ys.length hg2 (Nat.le_refl _)
      rw [List.drop_zero] at r1
      have e0 : sliced (some ⟨bb, off, none⟩) 0 g c 1 = .slice (some ⟨bb, off, none⟩) g c := by
        unfold sliced
        rw [if_neg (by omega)]
        simp [Addr.add_lit]
      rw [e0] at r1
      have e9 : sliced (some ⟨bb, off, none⟩) g ys.length c 1 = .slice (if c = g then some ⟨bb, off, none⟩ else some ⟨bb, off + g, none⟩) (ys.length - g) (c - g) := by
        unfold sliced
        simp [Addr.add_lit]
      rw [e9] at r2 hbn
      rw [List.take_length] at r2
      have cO : ∀ W, Below wr.heap.size wr W → Calls Tryd.prog 23 #[.agg q.a, .slice (some ⟨bb, off, none⟩) g c] W fun e w' => e = .returned (.agg (oneGR q (ys.take g)).a) ∧ Below W.heap.size W w' := fun W hW => rone_any q _ (ys.take g) W (r1.below hW) (by rw [List.length_take]; omega) hh
      have s1 : ∀ W, (Instr.sliceAt 28 (.slice (some ⟨bb, off, none⟩) ys.length c) none (some (.int .i64 g)) none).run Tryd.prog W = .ok (sliced (some ⟨bb, off, none⟩) 0 g c 1) W := fun W => sliceAt_hi W _ _ _ _ hg2 hlc
      have s2 : ∀ W, (Instr.sliceAt 28 (.slice (some ⟨bb, off, none⟩) ys.length c) (some (.int .i64 g)) none none).run Tryd.prog W = .ok (sliced (some ⟨bb, off, none⟩) g ys.length c 1) W := fun W => sliceAt_lo W _ _ _ _ hg2 hlc
      have HS := Lib.hid (show applyR (oneGR q (ys.take g)) (ys.drop g) = applyR p l by rw [← hst]; exact hap)
      have HG := Lib.hid hg1
      have HRR := Lib.hid hrest
      clear hst hap c0 c1 hcell hcm r1 hh hry hrest hg1
      have hposI : (0 : Int) < (ys.length : Int) := by omega
      clear hl hp
      generalize oneGR q (ys.take g) = q' at *
      go_wp2_with (first | (go_at_call 21; (with_reducible refine (cG _ ?hbel).mono ?_); rotate_left; rintro e w2 ⟨rfl, hb⟩; (first | obtain ⟨Z, rfl⟩ := GW.of2 hb | obtain ⟨Z, rfl⟩ := GW.of hb); clear hb))
      have zP0 := Box.gw (X := Z) yP
      have zR0 := Box.gw (X := Z) yR
      have hZ := Z.grow
      generalize Z.world = W1 at *
      clear cG Z yP yR
      have yc := zP0.cell
      have yl := zP0.lt
      have hS : Below W1.heap.size W1 W1.drew := (Below.refl _ _).drew
      refine wp_region_late (fun Z => Below W1.heap.size W1 Z) [5] (by kernel_rfl) ?_
      refine wpAnyG_load (v := ?v0) 0 rfl (by kernel_rfl) (by kernel_rfl) (by kernel_rfl) (by kernel_rfl) (fun _ _ _ h => h) (Or.inl ⟨by rfl, ?h0⟩) hS (fun _ => ?r0)
      case h0 => (intro Z hZ; obtain ⟨z1, z2⟩ := bcell hZ; go_simp; try with_reducible rfl)
      try simp only [Act.put, List.getElem_toArray, List.getElem_cons_zero, List.getElem_cons_succ, List.setIfInBounds_toArray, List.set_cons_zero, List.set_cons_succ]
      refine wpAnyG_pure (v := ?v1) 1 rfl (by kernel_rfl) (by kernel_rfl) (by kernel_rfl) (by kernel_rfl) (fun _ _ _ h => h) (Or.inl ⟨by rfl, ?h1⟩) (fun _ => hS) (fun _ => ?r1)
      case h1 => (intro w _; go_simp; try with_reducible rfl)
      try simp only [Act.put, List.getElem_toArray, List.getElem_cons_zero, List.getElem_cons_succ, List.setIfInBounds_toArray, List.set_cons_zero, List.set_cons_succ]
      refine wpAnyG_pure (v := ?v2) 2 rfl (by kernel_rfl) (by kernel_rfl) (by kernel_rfl) (by kernel_rfl) (fun _ _ _ h => h) (Or.inl ⟨by rfl, ?h2⟩) (fun _ => hS) (fun _ => ?r2)
      case h2 => (intro w _; go_simp; try with_reducible rfl)
      try simp only [Act.put, List.getElem_toArray, List.getElem_cons_zero, List.getElem_cons_succ, List.setIfInBounds_toArray, List.set_cons_zero, List.set_cons_succ]
      refine wpAnyG_pure (v := ?v3) 3 rfl (by kernel_rfl) (by kernel_rfl) (by kernel_rfl) (by kernel_rfl) (fun _ _ _ h => h) (Or.inl ⟨by rfl, ?h3⟩) (fun _ => hS) (fun _ => ?r3)
      case h3 => (intro w _; go_simp; try with_reducible rfl)
      try simp only [Act.put, List.getElem_toArray, List.getElem_cons_zero, List.getElem_cons_succ, List.setIfInBounds_toArray, List.set_cons_zero, List.set_cons_succ]
      refine wpAnyG_one 4 rfl (by kernel_rfl) ?_
      refine wpOp_step rfl (fun K hK => ?_)
      go_simp
      with_reducible refine (cO _ (bl_trans hZ hS)).mono ?_
      rintro e w2 ⟨rfl, hb2⟩
      have hcur : Below W1.heap.size W1 w2 := bl_trans hS hb2
      go_simp
      refine hK _ _ ⟨fun _ => hcur, ?_⟩
      clear hK K
      try simp only [Act.put, List.getElem_toArray, List.getElem_cons_zero, List.getElem_cons_succ, List.setIfInBounds_toArray, List.set_cons_zero, List.set_cons_succ]
      have zP := Box.past hcur zP0
      have zR := Box.past hcur zR0
      have zf := zP.free
      have zc := zP.cell
      have zl := zP.lt
      refine wpAnyG_one 5 rfl (by kernel_rfl) ?_
      refine wpOp_step rfl (fun K hK => ?_)
      go_simp
      refine hK _ _ ⟨fun h => absurd (h 5 (by simp)) (by simp), ?_⟩
      clear hK K
      try simp only [Act.put, List.getElem_toArray, List.getElem_cons_zero, List.getElem_cons_succ, List.setIfInBounds_toArray, List.set_cons_zero, List.set_cons_succ]
      refine wpAnyG_done (by kernel_rfl) ?_ _
      go_wp2_with fail
      go_roundw
      case rel => exact ⟨ys.drop g, q', (r2.below (bl_trans hZ hcur)).bar hbn (barc11 _ _ _ _ _ _ _ _ _ _ _ _ _), hbn, HS.out, HRR.out, Bar.to_below (bl_trans hbel (bl_trans hZ hcur)) (barc11 _ _ _ _ _ _ _ _ _ _ _ _ _) (Nat.le_refl _), setc11 zP _ _ _ _ _ _ _ _ _ _ _, Box.bar zR (barc11 _ _ _ _ _ _ _ _ _ _ _ _ _) (by omega)⟩
      case measure => (have hz1 := HG.out; simp; omega)
      case hbel => exact (by repeat (first | with_reducible exact Below.refl _ _ | with_reducible assumption | with_reducible exact GW.grow _ | with_reducible refine bl_alloc ?_ _ | with_reducible refine Below.drew ?_ | (with_reducible refine Below.setCell ?_ ?_ _; rotate_left; focus (simp; first | done | omega)) | with_reducible refine bl_trans ?_ (GW.grow _) | (with_reducible refine bl_trans ?_ (by assumption))))

end Go.Proofs.YtdoeiaekimbecaaDoor
