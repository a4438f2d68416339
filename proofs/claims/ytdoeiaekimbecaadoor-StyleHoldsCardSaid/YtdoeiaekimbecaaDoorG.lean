/- style: Apply. Printed by mk_g.py. -/
import Derived.Test.YtdoeiaekimbecaaDoorF
import Derived.Outline
set_option linter.unusedSimpArgs false
set_option linter.unusedVariables false
set_option linter.unnecessarySimpa false
namespace Go.Proofs.YtdoeiaekimbecaaDoor
open Go.RowKit

def oneG (p : Pn) (g : List Int) : Pn := if g.getD 0 0 ≤ 0 then ⟨coZ, coZ, 0⟩ else oneN p g (g.getD 0 0)
theorem one_any (p : Pn) (v : Value) (g : List Int) (w : World) (hm : Mk w) (h : Rd w .i64 v g) (h0 : 0 < g.length) (hn : g.getD 0 0 ≤ 9999) : Calls Tryd.prog 32 #[.agg p.a, v] w fun e w' => e = .returned (.agg (oneG p g).a) ∧ Below w.heap.size w w' := by
  unfold oneG
  by_cases hz : g.getD 0 0 ≤ 0
  · rw [if_pos hz]; exact one_zero p v g w h h0 hz
  · rw [if_neg hz]; exact one_at p v g _ w hm h h0 (by omega) rfl
def applyF : Nat → Pn → List Int → Pn
  | 0, p, _ => p
  | k + 1, p, l => if l = [] then p else applyF k (oneG p (l.take (groupN l))) (l.drop (groupN l))
def applyN (p : Pn) (l : List Int) : Pn := applyF l.length p l
theorem applyF_more (k : Nat) : ∀ (m : Nat) (p : Pn) (l : List Int), l.length ≤ k → l.length ≤ m → applyF k p l = applyF m p l := by
  induction k with
  | zero =>
    intro m p l hk hm
    have : l = [] := List.length_eq_zero_iff.1 (by omega)
    subst this
    cases m <;> simp [applyF]
  | succ k ih =>
    intro m p l hk hm
    by_cases hl : l = []
    · subst hl
      cases m <;> simp [applyF]
    · cases m with
      | zero => have := List.length_pos_iff.2 hl; omega
      | succ m =>
        have hg := group_pos l hl
        simp only [applyF, if_neg hl]
        exact ih m _ _ (by rw [List.length_drop]; omega) (by rw [List.length_drop]; omega)
theorem applyN_step (p : Pn) (l : List Int) (hl : l ≠ []) : applyN p l = applyN (oneG p (l.take (groupN l))) (l.drop (groupN l)) := by
  have hg := group_pos l hl
  have hp := List.length_pos_iff.2 hl
  unfold applyN
  obtain ⟨k, hk⟩ : ∃ k, l.length = k + 1 := ⟨l.length - 1, by omega⟩
  rw [hk]
  simp only [applyF, if_neg hl]
  exact applyF_more k _ _ _ (by rw [List.length_drop]; omega) (by rw [List.length_drop]; omega)
set_option maxHeartbeats 4000000 in
theorem apply_bad (p : Pn) (v : Value) (l : List Int) (w : World) (h : Rd w .i64 v l) (hb : validP p = false ∨ rightN l = false) : Calls Tryd.prog 20 #[.agg p.a, v] w fun e w' => e = .returned (.tuple #[.agg (Pn.mk coZ coZ 0).a, .int .i64 2]) ∧ Below w.heap.size w w' := by
  have cV := fun W => valid_any p W
  have cC : ∀ W, Below w.heap.size w W → Calls Tryd.prog 30 #[v] W fun e w' => e = .returned (.int .i64 (chkN (rightN l))) ∧ Below W.heap.size W w' := fun W hW => check_any v l W (h.below hW)
  clear h
  by_cases hv : validP p = true
  · have hr : rightN l = false := hb.resolve_left (by simp [hv])
    rw [hr] at cC
    rw [hv] at cV
    clear hb hr hv
    have e2 : chkN false = 2 := rfl
    rw [e2] at cC
    clear e2
    go_enter Tryd.func20, Tryd.ntmps20
    go_wp2_with (first | (go_at_call 9; (with_reducible refine (cV _).mono ?_); rintro e w1 ⟨rfl, hb⟩; (first | obtain ⟨X, rfl⟩ := GW.of2 hb | obtain ⟨X, rfl⟩ := GW.of hb); clear hb) | (go_at_call 30; (with_reducible refine (cC _ ?hbel).mono ?_); rotate_left; rintro e w2 ⟨rfl, hb⟩; (first | obtain ⟨Y, rfl⟩ := GW.of2 hb | obtain ⟨Y, rfl⟩ := GW.of hb); clear hb))
    refine ret_row_tmp (n := 11) rfl rfl Tryd.underlying27 rfl (by kernel_rfl) rfl ⟨_, by simp (maxDischargeDepth := 6) [go_sem] <;> rfl, rfl, ?_⟩
    exact ⟨rfl, (by repeat (first | with_reducible exact Below.refl _ _ | with_reducible assumption | with_reducible exact GW.grow _ | with_reducible refine bl_alloc ?_ _ | with_reducible refine Below.drew ?_ | (with_reducible refine Below.setCell ?_ ?_ _; rotate_left; focus (simp; first | done | omega)) | with_reducible refine bl_trans ?_ (GW.grow _) | (with_reducible refine bl_trans ?_ (by assumption))))⟩
    case hbel => exact (by repeat (first | with_reducible exact Below.refl _ _ | with_reducible assumption | with_reducible exact GW.grow _ | with_reducible refine bl_alloc ?_ _ | with_reducible refine Below.drew ?_ | (with_reducible refine Below.setCell ?_ ?_ _; rotate_left; focus (simp; first | done | omega)) | with_reducible refine bl_trans ?_ (GW.grow _) | (with_reducible refine bl_trans ?_ (by assumption))))
  · have hv' : validP p = false := by simpa using hv
    rw [hv'] at cV
    clear hb hv hv' cC
    go_enter Tryd.func20, Tryd.ntmps20
    go_wp2_with (first | (go_at_call 9; (with_reducible refine (cV _).mono ?_); rintro e w1 ⟨rfl, hb⟩; (first | obtain ⟨X, rfl⟩ := GW.of2 hb | obtain ⟨X, rfl⟩ := GW.of hb); clear hb))
    refine ret_row_tmp (n := 11) rfl rfl Tryd.underlying27 rfl (by kernel_rfl) rfl ⟨_, by simp (maxDischargeDepth := 6) [go_sem] <;> rfl, rfl, ?_⟩
    exact ⟨rfl, (by repeat (first | with_reducible exact Below.refl _ _ | with_reducible assumption | with_reducible exact GW.grow _ | with_reducible refine bl_alloc ?_ _ | with_reducible refine Below.drew ?_ | (with_reducible refine Below.setCell ?_ ?_ _; rotate_left; focus (simp; first | done | omega)) | with_reducible refine bl_trans ?_ (GW.grow _) | (with_reducible refine bl_trans ?_ (by assumption))))⟩
/-- Every group's first number is right. -/
theorem right_head (l : List Int) (h : rightN l = true) (hl : l ≠ []) : (l.take (groupN l)).getD 0 0 ≤ 9999 ∧ rightN (l.drop (groupN l)) = true := by
  have hg := group_pos l hl
  unfold rightN at h ⊢
  rw [List.all_eq_true] at h
  refine ⟨?_, by rw [List.all_eq_true]; exact fun x hx => h x (List.mem_of_mem_drop hx)⟩
  cases l with
  | nil => exact absurd rfl hl
  | cons a t =>
    have := h a (by simp)
    obtain ⟨k, hk⟩ : ∃ k, groupN (a :: t) = k + 1 := ⟨groupN (a :: t) - 1, by omega⟩
    rw [hk]
    simpa using this
theorem slice_hi (W : World) (p : Option Addr) (n c g : Nat) (h1 : g ≤ n) (h2 : n ≤ c) : (Instr.slice 28 (.slice p n c) none (some (.int .i64 g)) none).run Tryd.prog W = .ok (sliced p 0 g c 1) W := by
  have hz : ∀ w, (sizeOf (Tryd.prog.elem 28)).run Tryd.prog w = .ok 1 w := Tryd.sizeOf3
  rw [run_slice_any W 28 p n c Tryd.underlying28]
  have hb : (Instr.sliceBounds true n c none (some (.int .i64 g)) none).run Tryd.prog W = .ok (0, g, c) W := by
    have k1 := run_sliceBound (P := Tryd.prog) W .i64 (g : Int) c .sliceAcap (by omega) (by omega)
    simp [Instr.sliceBounds, k1]
  rw [hb]
  simp only [Result.andThen_ok, hz]
theorem slice_lo (W : World) (p : Option Addr) (n c g : Nat) (h1 : g ≤ n) (h2 : n ≤ c) : (Instr.slice 28 (.slice p n c) (some (.int .i64 g)) none none).run Tryd.prog W = .ok (sliced p g n c 1) W := by
  have hz : ∀ w, (sizeOf (Tryd.prog.elem 28)).run Tryd.prog w = .ok 1 w := Tryd.sizeOf3
  rw [run_slice_any W 28 p n c Tryd.underlying28]
  have hb : (Instr.sliceBounds true n c (some (.int .i64 g)) none none).run Tryd.prog W = .ok (g, n, c) W := by
    have k1 := run_sliceBound (P := Tryd.prog) W .i64 (g : Int) n .sliceB (by omega) (by omega)
    simp [Instr.sliceBounds, k1]
  rw [hb]
  simp only [Result.andThen_ok, hz]
theorem sliceAt_hi (W : World) (p : Option Addr) (n c g : Nat) (h1 : g ≤ n) (h2 : n ≤ c) : (Instr.sliceAt 28 (.slice p n c) none (some (.int .i64 g)) none).run Tryd.prog W = .ok (sliced p 0 g c 1) W := by
  rw [run_sliceAt_slice W 28 _ _ _ _ Tryd.underlying28, slice_hi W p n c g h1 h2]
theorem sliceAt_lo (W : World) (p : Option Addr) (n c g : Nat) (h1 : g ≤ n) (h2 : n ≤ c) : (Instr.sliceAt 28 (.slice p n c) (some (.int .i64 g)) none none).run Tryd.prog W = .ok (sliced p g n c 1) W := by
  rw [run_sliceAt_slice W 28 _ _ _ _ Tryd.underlying28, slice_lo W p n c g h1 h2]
set_option maxHeartbeats 4000000 in
set_option maxRecDepth 100000 in
theorem apply_ok (p : Pn) (v : Value) (l : List Int) (w : World) (hm : Mk w) (h : Rd w .i64 v l) (hv : validP p = true) (hr : rightN l = true) : Calls Tryd.prog 20 #[.agg p.a, v] w fun e w' => e = .returned (.tuple #[.agg (applyN p l).a, .int .i64 0]) ∧ Below w.heap.size w w' := by
  have cV := fun W => valid_any p W
  have cC : ∀ W, Below w.heap.size w W → Calls Tryd.prog 30 #[v] W fun e w' => e = .returned (.int .i64 (chkN (rightN l))) ∧ Below W.heap.size W w' := fun W hW => check_any v l W (h.below hW)
  rw [hr] at cC
  rw [hv] at cV
  have e2 : chkN true = 0 := rfl
  rw [e2] at cC
  have HR := Lib.hid hr
  clear e2 hv hr
  obtain ⟨p0, n0, c0, hvs⟩ := h.shape
  subst hvs
  go_enter Tryd.func20, Tryd.ntmps20
  go_wp2_with (first | (go_at_call 9; (with_reducible refine (cV _).mono ?_); rintro e w1 ⟨rfl, hb⟩; (first | obtain ⟨X, rfl⟩ := GW.of2 hb | obtain ⟨X, rfl⟩ := GW.of hb); clear hb) | (go_at_call 30; (with_reducible refine (cC _ ?hbel).mono ?_); rotate_left; rintro e w2 ⟨rfl, hb⟩; (first | obtain ⟨Y, rfl⟩ := GW.of2 hb | obtain ⟨Y, rfl⟩ := GW.of hb); clear hb))
  case hbel => exact (by repeat (first | with_reducible exact Below.refl _ _ | with_reducible assumption | with_reducible exact GW.grow _ | with_reducible refine bl_alloc ?_ _ | with_reducible refine Below.drew ?_ | (with_reducible refine Below.setCell ?_ ?_ _; rotate_left; focus (simp; first | done | omega)) | with_reducible refine bl_trans ?_ (GW.grow _) | (with_reducible refine bl_trans ?_ (by assumption))))
  refine wp_name (fun Z => Below w.heap.size w Z ∧ Box Z w.heap.size p.a 27 ∧ Box Z (w.heap.size + 1) #[.int .i64 0, .int .u8 0, .int .u8 0, .int .u8 0, .int .u8 0, .int .i64 0, .int .u8 0, .int .u8 0, .int .u8 0, .int .u8 0, .int .u8 0] 27) ⟨(by repeat (first | with_reducible exact Below.refl _ _ | with_reducible assumption | with_reducible exact GW.grow _ | with_reducible refine bl_alloc ?_ _ | with_reducible refine Below.drew ?_ | (with_reducible refine Below.setCell ?_ ?_ _; rotate_left; focus (simp; first | done | omega)) | with_reducible refine bl_trans ?_ (GW.grow _) | (with_reducible refine bl_trans ?_ (by assumption)))), (by first | with_reducible assumption | (apply Box.as; (focus (repeat (first | with_reducible assumption | (with_reducible apply Box.new; simp; done) | with_reducible apply Box.gw | with_reducible apply Box.drew | with_reducible apply Box.alloc | with_reducible apply Box.set | (with_reducible apply Box.set_other; case hg => omega)))); rfl)), (by first | with_reducible assumption | (apply Box.as; (focus (repeat (first | with_reducible assumption | (with_reducible apply Box.new; simp; done) | with_reducible apply Box.gw | with_reducible apply Box.drew | with_reducible apply Box.alloc | with_reducible apply Box.set | (with_reducible apply Box.set_other; case hg => omega)))); rfl))⟩ ?_
  rintro W0 ⟨hW0, xP, xR⟩
  clear cV cC
  go_loopw [1] (fun i wr => ∃ (ys : List Int) (q : Pn), Rd wr .i64 i ys ∧ Apart i w.heap.size ∧ applyN q ys = applyN p l ∧ rightN ys = true ∧ Below w.heap.size w wr ∧ Box wr w.heap.size q.a 27 ∧ Box wr (w.heap.size + 1) #[.int .i64 0, .int .u8 0, .int .u8 0, .int .u8 0, .int .u8 0, .int .i64 0, .int .u8 0, .int .u8 0, .int .u8 0, .int .u8 0, .int .u8 0] 27) (fun i _ => match i with | .slice _ n _ => n | _ => 0)
  case atStart => exact ⟨l, p, h.below hW0, (fun b off n c e => by have := h.in b (by rw [e]; rfl); omega), rfl, HR.out, hW0, xP, xR⟩
  case round =>
    obtain ⟨ys, q, hys, hAp, hap, hry, hbel, yP, yR⟩ := hrel
    have hys2 := hys
    obtain ⟨b, c, rfl, hlc, hcm, hcell⟩ := hys2
    clear xP xR hW0
    by_cases hl : ys = []
    · subst hl
      rw [show applyN q [] = q from rfl] at hap
      have HA := Lib.hid hap
      clear hap
      have yl := yP.lt
      have yc := yP.cell
      have yl2 := yR.lt
      have yc2 := yR.cell
      have yf2 := yR.free
      have yE := setc11 yR (.int .i64 q.f.k) (.int .u8 q.f.i) (.int .u8 q.f.r) (.int .u8 q.f.g) (.int .u8 q.f.b) (.int .i64 q.b.k) (.int .u8 q.b.i) (.int .u8 q.b.r) (.int .u8 q.b.g) (.int .u8 q.b.b) (.int .u8 q.x)
      have yEl := yE.lt
      go_wp2_with fail
      refine ret_row_tmp (n := 11) rfl rfl Tryd.underlying27 rfl (by kernel_rfl) rfl ⟨_, by simp (maxDischargeDepth := 6) [go_sem, Box.row yE, yEl] <;> rfl, rfl, ?_⟩
      exact ⟨by rw [← HA.out]; rfl, Bar.to_below hbel (barc11 _ _ _ _ _ _ _ _ _ _ _ _ _) (by omega)⟩
    · have hp := List.length_pos_iff.2 hl
      have hg := group_pos ys hl
      obtain ⟨hh, hrest⟩ := right_head ys hry hl
      have hst := applyN_step q ys hl
      obtain ⟨bb, off, cap, hv, hbl, c0, c1⟩ := cells01 hys hp
      injection hv with e1 e2 e3
      have hbn : Apart (sliced (some ⟨bb, off, none⟩) (groupN ys) ys.length c 1) w.heap.size := apart_of (by rw [sliced_block _ 0 0]; subst e1; have := hAp _ _ _ _ rfl; simpa [Value.ownBlock] using this)
      subst e1 e3
      have cG : ∀ W, Below wr.heap.size wr W → Calls Tryd.prog 31 #[.slice (some ⟨bb, off, none⟩) ys.length c] W fun e w' => e = .returned (.int .i64 (groupN ys)) ∧ Below W.heap.size W w' := fun W hW => group_any _ ys W (hys.below hW) hp
      generalize groupN ys = g at *
      obtain ⟨hg1, hg2⟩ := hg
      have hgc : g ≤ c := Nat.le_trans hg2 hlc
      have r1 := hys.part 0 g (Nat.zero_le _) hg2
      have r2 := hys.part g ys.length hg2 (Nat.le_refl _)
      rw [List.drop_zero] at r1
      have e0 : sliced (some ⟨bb, off, none⟩) 0 g c 1 = .slice (some ⟨bb, off, none⟩) g c := by
        unfold sliced
        rw [if_neg (by omega)]
        simp [Addr.add_lit]
      rw [e0] at r1
      have e9 : sliced (some ⟨bb, off, none⟩) g ys.length c 1 = .slice (if c = g then some ⟨bb, off, none⟩ else some ⟨bb, off + g, none⟩) (ys.length - g) (c - g) := by
        unfold sliced
        simp [Addr.add_lit]
      rw [e9] at r2 hbn
      rw [List.take_length] at r2
      have cO : ∀ W, Below wr.heap.size wr W → Calls Tryd.prog 32 #[.agg q.a, .slice (some ⟨bb, off, none⟩) g c] W fun e w' => e = .returned (.agg (oneG q (ys.take g)).a) ∧ Below W.heap.size W w' := fun W hW => one_any q _ (ys.take g) W (hm.below (bl_trans hbel hW)) (r1.below hW) (by rw [List.length_take]; omega) hh
      have s1 : ∀ W, (Instr.sliceAt 28 (.slice (some ⟨bb, off, none⟩) ys.length c) none (some (.int .i64 g)) none).run Tryd.prog W = .ok (sliced (some ⟨bb, off, none⟩) 0 g c 1) W := fun W => sliceAt_hi W _ _ _ _ hg2 hlc
      have s2 : ∀ W, (Instr.sliceAt 28 (.slice (some ⟨bb, off, none⟩) ys.length c) (some (.int .i64 g)) none none).run Tryd.prog W = .ok (sliced (some ⟨bb, off, none⟩) g ys.length c 1) W := fun W => sliceAt_lo W _ _ _ _ hg2 hlc
      have HS := Lib.hid (show applyN (oneG q (ys.take g)) (ys.drop g) = applyN p l by rw [← hst]; exact hap)
      have HG := Lib.hid hg1
      have HRR := Lib.hid hrest
      clear hst hap c0 c1 hcell hcm r1 hh hry hrest hg1
      have hposI : (0 : Int) < (ys.length : Int) := by omega
      clear hl hp
      generalize oneG q (ys.take g) = q' at *
      go_wp2_with (first | (go_at_call 31; (with_reducible refine (cG _ ?hbel).mono ?_); rotate_left; rintro e w2 ⟨rfl, hb⟩; (first | obtain ⟨Z, rfl⟩ := GW.of2 hb | obtain ⟨Z, rfl⟩ := GW.of hb); clear hb))
      have zP0 := Box.gw (X := Z) yP
      have zR0 := Box.gw (X := Z) yR
      have hZ := Z.grow
      generalize Z.world = W1 at *
      clear cG Z yP yR
      have yc := zP0.cell
      have yl := zP0.lt
      have hS : Below W1.heap.size W1 W1.drew := (Below.refl _ _).drew
      refine wp_region_late (fun Z => Below W1.heap.size W1 Z) [8] (by kernel_rfl) ?_
      refine wpAnyG_load (v := ?v0) 0 rfl (by kernel_rfl) (by kernel_rfl) (by kernel_rfl) (by kernel_rfl) (fun _ _ _ h => h) (Or.inl ⟨by rfl, ?h0⟩) hS (fun _ => ?r0)
      case h0 => (intro Z hZ; obtain ⟨z1, z2⟩ := bcell hZ; go_simp; try with_reducible rfl)
      try simp only [Act.put, List.getElem_toArray, List.getElem_cons_zero, List.getElem_cons_succ, List.setIfInBounds_toArray, List.set_cons_zero, List.set_cons_succ]
      refine wpAnyG_pure (v := ?v1) 1 rfl (by kernel_rfl) (by kernel_rfl) (by kernel_rfl) (by kernel_rfl) (fun _ _ _ h => h) (Or.inl ⟨by rfl, ?h1⟩) (fun _ => hS) (fun _ => ?r1)
      case h1 => (intro w _; go_simp; try with_reducible rfl)
      try simp only [Act.put, List.getElem_toArray, List.getElem_cons_zero, List.getElem_cons_succ, List.setIfInBounds_toArray, List.set_cons_zero, List.set_cons_succ]
      refine wpAnyG_pure (v := ?v2) 2 rfl (by kernel_rfl) (by kernel_rfl) (by kernel_rfl) (by kernel_rfl) (fun _ _ _ h => h) (Or.inl ⟨by rfl, ?h2⟩) (fun _ => hS) (fun _ => ?r2)
      case h2 => (intro w _; go_simp; try with_reducible rfl)
      try simp only [Act.put, List.getElem_toArray, List.getElem_cons_zero, List.getElem_cons_succ, List.setIfInBounds_toArray, List.set_cons_zero, List.set_cons_succ]
      refine wpAnyG_pure (v := ?v3) 3 rfl (by kernel_rfl) (by kernel_rfl) (by kernel_rfl) (by kernel_rfl) (fun _ _ _ h => h) (Or.inl ⟨by rfl, ?h3⟩) (fun _ => hS) (fun _ => ?r3)
      case h3 => (intro w _; go_simp; try with_reducible rfl)
      try simp only [Act.put, List.getElem_toArray, List.getElem_cons_zero, List.getElem_cons_succ, List.setIfInBounds_toArray, List.set_cons_zero, List.set_cons_succ]
      refine wpAnyG_pure (v := ?v5) 5 rfl (by kernel_rfl) (by kernel_rfl) (by kernel_rfl) (by kernel_rfl) (fun _ _ _ h => h) (Or.inl ⟨by rfl, ?h5⟩) (fun _ => hS) (fun _ => ?r5)
      case h5 => (intro w _; go_simp; try with_reducible rfl)
      try simp only [Act.put, List.getElem_toArray, List.getElem_cons_zero, List.getElem_cons_succ, List.setIfInBounds_toArray, List.set_cons_zero, List.set_cons_succ]
      refine wpAnyG_pure (v := ?v6) 6 rfl (by kernel_rfl) (by kernel_rfl) (by kernel_rfl) (by kernel_rfl) (fun _ _ _ h => h) (Or.inl ⟨by rfl, ?h6⟩) (fun _ => hS) (fun _ => ?r6)
      case h6 => (intro w _; go_simp; try with_reducible rfl)
      try simp only [Act.put, List.getElem_toArray, List.getElem_cons_zero, List.getElem_cons_succ, List.setIfInBounds_toArray, List.set_cons_zero, List.set_cons_succ]
      refine wpAnyG_pure (v := ?v7) 7 rfl (by kernel_rfl) (by kernel_rfl) (by kernel_rfl) (by kernel_rfl) (fun _ _ _ h => h) (Or.inl ⟨by rfl, ?h7⟩) (fun _ => hS) (fun _ => ?r7)
      case h7 => (intro w _; go_simp; try with_reducible rfl)
      try simp only [Act.put, List.getElem_toArray, List.getElem_cons_zero, List.getElem_cons_succ, List.setIfInBounds_toArray, List.set_cons_zero, List.set_cons_succ]
      refine wpAnyG_one 4 rfl (by kernel_rfl) ?_
      refine wpOp_step rfl (fun K hK => ?_)
      go_simp
      with_reducible refine (cO _ (bl_trans hZ hS)).mono ?_
      rintro e w2 ⟨rfl, hb2⟩
      have hcur : Below W1.heap.size W1 w2 := bl_trans hS hb2
      go_simp
      refine hK _ _ ⟨fun _ => hcur, ?_⟩
      clear hK K
      try simp only [Act.put, List.getElem_toArray, List.getElem_cons_zero, List.getElem_cons_succ, List.setIfInBounds_toArray, List.set_cons_zero, List.set_cons_succ]
      have zP := Box.past hcur zP0
      have zR := Box.past hcur zR0
      have zf := zP.free
      have zc := zP.cell
      have zl := zP.lt
      refine wpAnyG_one 8 rfl (by kernel_rfl) ?_
      refine wpOp_step rfl (fun K hK => ?_)
      go_simp
      refine hK _ _ ⟨fun h => absurd (h 8 (by simp)) (by simp), ?_⟩
      clear hK K
      try simp only [Act.put, List.getElem_toArray, List.getElem_cons_zero, List.getElem_cons_succ, List.setIfInBounds_toArray, List.set_cons_zero, List.set_cons_succ]
      refine wpAnyG_one 9 rfl (by kernel_rfl) ?_
      refine wpOp_step rfl (fun K hK => ?_)
      go_simp
      refine hK _ _ ⟨fun h => absurd (h 8 (by simp)) (by simp), ?_⟩
      clear hK K
      try simp only [Act.put, List.getElem_toArray, List.getElem_cons_zero, List.getElem_cons_succ, List.setIfInBounds_toArray, List.set_cons_zero, List.set_cons_succ]
      refine wpAnyG_done (by kernel_rfl) ?_ _
      go_wp2_with fail
      go_roundw
      case rel => exact ⟨ys.drop g, q', (r2.below (bl_trans hZ hcur)).bar hbn (barc11 _ _ _ _ _ _ _ _ _ _ _ _ _), hbn, HS.out, HRR.out, Bar.to_below (bl_trans hbel (bl_trans hZ hcur)) (barc11 _ _ _ _ _ _ _ _ _ _ _ _ _) (Nat.le_refl _), setc11 zP _ _ _ _ _ _ _ _ _ _ _, Box.bar zR (barc11 _ _ _ _ _ _ _ _ _ _ _ _ _) (by omega)⟩
      case measure => (have hz1 := HG.out; simp; omega)
      case hbel => exact (by repeat (first | with_reducible exact Below.refl _ _ | with_reducible assumption | with_reducible exact GW.grow _ | with_reducible refine bl_alloc ?_ _ | with_reducible refine Below.drew ?_ | (with_reducible refine Below.setCell ?_ ?_ _; rotate_left; focus (simp; first | done | omega)) | with_reducible refine bl_trans ?_ (GW.grow _) | (with_reducible refine bl_trans ?_ (by assumption))))

end Go.Proofs.YtdoeiaekimbecaaDoor
