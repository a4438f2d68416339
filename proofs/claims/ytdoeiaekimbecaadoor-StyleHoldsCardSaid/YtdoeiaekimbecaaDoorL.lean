/- style: the reference's pen after a group. Printed by mk_l.py. -/
import Derived.Test.YtdoeiaekimbecaaDoorK
import Derived.Test.YtdoeiaekimbecaaDoorLate
import Derived.Outline
import Derived.Deep.CutBlock
import Derived.Deep.DeepCutAuto
set_option linter.unusedSimpArgs false
set_option linter.unusedVariables false
set_option linter.unnecessarySimpa false
namespace Go.Proofs.YtdoeiaekimbecaaDoor
open Go.RowKit

def flagR (n f fl k : Int) : Int := if n = k then bits .or .u8 f fl else if (n = k + 20 ∧ 2 < k) ∨ (n = 22 ∧ k ≤ 2) then bits .andNot .u8 f fl else f
def flagsR (n f : Int) : Nat → Int
  | 0 => f
  | k + 1 => flagR n (flagsR n f k) (mF k) (mN k)
def oneR (p : Pn) (g : List Int) (n : Int) : Pn := ⟨colorG p.f g (n - 30), colorG p.b g (n - 40), flagsR n p.x 8⟩
theorem numL (k : Nat) (h : k < 8) : ([1, 2, 3, 4, 5, 7, 8, 9] : List Int)[k]? = some (mN k) := by
  match k, h with
  | 0, _ | 1, _ | 2, _ | 3, _ | 4, _ | 5, _ | 6, _ | 7, _ => rfl
set_option maxHeartbeats 4000000 in
theorem rone_zero (p : Pn) (v : Value) (g : List Int) (w : World) (h : Rd w .i64 v g) (h0 : 0 < g.length) (hn : g.getD 0 0 ≤ 0) : Calls Tryd.prog 23 #[.agg p.a, v] w fun e w' => e = .returned (.agg (Pn.mk coZ coZ 0).a) ∧ Below w.heap.size w w' := by
  obtain ⟨b, off, cap, rfl, hbl, c0, _⟩ := cells01 h h0
  clear h
  generalize g.getD 0 0 = n at *
  have hmx : max 0 n = 0 := by omega
  go_enter Tryd.func23, Tryd.ntmps23
  go_wp2_with fail
  refine ret_row (n := 11) rfl rfl Tryd.underlying27 rfl (by kernel_rfl) rfl ⟨_, by simp (maxDischargeDepth := 6) [go_sem] <;> rfl, rfl, ?_⟩
  exact ⟨rfl, (by repeat (first | with_reducible exact Below.refl _ _ | with_reducible assumption | with_reducible exact GW.grow _ | with_reducible refine bl_alloc ?_ _ | with_reducible refine Below.drew ?_ | (with_reducible refine Below.setCell ?_ ?_ _; rotate_left; focus (simp; first | done | omega)) | with_reducible refine bl_trans ?_ (GW.grow _) | (with_reducible refine bl_trans ?_ (by assumption))))⟩
set_option maxHeartbeats 8000000 in
set_option maxRecDepth 100000 in
theorem rone_at (p : Pn) (v : Value) (g : List Int) (n : Int) (w : World) (h : Rd w .i64 v g) (h0 : 0 < g.length) (hn : 1 ≤ n ∧ n ≤ 9999) (hg : g.getD 0 0 = n) : Calls Tryd.prog 23 #[.agg p.a, v] w fun e w' => e = .returned (.agg (oneR p g n).a) ∧ Below w.heap.size w w' := by
  obtain ⟨b, off, cap, rfl, hbl, c00, _⟩ := cells01 h h0
  have cE : ∀ W, Below w.heap.size w W → Calls Tryd.prog 35 #[.slice (some ⟨b, off, none⟩) g.length cap] W (ExtE g W) := fun W hW => rcolor_any _ g W (h.below hW) h0
  rw [hg] at c00
  have HQ : Hid (oneR p g n = ⟨colorG p.f g (n - 30), colorG p.b g (n - 40), flagsR n p.x 8⟩) := Lib.hid rfl
  clear h hg
  generalize oneR p g n = q at *
  obtain ⟨hn1, hn2⟩ := hn
  have hmx : max 0 n = n := by omega
  have n0 : (n == 0) = false := by rw [beq_eq_false_iff_ne]; omega
  go_enter Tryd.func23, Tryd.ntmps23
  go_wp2_with fail
  refine wp_name (fun Z => Below w.heap.size w Z ∧ Box Z w.heap.size #[.int .i64 p.f.k, .int .u8 p.f.i, .int .u8 p.f.r, .int .u8 p.f.g, .int .u8 p.f.b, .int .i64 p.b.k, .int .u8 p.b.i, .int .u8 p.b.r, .int .u8 p.b.g, .int .u8 p.b.b, .int .u8 p.x] 27 ∧ Box Z (w.heap.size + 1) #[.int .i64 0, .int .u8 0, .int .u8 0, .int .u8 0, .int .u8 0, .int .i64 0, .int .u8 0, .int .u8 0, .int .u8 0, .int .u8 0, .int .u8 0] 27) ⟨(by repeat (first | with_reducible exact Below.refl _ _ | with_reducible assumption | with_reducible exact GW.grow _ | with_reducible refine bl_alloc ?_ _ | with_reducible refine Below.drew ?_ | (with_reducible refine Below.setCell ?_ ?_ _; rotate_left; focus (simp; first | done | omega)) | with_reducible refine bl_trans ?_ (GW.grow _) | (with_reducible refine bl_trans ?_ (by assumption)))), (by first | with_reducible assumption | (apply Box.as; (focus (repeat (first | with_reducible assumption | (with_reducible apply Box.new; simp; done) | with_reducible apply Box.gw | with_reducible apply Box.drew | with_reducible apply Box.alloc | with_reducible apply Box.set | (with_reducible apply Box.set_other; case hg => omega)))); rfl)), (by first | with_reducible assumption | (apply Box.as; (focus (repeat (first | with_reducible assumption | (with_reducible apply Box.new; simp; done) | with_reducible apply Box.gw | with_reducible apply Box.drew | with_reducible apply Box.alloc | with_reducible apply Box.set | (with_reducible apply Box.set_other; case hg => omega)))); rfl))⟩ ?_
  rintro W0 ⟨hW0, xP, xR⟩
  go_loopw [6] (fun i wr => ∃ k : Nat, k ≤ 8 ∧ i = .int .i64 k ∧ Below w.heap.size w wr ∧ Box wr w.heap.size #[.int .i64 p.f.k, .int .u8 p.f.i, .int .u8 p.f.r, .int .u8 p.f.g, .int .u8 p.f.b, .int .i64 p.b.k, .int .u8 p.b.i, .int .u8 p.b.r, .int .u8 p.b.g, .int .u8 p.b.b, .int .u8 (flagsR n p.x k)] 27 ∧ Box wr (w.heap.size + 1) #[.int .i64 0, .int .u8 0, .int .u8 0, .int .u8 0, .int .u8 0, .int .i64 0, .int .u8 0, .int .u8 0, .int .u8 0, .int .u8 0, .int .u8 0] 27) (fun i _ => 8 - (intOf i).toNat)
  case atStart => exact ⟨0, by omega, rfl, hW0, xP, xR⟩
  case round =>
    obtain ⟨k, hk, rfl, hbel, yP, yR⟩ := hrel
    clear xP xR hW0
    by_cases hlt : k < 8
    · have HF := Lib.hid (show flagsR n p.x (k + 1) = if n = mN k then bits .or .u8 (flagsR n p.x k) (mF k) else if (n = mN k + 20 ∧ 2 < mN k) ∨ (n = 22 ∧ mN k ≤ 2) then bits .andNot .u8 (flagsR n p.x k) (mF k) else flagsR n p.x k from rfl)
      have hn9 := mN_le k hlt
      have cFl := fun W => rflag_any k W hlt
      have HL := Lib.hid (numL k hlt)
      generalize flagsR n p.x k = fk at *
      generalize hmk : mF k = fl at *
      generalize hnk : mN k = kk at *
      clear hmk hnk
      obtain ⟨k1, k2⟩ := hn9
      have ltI : (k : Int) < 8 := by omega
      have cN := fun W => rnumbers_any W
      by_cases hA : n = kk
      · have HF2 := Lib.hid (show flagsR n p.x (k + 1) = bits .or .u8 fk fl by rw [HF.out, if_pos hA])
        subst hA
        go_wp2_with (go_at_call 26; (with_reducible refine (cN _).mono ?_); rintro e w1 ⟨v1, rfl, ho1, hb1⟩; obtain ⟨p1, c1, hv1, hl1, hc1, hx1⟩ := ho1.rd; subst hv1; have hl1 : 8 ≤ c1 := hl1; rcases hx1 with ⟨_, hx1⟩ | ⟨b1, o1, hx1, hb1l, hcell1⟩; (exfalso; omega); subst hx1; have cc := hcell1 k _ HL.out; clear hcell1; have bl1 := bl_trans hbel hb1; replace yP := Box.past hb1 yP; replace yR := Box.past hb1 yR; clear hb1 hbel ho1; have yc := yP.cell; have yl := yP.lt)
        have hS : Below w1.heap.size w1 w1.drew := (Below.refl _ _).drew
        refine wp_region_late (fun Z => Below w1.heap.size w1 Z) [6] (by kernel_rfl) ?_
        refine wpAnyG_pure (v := ?v0a) 0 rfl (by kernel_rfl) (by kernel_rfl) (by kernel_rfl) (by kernel_rfl) (fun _ _ _ h => h) (Or.inl ⟨by rfl, ?h0a⟩) (fun _ => hS) (fun _ => ?r0a)
        case h0a => (intro w _; go_simp; try with_reducible rfl)
        try simp only [Act.put, List.getElem_toArray, List.getElem_cons_zero, List.getElem_cons_succ, List.setIfInBounds_toArray, List.set_cons_zero, List.set_cons_succ]
        refine wpAnyG_load (v := ?v1a) 1 rfl (by kernel_rfl) (by kernel_rfl) (by kernel_rfl) (by kernel_rfl) (fun _ _ _ h => h) (Or.inl ⟨by rfl, ?h1a⟩) hS (fun _ => ?r1a)
        case h1a => (intro Z hZ; obtain ⟨z1, z2⟩ := bcell hZ; go_simp; try with_reducible rfl)
        try simp only [Act.put, List.getElem_toArray, List.getElem_cons_zero, List.getElem_cons_succ, List.setIfInBounds_toArray, List.set_cons_zero, List.set_cons_succ]
        refine wpAnyG_pure (v := ?v2a) 2 rfl (by kernel_rfl) (by kernel_rfl) (by kernel_rfl) (by kernel_rfl) (fun _ _ _ h => h) (Or.inl ⟨by rfl, ?h2a⟩) (fun _ => hS) (fun _ => ?r2a)
        case h2a => (intro w _; go_simp; try with_reducible rfl)
        try simp only [Act.put, List.getElem_toArray, List.getElem_cons_zero, List.getElem_cons_succ, List.setIfInBounds_toArray, List.set_cons_zero, List.set_cons_succ]
        refine wpAnyG_one 3 rfl (by kernel_rfl) ?_
        refine wpOp_step rfl (fun K hK => ?_)
        go_simp
        with_reducible refine (cFl _).mono ?_
        rintro e w2 ⟨rfl, hb2⟩
        have hcur : Below w1.heap.size w1 w2 := bl_trans hS hb2
        go_simp
        refine hK _ _ ⟨fun _ => hcur, ?_⟩
        clear hK K
        try simp only [Act.put, List.getElem_toArray, List.getElem_cons_zero, List.getElem_cons_succ, List.setIfInBounds_toArray, List.set_cons_zero, List.set_cons_succ]
        refine wpAnyG_pure (v := ?v4a) 4 rfl (by kernel_rfl) (by kernel_rfl) (by kernel_rfl) (by kernel_rfl) (fun _ _ _ h => h) (Or.inl ⟨by rfl, ?h4a⟩) (fun _ => hcur) (fun _ => ?r4a)
        case h4a => (intro w _; go_simp; try with_reducible rfl)
        try simp only [Act.put, List.getElem_toArray, List.getElem_cons_zero, List.getElem_cons_succ, List.setIfInBounds_toArray, List.set_cons_zero, List.set_cons_succ]
        refine wpAnyG_pure (v := ?v5a) 5 rfl (by kernel_rfl) (by kernel_rfl) (by kernel_rfl) (by kernel_rfl) (fun _ _ _ h => h) (Or.inl ⟨by rfl, ?h5a⟩) (fun _ => hcur) (fun _ => ?r5a)
        case h5a => (intro w _; go_simp; try with_reducible rfl)
        try simp only [Act.put, List.getElem_toArray, List.getElem_cons_zero, List.getElem_cons_succ, List.setIfInBounds_toArray, List.set_cons_zero, List.set_cons_succ]
        have zP := Box.past hcur yP
        have zR := Box.past hcur yR
        have zf := zP.free
        have zc := zP.cell
        have zl := zP.lt
        refine wpAnyG_one 6 rfl (by kernel_rfl) ?_
        refine wpOp_step rfl (fun K hK => ?_)
        go_simp
        refine hK _ _ ⟨fun h => absurd (h 6 (by simp)) (by simp), ?_⟩
        clear hK K
        try simp only [Act.put, List.getElem_toArray, List.getElem_cons_zero, List.getElem_cons_succ, List.setIfInBounds_toArray, List.set_cons_zero, List.set_cons_succ]
        refine wpAnyG_done (by kernel_rfl) ?_ _
        have zc2 := zP.cell
        go_wp2_with fail
        go_roundw
        case rel => exact ⟨k + 1, by omega, by go_num, Bar.to_below (bl_trans bl1 hcur) ((Bar.refl w.heap.size w2).set _ _) (Nat.le_refl _), (by rw [HF2.out]; exact Box.as (Box.set zP 10 _) (by simp)), Box.set_other zR (by omega) _ _⟩
        case measure => simp [intOf]; omega
      by_cases hB : n = kk + 20 ∧ 2 < kk
      · have HF2 := Lib.hid (show flagsR n p.x (k + 1) = bits .andNot .u8 fk fl by rw [HF.out, if_neg hA, if_pos (Or.inl hB)])
        obtain ⟨hB1, hB2⟩ := hB
        subst hB1
        go_wp2_with (go_at_call 26; (with_reducible refine (cN _).mono ?_); rintro e w1 ⟨v1, rfl, ho1, hb1⟩; obtain ⟨p1, c1, hv1, hl1, hc1, hx1⟩ := ho1.rd; subst hv1; have hl1 : 8 ≤ c1 := hl1; rcases hx1 with ⟨_, hx1⟩ | ⟨b1, o1, hx1, hb1l, hcell1⟩; (exfalso; omega); subst hx1; have cc := hcell1 k _ HL.out; clear hcell1; have bl1 := bl_trans hbel hb1; replace yP := Box.past hb1 yP; replace yR := Box.past hb1 yR; clear hb1 hbel ho1; have yc := yP.cell; have yl := yP.lt)
        have hS : Below w1.heap.size w1 w1.drew := (Below.refl _ _).drew
        refine wp_region_late (fun Z => Below w1.heap.size w1 Z) [6] (by kernel_rfl) ?_
        refine wpAnyG_pure (v := ?v0b) 0 rfl (by kernel_rfl) (by kernel_rfl) (by kernel_rfl) (by kernel_rfl) (fun _ _ _ h => h) (Or.inl ⟨by rfl, ?h0b⟩) (fun _ => hS) (fun _ => ?r0b)
        case h0b => (intro w _; go_simp; try with_reducible rfl)
        try simp only [Act.put, List.getElem_toArray, List.getElem_cons_zero, List.getElem_cons_succ, List.setIfInBounds_toArray, List.set_cons_zero, List.set_cons_succ]
        refine wpAnyG_load (v := ?v1b) 1 rfl (by kernel_rfl) (by kernel_rfl) (by kernel_rfl) (by kernel_rfl) (fun _ _ _ h => h) (Or.inl ⟨by rfl, ?h1b⟩) hS (fun _ => ?r1b)
        case h1b => (intro Z hZ; obtain ⟨z1, z2⟩ := bcell hZ; go_simp; try with_reducible rfl)
        try simp only [Act.put, List.getElem_toArray, List.getElem_cons_zero, List.getElem_cons_succ, List.setIfInBounds_toArray, List.set_cons_zero, List.set_cons_succ]
        refine wpAnyG_pure (v := ?v2b) 2 rfl (by kernel_rfl) (by kernel_rfl) (by kernel_rfl) (by kernel_rfl) (fun _ _ _ h => h) (Or.inl ⟨by rfl, ?h2b⟩) (fun _ => hS) (fun _ => ?r2b)
        case h2b => (intro w _; go_simp; try with_reducible rfl)
        try simp only [Act.put, List.getElem_toArray, List.getElem_cons_zero, List.getElem_cons_succ, List.setIfInBounds_toArray, List.set_cons_zero, List.set_cons_succ]
        refine wpAnyG_one 3 rfl (by kernel_rfl) ?_
        refine wpOp_step rfl (fun K hK => ?_)
        go_simp
        with_reducible refine (cFl _).mono ?_
        rintro e w2 ⟨rfl, hb2⟩
        have hcur : Below w1.heap.size w1 w2 := bl_trans hS hb2
        go_simp
        refine hK _ _ ⟨fun _ => hcur, ?_⟩
        clear hK K
        try simp only [Act.put, List.getElem_toArray, List.getElem_cons_zero, List.getElem_cons_succ, List.setIfInBounds_toArray, List.set_cons_zero, List.set_cons_succ]
        refine wpAnyG_pure (v := ?v4b) 4 rfl (by kernel_rfl) (by kernel_rfl) (by kernel_rfl) (by kernel_rfl) (fun _ _ _ h => h) (Or.inl ⟨by rfl, ?h4b⟩) (fun _ => hcur) (fun _ => ?r4b)
        case h4b => (intro w _; go_simp; try with_reducible rfl)
        try simp only [Act.put, List.getElem_toArray, List.getElem_cons_zero, List.getElem_cons_succ, List.setIfInBounds_toArray, List.set_cons_zero, List.set_cons_succ]
        refine wpAnyG_pure (v := ?v5b) 5 rfl (by kernel_rfl) (by kernel_rfl) (by kernel_rfl) (by kernel_rfl) (fun _ _ _ h => h) (Or.inl ⟨by rfl, ?h5b⟩) (fun _ => hcur) (fun _ => ?r5b)
        case h5b => (intro w _; go_simp; try with_reducible rfl)
        try simp only [Act.put, List.getElem_toArray, List.getElem_cons_zero, List.getElem_cons_succ, List.setIfInBounds_toArray, List.set_cons_zero, List.set_cons_succ]
        have zP := Box.past hcur yP
        have zR := Box.past hcur yR
        have zf := zP.free
        have zc := zP.cell
        have zl := zP.lt
        refine wpAnyG_one 6 rfl (by kernel_rfl) ?_
        refine wpOp_step rfl (fun K hK => ?_)
        go_simp
        refine hK _ _ ⟨fun h => absurd (h 6 (by simp)) (by simp), ?_⟩
        clear hK K
        try simp only [Act.put, List.getElem_toArray, List.getElem_cons_zero, List.getElem_cons_succ, List.setIfInBounds_toArray, List.set_cons_zero, List.set_cons_succ]
        refine wpAnyG_done (by kernel_rfl) ?_ _
        have zc2 := zP.cell
        go_wp2_with fail
        go_roundw
        case rel => exact ⟨k + 1, by omega, by go_num, Bar.to_below (bl_trans bl1 hcur) ((Bar.refl w.heap.size w2).set _ _) (Nat.le_refl _), (by rw [HF2.out]; exact Box.as (Box.set zP 10 _) (by simp)), Box.set_other zR (by omega) _ _⟩
        case measure => simp [intOf]; omega
      by_cases hC : n = 22 ∧ kk ≤ 2
      · have HF2 := Lib.hid (show flagsR n p.x (k + 1) = bits .andNot .u8 fk fl by rw [HF.out, if_neg hA, if_pos (Or.inr hC)])
        obtain ⟨hC1, hC2⟩ := hC
        subst hC1
        have hkk : kk = 1 ∨ kk = 2 := by omega
        rcases hkk with rfl | rfl
        · go_wp2_with (go_at_call 26; (with_reducible refine (cN _).mono ?_); rintro e w1 ⟨v1, rfl, ho1, hb1⟩; obtain ⟨p1, c1, hv1, hl1, hc1, hx1⟩ := ho1.rd; subst hv1; have hl1 : 8 ≤ c1 := hl1; rcases hx1 with ⟨_, hx1⟩ | ⟨b1, o1, hx1, hb1l, hcell1⟩; (exfalso; omega); subst hx1; have cc := hcell1 k _ HL.out; clear hcell1; have bl1 := bl_trans hbel hb1; replace yP := Box.past hb1 yP; replace yR := Box.past hb1 yR; clear hb1 hbel ho1; have yc := yP.cell; have yl := yP.lt)
          have hS : Below w1.heap.size w1 w1.drew := (Below.refl _ _).drew
          refine wp_region_late (fun Z => Below w1.heap.size w1 Z) [6] (by kernel_rfl) ?_
          refine wpAnyG_pure (v := ?v0c) 0 rfl (by kernel_rfl) (by kernel_rfl) (by kernel_rfl) (by kernel_rfl) (fun _ _ _ h => h) (Or.inl ⟨by rfl, ?h0c⟩) (fun _ => hS) (fun _ => ?r0c)
          case h0c => (intro w _; go_simp; try with_reducible rfl)
          try simp only [Act.put, List.getElem_toArray, List.getElem_cons_zero, List.getElem_cons_succ, List.setIfInBounds_toArray, List.set_cons_zero, List.set_cons_succ]
          refine wpAnyG_load (v := ?v1c) 1 rfl (by kernel_rfl) (by kernel_rfl) (by kernel_rfl) (by kernel_rfl) (fun _ _ _ h => h) (Or.inl ⟨by rfl, ?h1c⟩) hS (fun _ => ?r1c)
          case h1c => (intro Z hZ; obtain ⟨z1, z2⟩ := bcell hZ; go_simp; try with_reducible rfl)
          try simp only [Act.put, List.getElem_toArray, List.getElem_cons_zero, List.getElem_cons_succ, List.setIfInBounds_toArray, List.set_cons_zero, List.set_cons_succ]
          refine wpAnyG_pure (v := ?v2c) 2 rfl (by kernel_rfl) (by kernel_rfl) (by kernel_rfl) (by kernel_rfl) (fun _ _ _ h => h) (Or.inl ⟨by rfl, ?h2c⟩) (fun _ => hS) (fun _ => ?r2c)
          case h2c => (intro w _; go_simp; try with_reducible rfl)
          try simp only [Act.put, List.getElem_toArray, List.getElem_cons_zero, List.getElem_cons_succ, List.setIfInBounds_toArray, List.set_cons_zero, List.set_cons_succ]
          refine wpAnyG_one 3 rfl (by kernel_rfl) ?_
          refine wpOp_step rfl (fun K hK => ?_)
          go_simp
          with_reducible refine (cFl _).mono ?_
          rintro e w2 ⟨rfl, hb2⟩
          have hcur : Below w1.heap.size w1 w2 := bl_trans hS hb2
          go_simp
          refine hK _ _ ⟨fun _ => hcur, ?_⟩
          clear hK K
          try simp only [Act.put, List.getElem_toArray, List.getElem_cons_zero, List.getElem_cons_succ, List.setIfInBounds_toArray, List.set_cons_zero, List.set_cons_succ]
          refine wpAnyG_pure (v := ?v4c) 4 rfl (by kernel_rfl) (by kernel_rfl) (by kernel_rfl) (by kernel_rfl) (fun _ _ _ h => h) (Or.inl ⟨by rfl, ?h4c⟩) (fun _ => hcur) (fun _ => ?r4c)
          case h4c => (intro w _; go_simp; try with_reducible rfl)
          try simp only [Act.put, List.getElem_toArray, List.getElem_cons_zero, List.getElem_cons_succ, List.setIfInBounds_toArray, List.set_cons_zero, List.set_cons_succ]
          refine wpAnyG_pure (v := ?v5c) 5 rfl (by kernel_rfl) (by kernel_rfl) (by kernel_rfl) (by kernel_rfl) (fun _ _ _ h => h) (Or.inl ⟨by rfl, ?h5c⟩) (fun _ => hcur) (fun _ => ?r5c)
          case h5c => (intro w _; go_simp; try with_reducible rfl)
          try simp only [Act.put, List.getElem_toArray, List.getElem_cons_zero, List.getElem_cons_succ, List.setIfInBounds_toArray, List.set_cons_zero, List.set_cons_succ]
          have zP := Box.past hcur yP
          have zR := Box.past hcur yR
          have zf := zP.free
          have zc := zP.cell
          have zl := zP.lt
          refine wpAnyG_one 6 rfl (by kernel_rfl) ?_
          refine wpOp_step rfl (fun K hK => ?_)
          go_simp
          refine hK _ _ ⟨fun h => absurd (h 6 (by simp)) (by simp), ?_⟩
          clear hK K
          try simp only [Act.put, List.getElem_toArray, List.getElem_cons_zero, List.getElem_cons_succ, List.setIfInBounds_toArray, List.set_cons_zero, List.set_cons_succ]
          refine wpAnyG_done (by kernel_rfl) ?_ _
          have zc2 := zP.cell
          go_wp2_with fail
          go_roundw
          case rel => exact ⟨k + 1, by omega, by go_num, Bar.to_below (bl_trans bl1 hcur) ((Bar.refl w.heap.size w2).set _ _) (Nat.le_refl _), (by rw [HF2.out]; exact Box.as (Box.set zP 10 _) (by simp)), Box.set_other zR (by omega) _ _⟩
          case measure => simp [intOf]; omega
        · go_wp2_with (go_at_call 26; (with_reducible refine (cN _).mono ?_); rintro e w1 ⟨v1, rfl, ho1, hb1⟩; obtain ⟨p1, c1, hv1, hl1, hc1, hx1⟩ := ho1.rd; subst hv1; have hl1 : 8 ≤ c1 := hl1; rcases hx1 with ⟨_, hx1⟩ | ⟨b1, o1, hx1, hb1l, hcell1⟩; (exfalso; omega); subst hx1; have cc := hcell1 k _ HL.out; clear hcell1; have bl1 := bl_trans hbel hb1; replace yP := Box.past hb1 yP; replace yR := Box.past hb1 yR; clear hb1 hbel ho1; have yc := yP.cell; have yl := yP.lt)
          have hS : Below w1.heap.size w1 w1.drew := (Below.refl _ _).drew
          refine wp_region_late (fun Z => Below w1.heap.size w1 Z) [6] (by kernel_rfl) ?_
          refine wpAnyG_pure (v := ?v0d) 0 rfl (by kernel_rfl) (by kernel_rfl) (by kernel_rfl) (by kernel_rfl) (fun _ _ _ h => h) (Or.inl ⟨by rfl, ?h0d⟩) (fun _ => hS) (fun _ => ?r0d)
          case h0d => (intro w _; go_simp; try with_reducible rfl)
          try simp only [Act.put, List.getElem_toArray, List.getElem_cons_zero, List.getElem_cons_succ, List.setIfInBounds_toArray, List.set_cons_zero, List.set_cons_succ]
          refine wpAnyG_load (v := ?v1d) 1 rfl (by kernel_rfl) (by kernel_rfl) (by kernel_rfl) (by kernel_rfl) (fun _ _ _ h => h) (Or.inl ⟨by rfl, ?h1d⟩) hS (fun _ => ?r1d)
          case h1d => (intro Z hZ; obtain ⟨z1, z2⟩ := bcell hZ; go_simp; try with_reducible rfl)
          try simp only [Act.put, List.getElem_toArray, List.getElem_cons_zero, List.getElem_cons_succ, List.setIfInBounds_toArray, List.set_cons_zero, List.set_cons_succ]
          refine wpAnyG_pure (v := ?v2d) 2 rfl (by kernel_rfl) (by kernel_rfl) (by kernel_rfl) (by kernel_rfl) (fun _ _ _ h => h) (Or.inl ⟨by rfl, ?h2d⟩) (fun _ => hS) (fun _ => ?r2d)
          case h2d => (intro w _; go_simp; try with_reducible rfl)
          try simp only [Act.put, List.getElem_toArray, List.getElem_cons_zero, List.getElem_cons_succ, List.setIfInBounds_toArray, List.set_cons_zero, List.set_cons_succ]
          refine wpAnyG_one 3 rfl (by kernel_rfl) ?_
          refine wpOp_step rfl (fun K hK => ?_)
          go_simp
          with_reducible refine (cFl _).mono ?_
          rintro e w2 ⟨rfl, hb2⟩
          have hcur : Below w1.heap.size w1 w2 := bl_trans hS hb2
          go_simp
          refine hK _ _ ⟨fun _ => hcur, ?_⟩
          clear hK K
          try simp only [Act.put, List.getElem_toArray, List.getElem_cons_zero, List.getElem_cons_succ, List.setIfInBounds_toArray, List.set_cons_zero, List.set_cons_succ]
          refine wpAnyG_pure (v := ?v4d) 4 rfl (by kernel_rfl) (by kernel_rfl) (by kernel_rfl) (by kernel_rfl) (fun _ _ _ h => h) (Or.inl ⟨by rfl, ?h4d⟩) (fun _ => hcur) (fun _ => ?r4d)
          case h4d => (intro w _; go_simp; try with_reducible rfl)
          try simp only [Act.put, List.getElem_toArray, List.getElem_cons_zero, List.getElem_cons_succ, List.setIfInBounds_toArray, List.set_cons_zero, List.set_cons_succ]
          refine wpAnyG_pure (v := ?v5d) 5 rfl (by kernel_rfl) (by kernel_rfl) (by kernel_rfl) (by kernel_rfl) (fun _ _ _ h => h) (Or.inl ⟨by rfl, ?h5d⟩) (fun _ => hcur) (fun _ => ?r5d)
          case h5d => (intro w _; go_simp; try with_reducible rfl)
          try simp only [Act.put, List.getElem_toArray, List.getElem_cons_zero, List.getElem_cons_succ, List.setIfInBounds_toArray, List.set_cons_zero, List.set_cons_succ]
          have zP := Box.past hcur yP
          have zR := Box.past hcur yR
          have zf := zP.free
          have zc := zP.cell
          have zl := zP.lt
          refine wpAnyG_one 6 rfl (by kernel_rfl) ?_
          refine wpOp_step rfl (fun K hK => ?_)
          go_simp
          refine hK _ _ ⟨fun h => absurd (h 6 (by simp)) (by simp), ?_⟩
          clear hK K
          try simp only [Act.put, List.getElem_toArray, List.getElem_cons_zero, List.getElem_cons_succ, List.setIfInBounds_toArray, List.set_cons_zero, List.set_cons_succ]
          refine wpAnyG_done (by kernel_rfl) ?_ _
          have zc2 := zP.cell
          go_wp2_with fail
          go_roundw
          case rel => exact ⟨k + 1, by omega, by go_num, Bar.to_below (bl_trans bl1 hcur) ((Bar.refl w.heap.size w2).set _ _) (Nat.le_refl _), (by rw [HF2.out]; exact Box.as (Box.set zP 10 _) (by simp)), Box.set_other zR (by omega) _ _⟩
          case measure => simp [intOf]; omega
      have HF2 := Lib.hid (show flagsR n p.x (k + 1) = fk by rw [HF.out, if_neg hA, if_neg (by rintro (h | h); exact hB h; exact hC h)])
      by_cases hD : n = kk + 20
      · obtain rfl : kk = 1 := by omega
        obtain rfl : n = 21 := by omega
        go_wp2_with (go_at_call 26; (with_reducible refine (cN _).mono ?_); rintro e w1 ⟨v1, rfl, ho1, hb1⟩; obtain ⟨p1, c1, hv1, hl1, hc1, hx1⟩ := ho1.rd; subst hv1; have hl1 : 8 ≤ c1 := hl1; rcases hx1 with ⟨_, hx1⟩ | ⟨b1, o1, hx1, hb1l, hcell1⟩; (exfalso; omega); subst hx1; have cc := hcell1 k _ HL.out; clear hcell1; have bl1 := bl_trans hbel hb1; replace yP := Box.past hb1 yP; replace yR := Box.past hb1 yR; clear hb1 hbel ho1; have yc := yP.cell; have yl := yP.lt)
        go_roundw
        case rel => exact ⟨k + 1, by omega, by go_num, (by repeat (first | with_reducible exact Below.refl _ _ | with_reducible assumption | with_reducible exact GW.grow _ | with_reducible refine bl_alloc ?_ _ | with_reducible refine Below.drewN ?_ _ | with_reducible refine Below.drew ?_ | (with_reducible refine Below.setCell ?_ ?_ _; rotate_left; focus (simp; first | done | omega)) | with_reducible refine bl_trans ?_ (GW.grow _) | (with_reducible refine bl_trans ?_ (by assumption)))), (by rw [HF2.out]; exact (by first | with_reducible assumption | (apply Box.as; (focus (repeat (first | with_reducible assumption | (with_reducible apply Box.new; simp; done) | with_reducible apply Box.gw | with_reducible apply Box.drewN | with_reducible apply Box.drew | with_reducible apply Box.alloc | with_reducible apply Box.set | (with_reducible apply Box.set_other; case hg => omega)))); rfl))), (by first | with_reducible assumption | (apply Box.as; (focus (repeat (first | with_reducible assumption | (with_reducible apply Box.new; simp; done) | with_reducible apply Box.gw | with_reducible apply Box.drewN | with_reducible apply Box.drew | with_reducible apply Box.alloc | with_reducible apply Box.set | (with_reducible apply Box.set_other; case hg => omega)))); rfl))⟩
        case measure => simp [intOf]; omega
      have nA : (n == kk) = false := by rw [beq_eq_false_iff_ne]; exact hA
      have nD : (n == kk + 20) = false := by rw [beq_eq_false_iff_ne]; exact hD
      by_cases hE : n = 22
      · subst hE
        have hG : 2 < kk := by omega
        go_wp2_with (go_at_call 26; (with_reducible refine (cN _).mono ?_); rintro e w1 ⟨v1, rfl, ho1, hb1⟩; obtain ⟨p1, c1, hv1, hl1, hc1, hx1⟩ := ho1.rd; subst hv1; have hl1 : 8 ≤ c1 := hl1; rcases hx1 with ⟨_, hx1⟩ | ⟨b1, o1, hx1, hb1l, hcell1⟩; (exfalso; omega); subst hx1; have cc := hcell1 k _ HL.out; clear hcell1; have bl1 := bl_trans hbel hb1; replace yP := Box.past hb1 yP; replace yR := Box.past hb1 yR; clear hb1 hbel ho1; have yc := yP.cell; have yl := yP.lt)
        go_roundw
        case rel => exact ⟨k + 1, by omega, by go_num, (by repeat (first | with_reducible exact Below.refl _ _ | with_reducible assumption | with_reducible exact GW.grow _ | with_reducible refine bl_alloc ?_ _ | with_reducible refine Below.drewN ?_ _ | with_reducible refine Below.drew ?_ | (with_reducible refine Below.setCell ?_ ?_ _; rotate_left; focus (simp; first | done | omega)) | with_reducible refine bl_trans ?_ (GW.grow _) | (with_reducible refine bl_trans ?_ (by assumption)))), (by rw [HF2.out]; exact (by first | with_reducible assumption | (apply Box.as; (focus (repeat (first | with_reducible assumption | (with_reducible apply Box.new; simp; done) | with_reducible apply Box.gw | with_reducible apply Box.drewN | with_reducible apply Box.drew | with_reducible apply Box.alloc | with_reducible apply Box.set | (with_reducible apply Box.set_other; case hg => omega)))); rfl))), (by first | with_reducible assumption | (apply Box.as; (focus (repeat (first | with_reducible assumption | (with_reducible apply Box.new; simp; done) | with_reducible apply Box.gw | with_reducible apply Box.drewN | with_reducible apply Box.drew | with_reducible apply Box.alloc | with_reducible apply Box.set | (with_reducible apply Box.set_other; case hg => omega)))); rfl))⟩
        case measure => simp [intOf]; omega
      have nE : (n == 22) = false := by rw [beq_eq_false_iff_ne]; exact hE
      go_wp2_with (go_at_call 26; (with_reducible refine (cN _).mono ?_); rintro e w1 ⟨v1, rfl, ho1, hb1⟩; obtain ⟨p1, c1, hv1, hl1, hc1, hx1⟩ := ho1.rd; subst hv1; have hl1 : 8 ≤ c1 := hl1; rcases hx1 with ⟨_, hx1⟩ | ⟨b1, o1, hx1, hb1l, hcell1⟩; (exfalso; omega); subst hx1; have cc := hcell1 k _ HL.out; clear hcell1; have bl1 := bl_trans hbel hb1; replace yP := Box.past hb1 yP; replace yR := Box.past hb1 yR; clear hb1 hbel ho1; have yc := yP.cell; have yl := yP.lt)
      go_roundw
      case rel => exact ⟨k + 1, by omega, by go_num, (by repeat (first | with_reducible exact Below.refl _ _ | with_reducible assumption | with_reducible exact GW.grow _ | with_reducible refine bl_alloc ?_ _ | with_reducible refine Below.drewN ?_ _ | with_reducible refine Below.drew ?_ | (with_reducible refine Below.setCell ?_ ?_ _; rotate_left; focus (simp; first | done | omega)) | with_reducible refine bl_trans ?_ (GW.grow _) | (with_reducible refine bl_trans ?_ (by assumption)))), (by rw [HF2.out]; exact (by first | with_reducible assumption | (apply Box.as; (focus (repeat (first | with_reducible assumption | (with_reducible apply Box.new; simp; done) | with_reducible apply Box.gw | with_reducible apply Box.drewN | with_reducible apply Box.drew | with_reducible apply Box.alloc | with_reducible apply Box.set | (with_reducible apply Box.set_other; case hg => omega)))); rfl))), (by first | with_reducible assumption | (apply Box.as; (focus (repeat (first | with_reducible assumption | (with_reducible apply Box.new; simp; done) | with_reducible apply Box.gw | with_reducible apply Box.drewN | with_reducible apply Box.drew | with_reducible apply Box.alloc | with_reducible apply Box.set | (with_reducible apply Box.set_other; case hg => omega)))); rfl))⟩
      case measure => simp [intOf]; omega
    · obtain rfl : k = 8 := by omega
      generalize flagsR n p.x 8 = fz at *
      have yc := yP.cell
      have yl := yP.lt
      have yf := yP.free
      have zc := yR.cell
      have zl := yR.lt
      go_upto_region 13 with fail
      have hI : w.heap.size + 1 < wr.heap.size := zl
      refine wp_name (fun Z => Below w.heap.size w Z ∧ Box Z w.heap.size #[.int .i64 p.f.k, .int .u8 p.f.i, .int .u8 p.f.r, .int .u8 p.f.g, .int .u8 p.f.b, .int .i64 p.b.k, .int .u8 p.b.i, .int .u8 p.b.r, .int .u8 p.b.g, .int .u8 p.b.b, .int .u8 fz] 27 ∧ Box Z (w.heap.size + 1) #[.int .i64 0, .int .u8 0, .int .u8 0, .int .u8 0, .int .u8 0, .int .i64 0, .int .u8 0, .int .u8 0, .int .u8 0, .int .u8 0, .int .u8 0] 27 ∧ Box Z wr.heap.size #[.int .i64 1, .int .u8 (n % 10), .int .u8 0, .int .u8 0, .int .u8 0] 24) ⟨(by repeat (first | with_reducible exact Below.refl _ _ | with_reducible assumption | with_reducible exact GW.grow _ | with_reducible refine bl_alloc ?_ _ | with_reducible refine Below.drewN ?_ _ | with_reducible refine Below.drew ?_ | (with_reducible refine Below.setCell ?_ ?_ _; rotate_left; focus (simp; first | done | omega)) | with_reducible refine bl_trans ?_ (GW.grow _) | (with_reducible refine bl_trans ?_ (by assumption)))), (by first | with_reducible assumption | (apply Box.as; (focus (repeat (first | with_reducible assumption | (with_reducible apply Box.new; simp; done) | with_reducible apply Box.gw | with_reducible apply Box.drewN | with_reducible apply Box.drew | with_reducible apply Box.alloc | with_reducible apply Box.set | (with_reducible apply Box.set_other; case hg => omega)))); rfl)), (by first | with_reducible assumption | (apply Box.as; (focus (repeat (first | with_reducible assumption | (with_reducible apply Box.new; simp; done) | with_reducible apply Box.gw | with_reducible apply Box.drewN | with_reducible apply Box.drew | with_reducible apply Box.alloc | with_reducible apply Box.set | (with_reducible apply Box.set_other; case hg => omega)))); rfl)), Box.new _ _ _ rfl⟩ ?_
      rintro W1 ⟨hW1, vP, vR, vI⟩
      clear yP yR yc yl yf zc zl hbel
      obtain ⟨IX, hIX⟩ : ∃ IX, wr.heap.size = IX := ⟨_, rfl⟩
      rw [hIX] at hI vI ⊢
      clear hIX
      by_cases h90 : 90 ≤ n ∧ n ≤ 97
      · as_aux_lemma =>
          obtain ⟨h901, h902⟩ := h90
          have n39 : (n == 39) = false := by rw [beq_eq_false_iff_ne]; omega
          have n49 : (n == 49) = false := by rw [beq_eq_false_iff_ne]; omega
          have n38 : (n == 38) = false := by rw [beq_eq_false_iff_ne]; omega
          have n48 : (n == 48) = false := by rw [beq_eq_false_iff_ne]; omega
          have hm : n % 10 = n - 90 := by omega
          rw [hm] at vI
          have vc := vP.cell
          have vl := vP.lt
          have vf := vP.free
          have ic := vI.cell
          have il := vI.lt
          have if0 := vI.free
          go_upto_region 23 with fail
          refine wp_name (fun Z => Below w.heap.size w Z ∧ Box Z w.heap.size #[.int .i64 (coI (n - 90 + 8)).k, .int .u8 (coI (n - 90 + 8)).i, .int .u8 (coI (n - 90 + 8)).r, .int .u8 (coI (n - 90 + 8)).g, .int .u8 (coI (n - 90 + 8)).b, .int .i64 p.b.k, .int .u8 p.b.i, .int .u8 p.b.r, .int .u8 p.b.g, .int .u8 p.b.b, .int .u8 fz] 27 ∧ Box Z (w.heap.size + 1) #[.int .i64 0, .int .u8 0, .int .u8 0, .int .u8 0, .int .u8 0, .int .i64 0, .int .u8 0, .int .u8 0, .int .u8 0, .int .u8 0, .int .u8 0] 27) ⟨(by repeat (first | with_reducible exact Below.refl _ _ | with_reducible assumption | with_reducible exact GW.grow _ | with_reducible refine bl_alloc ?_ _ | with_reducible refine Below.drewN ?_ _ | with_reducible refine Below.drew ?_ | (with_reducible refine Below.setCell ?_ ?_ _; rotate_left; focus (simp; first | done | omega)) | with_reducible refine bl_trans ?_ (GW.grow _) | (with_reducible refine bl_trans ?_ (by assumption)))), (by first | with_reducible assumption | (apply Box.as; (focus (repeat (first | with_reducible assumption | (with_reducible apply Box.new; simp; done) | with_reducible apply Box.gw | with_reducible apply Box.drewN | with_reducible apply Box.drew | with_reducible apply Box.alloc | with_reducible apply Box.set | (with_reducible apply Box.set_other; case hg => omega)))); rfl)), (by first | with_reducible assumption | (apply Box.as; (focus (repeat (first | with_reducible assumption | (with_reducible apply Box.new; simp; done) | with_reducible apply Box.gw | with_reducible apply Box.drewN | with_reducible apply Box.drew | with_reducible apply Box.alloc | with_reducible apply Box.set | (with_reducible apply Box.set_other; case hg => omega)))); rfl))⟩ ?_
          rintro W2 ⟨hW2, uP, uR⟩
          clear vc vl vf ic il if0 vP vR vI hW1
          cases hx : extB g
          · have HF1 : Hid (q = ⟨(coI (n - 90 + 8)), p.b, fz⟩) := Lib.hid (by rw [HQ.out]; simp only [colorG, hx]; congr 1 <;> (repeat' split) <;> first | rfl | (exfalso; omega) | (congr 1; omega) | (simp_all; done) | (simp_all; omega))
            have cE2 : Calls Tryd.prog 35 #[.slice (some ⟨b, off, none⟩) g.length cap] W2 fun e w' => ∃ c : Co, e = .returned (.tuple #[.agg c.a, .bool false]) ∧ Below W2.heap.size W2 w' := (cE W2 hW2).mono (by
              rintro e w' ⟨c, is, rfl, his, hcx, hb⟩
              rw [hx] at his; subst his
              exact ⟨c, rfl, hb⟩)
            clear cE hx HQ
            go_upto_region 28 with (go_at_call 35; (with_reducible refine cE2.mono ?_); rintro e w5 ⟨c, rfl, hb5⟩; have tP := Box.past hb5 uP; have tR := Box.past hb5 uR; have tc := tP.cell; have tl := tP.lt; have tf := tP.free; have hw5 := bl_trans hW2 hb5)
            refine wp_name (fun Z => Below w.heap.size w Z ∧ Box Z w.heap.size #[.int .i64 (coI (n - 90 + 8)).k, .int .u8 (coI (n - 90 + 8)).i, .int .u8 (coI (n - 90 + 8)).r, .int .u8 (coI (n - 90 + 8)).g, .int .u8 (coI (n - 90 + 8)).b, .int .i64 p.b.k, .int .u8 p.b.i, .int .u8 p.b.r, .int .u8 p.b.g, .int .u8 p.b.b, .int .u8 fz] 27 ∧ Box Z (w.heap.size + 1) #[.int .i64 0, .int .u8 0, .int .u8 0, .int .u8 0, .int .u8 0, .int .i64 0, .int .u8 0, .int .u8 0, .int .u8 0, .int .u8 0, .int .u8 0] 27) ⟨(by repeat (first | with_reducible exact Below.refl _ _ | with_reducible assumption | with_reducible exact GW.grow _ | with_reducible refine bl_alloc ?_ _ | with_reducible refine Below.drewN ?_ _ | with_reducible refine Below.drew ?_ | (with_reducible refine Below.setCell ?_ ?_ _; rotate_left; focus (simp; first | done | omega)) | with_reducible refine bl_trans ?_ (GW.grow _) | (with_reducible refine bl_trans ?_ (by assumption)))), (by first | with_reducible assumption | (apply Box.as; (focus (repeat (first | with_reducible assumption | (with_reducible apply Box.new; simp; done) | with_reducible apply Box.gw | with_reducible apply Box.drewN | with_reducible apply Box.drew | with_reducible apply Box.alloc | with_reducible apply Box.set | (with_reducible apply Box.set_other; case hg => omega)))); rfl)), (by first | with_reducible assumption | (apply Box.as; (focus (repeat (first | with_reducible assumption | (with_reducible apply Box.new; simp; done) | with_reducible apply Box.gw | with_reducible apply Box.drewN | with_reducible apply Box.drew | with_reducible apply Box.alloc | with_reducible apply Box.set | (with_reducible apply Box.set_other; case hg => omega)))); rfl))⟩ ?_
            rintro W9 ⟨hW9, sP, sR⟩
            clear tP tR tc tl tf hw5 uP uR hW2
            obtain ⟨qf, hqf⟩ : ∃ qf : Co, qf = (coI (n - 90 + 8)) := ⟨_, rfl⟩
            obtain ⟨qb, hqb⟩ : ∃ qb : Co, qb = p.b := ⟨_, rfl⟩
            rw [← hqf, ← hqb] at sP HF1
            clear hqf hqb
            have sc := sP.cell
            have sl := sP.lt
            have sc2 := sR.cell
            have sl2 := sR.lt
            have sf2 := sR.free
            go_wp2_with (first | ((with_reducible (show wpList _ _ _ _ _ _)); refine wpList_load_row rfl 27 _ rfl w.heap.size rfl 27 _ (0, 0) _ sP Tryd.underlying27 rfl (by kernel_rfl) ?_; try simp only [Act.put, List.getElem_toArray, List.getElem_cons_zero, List.getElem_cons_succ, List.setIfInBounds_toArray, List.set_cons_zero, List.set_cons_succ]) | ((with_reducible (show wpList _ _ _ _ _ _)); refine wpList_store_row rfl 27 _ _ rfl (w.heap.size + 1) #[.int .i64 qf.k, .int .u8 qf.i, .int .u8 qf.r, .int .u8 qf.g, .int .u8 qf.b, .int .i64 qb.k, .int .u8 qb.i, .int .u8 qb.r, .int .u8 qb.g, .int .u8 qb.b, .int .u8 fz] (by go_simp) (by go_simp) 27 _ sR (by kernel_rfl) rfl (by simp [Value.oneCell']) ?_; try simp only [Act.put, List.getElem_toArray, List.getElem_cons_zero, List.getElem_cons_succ, List.setIfInBounds_toArray, List.set_cons_zero, List.set_cons_succ]))
            refine ret_row (n := 11) rfl rfl Tryd.underlying27 rfl (by kernel_rfl) rfl ⟨_, rowAt_of (setRow_heap _ _ _ _ _ _ sR), rfl, ?_⟩
            exact ⟨by rw [HF1.out], below_setRow hW9 (by omega) _⟩
          · have HF1 : Hid (q = ⟨(coI (n - 90 + 8)), p.b, fz⟩) := Lib.hid (by rw [HQ.out]; simp only [colorG, hx]; congr 1 <;> (repeat' split) <;> first | rfl | (exfalso; omega) | (congr 1; omega) | (simp_all; done) | (simp_all; omega))
            have cE2 : Calls Tryd.prog 35 #[.slice (some ⟨b, off, none⟩) g.length cap] W2 fun e w' => ∃ c : Co, e = .returned (.tuple #[.agg c.a, .bool true]) ∧ c = extC g ∧ Below W2.heap.size W2 w' := (cE W2 hW2).mono (by
              rintro e w' ⟨c, is, rfl, his, hcx, hb⟩
              rw [hx] at his; subst his
              exact ⟨c, rfl, hcx rfl, hb⟩)
            clear cE hx HQ
            generalize extC g = ex at *
            go_upto_region 28 with (go_at_call 35; (with_reducible refine cE2.mono ?_); rintro e w5 ⟨c, rfl, rfl, hb5⟩; have tP := Box.past hb5 uP; have tR := Box.past hb5 uR; have tc := tP.cell; have tl := tP.lt; have tf := tP.free; have hw5 := bl_trans hW2 hb5)
            refine wp_name (fun Z => Below w.heap.size w Z ∧ Box Z w.heap.size #[.int .i64 (coI (n - 90 + 8)).k, .int .u8 (coI (n - 90 + 8)).i, .int .u8 (coI (n - 90 + 8)).r, .int .u8 (coI (n - 90 + 8)).g, .int .u8 (coI (n - 90 + 8)).b, .int .i64 p.b.k, .int .u8 p.b.i, .int .u8 p.b.r, .int .u8 p.b.g, .int .u8 p.b.b, .int .u8 fz] 27 ∧ Box Z (w.heap.size + 1) #[.int .i64 0, .int .u8 0, .int .u8 0, .int .u8 0, .int .u8 0, .int .i64 0, .int .u8 0, .int .u8 0, .int .u8 0, .int .u8 0, .int .u8 0] 27) ⟨(by repeat (first | with_reducible exact Below.refl _ _ | with_reducible assumption | with_reducible exact GW.grow _ | with_reducible refine bl_alloc ?_ _ | with_reducible refine Below.drewN ?_ _ | with_reducible refine Below.drew ?_ | (with_reducible refine Below.setCell ?_ ?_ _; rotate_left; focus (simp; first | done | omega)) | with_reducible refine bl_trans ?_ (GW.grow _) | (with_reducible refine bl_trans ?_ (by assumption)))), (by first | with_reducible assumption | (apply Box.as; (focus (repeat (first | with_reducible assumption | (with_reducible apply Box.new; simp; done) | with_reducible apply Box.gw | with_reducible apply Box.drewN | with_reducible apply Box.drew | with_reducible apply Box.alloc | with_reducible apply Box.set | (with_reducible apply Box.set_other; case hg => omega)))); rfl)), (by first | with_reducible assumption | (apply Box.as; (focus (repeat (first | with_reducible assumption | (with_reducible apply Box.new; simp; done) | with_reducible apply Box.gw | with_reducible apply Box.drewN | with_reducible apply Box.drew | with_reducible apply Box.alloc | with_reducible apply Box.set | (with_reducible apply Box.set_other; case hg => omega)))); rfl))⟩ ?_
            rintro W9 ⟨hW9, sP, sR⟩
            clear tP tR tc tl tf hw5 uP uR hW2
            obtain ⟨qf, hqf⟩ : ∃ qf : Co, qf = (coI (n - 90 + 8)) := ⟨_, rfl⟩
            obtain ⟨qb, hqb⟩ : ∃ qb : Co, qb = p.b := ⟨_, rfl⟩
            rw [← hqf, ← hqb] at sP HF1
            clear hqf hqb
            have sc := sP.cell
            have sl := sP.lt
            have sc2 := sR.cell
            have sl2 := sR.lt
            have sf2 := sR.free
            go_wp2_with (first | ((with_reducible (show wpList _ _ _ _ _ _)); refine wpList_load_row rfl 27 _ rfl w.heap.size rfl 27 _ (0, 0) _ sP Tryd.underlying27 rfl (by kernel_rfl) ?_; try simp only [Act.put, List.getElem_toArray, List.getElem_cons_zero, List.getElem_cons_succ, List.setIfInBounds_toArray, List.set_cons_zero, List.set_cons_succ]) | ((with_reducible (show wpList _ _ _ _ _ _)); refine wpList_store_row rfl 27 _ _ rfl (w.heap.size + 1) #[.int .i64 qf.k, .int .u8 qf.i, .int .u8 qf.r, .int .u8 qf.g, .int .u8 qf.b, .int .i64 qb.k, .int .u8 qb.i, .int .u8 qb.r, .int .u8 qb.g, .int .u8 qb.b, .int .u8 fz] (by go_simp) (by go_simp) 27 _ sR (by kernel_rfl) rfl (by simp [Value.oneCell']) ?_; try simp only [Act.put, List.getElem_toArray, List.getElem_cons_zero, List.getElem_cons_succ, List.setIfInBounds_toArray, List.set_cons_zero, List.set_cons_succ]))
            refine ret_row (n := 11) rfl rfl Tryd.underlying27 rfl (by kernel_rfl) rfl ⟨_, rowAt_of (setRow_heap _ _ _ _ _ _ sR), rfl, ?_⟩
            exact ⟨by rw [HF1.out], below_setRow hW9 (by omega) _⟩
      by_cases h100 : 100 ≤ n ∧ n ≤ 107
      · as_aux_lemma =>
          obtain ⟨h1001, h1002⟩ := h100
          have n39 : (n == 39) = false := by rw [beq_eq_false_iff_ne]; omega
          have n49 : (n == 49) = false := by rw [beq_eq_false_iff_ne]; omega
          have n38 : (n == 38) = false := by rw [beq_eq_false_iff_ne]; omega
          have n48 : (n == 48) = false := by rw [beq_eq_false_iff_ne]; omega
          have hm : n % 10 = n - 100 := by omega
          rw [hm] at vI
          have vc := vP.cell
          have vl := vP.lt
          have vf := vP.free
          have ic := vI.cell
          have il := vI.lt
          have if0 := vI.free
          go_upto_region 23 with fail
          refine wp_name (fun Z => Below w.heap.size w Z ∧ Box Z w.heap.size #[.int .i64 p.f.k, .int .u8 p.f.i, .int .u8 p.f.r, .int .u8 p.f.g, .int .u8 p.f.b, .int .i64 (coI (n - 100 + 8)).k, .int .u8 (coI (n - 100 + 8)).i, .int .u8 (coI (n - 100 + 8)).r, .int .u8 (coI (n - 100 + 8)).g, .int .u8 (coI (n - 100 + 8)).b, .int .u8 fz] 27 ∧ Box Z (w.heap.size + 1) #[.int .i64 0, .int .u8 0, .int .u8 0, .int .u8 0, .int .u8 0, .int .i64 0, .int .u8 0, .int .u8 0, .int .u8 0, .int .u8 0, .int .u8 0] 27) ⟨(by repeat (first | with_reducible exact Below.refl _ _ | with_reducible assumption | with_reducible exact GW.grow _ | with_reducible refine bl_alloc ?_ _ | with_reducible refine Below.drewN ?_ _ | with_reducible refine Below.drew ?_ | (with_reducible refine Below.setCell ?_ ?_ _; rotate_left; focus (simp; first | done | omega)) | with_reducible refine bl_trans ?_ (GW.grow _) | (with_reducible refine bl_trans ?_ (by assumption)))), (by first | with_reducible assumption | (apply Box.as; (focus (repeat (first | with_reducible assumption | (with_reducible apply Box.new; simp; done) | with_reducible apply Box.gw | with_reducible apply Box.drewN | with_reducible apply Box.drew | with_reducible apply Box.alloc | with_reducible apply Box.set | (with_reducible apply Box.set_other; case hg => omega)))); rfl)), (by first | with_reducible assumption | (apply Box.as; (focus (repeat (first | with_reducible assumption | (with_reducible apply Box.new; simp; done) | with_reducible apply Box.gw | with_reducible apply Box.drewN | with_reducible apply Box.drew | with_reducible apply Box.alloc | with_reducible apply Box.set | (with_reducible apply Box.set_other; case hg => omega)))); rfl))⟩ ?_
          rintro W2 ⟨hW2, uP, uR⟩
          clear vc vl vf ic il if0 vP vR vI hW1
          cases hx : extB g
          · have HF1 : Hid (q = ⟨p.f, (coI (n - 100 + 8)), fz⟩) := Lib.hid (by rw [HQ.out]; simp only [colorG, hx]; congr 1 <;> (repeat' split) <;> first | rfl | (exfalso; omega) | (congr 1; omega) | (simp_all; done) | (simp_all; omega))
            have cE2 : Calls Tryd.prog 35 #[.slice (some ⟨b, off, none⟩) g.length cap] W2 fun e w' => ∃ c : Co, e = .returned (.tuple #[.agg c.a, .bool false]) ∧ Below W2.heap.size W2 w' := (cE W2 hW2).mono (by
              rintro e w' ⟨c, is, rfl, his, hcx, hb⟩
              rw [hx] at his; subst his
              exact ⟨c, rfl, hb⟩)
            clear cE hx HQ
            go_upto_region 28 with (go_at_call 35; (with_reducible refine cE2.mono ?_); rintro e w5 ⟨c, rfl, hb5⟩; have tP := Box.past hb5 uP; have tR := Box.past hb5 uR; have tc := tP.cell; have tl := tP.lt; have tf := tP.free; have hw5 := bl_trans hW2 hb5)
            refine wp_name (fun Z => Below w.heap.size w Z ∧ Box Z w.heap.size #[.int .i64 p.f.k, .int .u8 p.f.i, .int .u8 p.f.r, .int .u8 p.f.g, .int .u8 p.f.b, .int .i64 (coI (n - 100 + 8)).k, .int .u8 (coI (n - 100 + 8)).i, .int .u8 (coI (n - 100 + 8)).r, .int .u8 (coI (n - 100 + 8)).g, .int .u8 (coI (n - 100 + 8)).b, .int .u8 fz] 27 ∧ Box Z (w.heap.size + 1) #[.int .i64 0, .int .u8 0, .int .u8 0, .int .u8 0, .int .u8 0, .int .i64 0, .int .u8 0, .int .u8 0, .int .u8 0, .int .u8 0, .int .u8 0] 27) ⟨(by repeat (first | with_reducible exact Below.refl _ _ | with_reducible assumption | with_reducible exact GW.grow _ | with_reducible refine bl_alloc ?_ _ | with_reducible refine Below.drewN ?_ _ | with_reducible refine Below.drew ?_ | (with_reducible refine Below.setCell ?_ ?_ _; rotate_left; focus (simp; first | done | omega)) | with_reducible refine bl_trans ?_ (GW.grow _) | (with_reducible refine bl_trans ?_ (by assumption)))), (by first | with_reducible assumption | (apply Box.as; (focus (repeat (first | with_reducible assumption | (with_reducible apply Box.new; simp; done) | with_reducible apply Box.gw | with_reducible apply Box.drewN | with_reducible apply Box.drew | with_reducible apply Box.alloc | with_reducible apply Box.set | (with_reducible apply Box.set_other; case hg => omega)))); rfl)), (by first | with_reducible assumption | (apply Box.as; (focus (repeat (first | with_reducible assumption | (with_reducible apply Box.new; simp; done) | with_reducible apply Box.gw | with_reducible apply Box.drewN | with_reducible apply Box.drew | with_reducible apply Box.alloc | with_reducible apply Box.set | (with_reducible apply Box.set_other; case hg => omega)))); rfl))⟩ ?_
            rintro W9 ⟨hW9, sP, sR⟩
            clear tP tR tc tl tf hw5 uP uR hW2
            obtain ⟨qf, hqf⟩ : ∃ qf : Co, qf = p.f := ⟨_, rfl⟩
            obtain ⟨qb, hqb⟩ : ∃ qb : Co, qb = (coI (n - 100 + 8)) := ⟨_, rfl⟩
            rw [← hqf, ← hqb] at sP HF1
            clear hqf hqb
            have sc := sP.cell
            have sl := sP.lt
            have sc2 := sR.cell
            have sl2 := sR.lt
            have sf2 := sR.free
            go_wp2_with (first | ((with_reducible (show wpList _ _ _ _ _ _)); refine wpList_load_row rfl 27 _ rfl w.heap.size rfl 27 _ (0, 0) _ sP Tryd.underlying27 rfl (by kernel_rfl) ?_; try simp only [Act.put, List.getElem_toArray, List.getElem_cons_zero, List.getElem_cons_succ, List.setIfInBounds_toArray, List.set_cons_zero, List.set_cons_succ]) | ((with_reducible (show wpList _ _ _ _ _ _)); refine wpList_store_row rfl 27 _ _ rfl (w.heap.size + 1) #[.int .i64 qf.k, .int .u8 qf.i, .int .u8 qf.r, .int .u8 qf.g, .int .u8 qf.b, .int .i64 qb.k, .int .u8 qb.i, .int .u8 qb.r, .int .u8 qb.g, .int .u8 qb.b, .int .u8 fz] (by go_simp) (by go_simp) 27 _ sR (by kernel_rfl) rfl (by simp [Value.oneCell']) ?_; try simp only [Act.put, List.getElem_toArray, List.getElem_cons_zero, List.getElem_cons_succ, List.setIfInBounds_toArray, List.set_cons_zero, List.set_cons_succ]))
            refine ret_row (n := 11) rfl rfl Tryd.underlying27 rfl (by kernel_rfl) rfl ⟨_, rowAt_of (setRow_heap _ _ _ _ _ _ sR), rfl, ?_⟩
            exact ⟨by rw [HF1.out], below_setRow hW9 (by omega) _⟩
          · have HF1 : Hid (q = ⟨p.f, (coI (n - 100 + 8)), fz⟩) := Lib.hid (by rw [HQ.out]; simp only [colorG, hx]; congr 1 <;> (repeat' split) <;> first | rfl | (exfalso; omega) | (congr 1; omega) | (simp_all; done) | (simp_all; omega))
            have cE2 : Calls Tryd.prog 35 #[.slice (some ⟨b, off, none⟩) g.length cap] W2 fun e w' => ∃ c : Co, e = .returned (.tuple #[.agg c.a, .bool true]) ∧ c = extC g ∧ Below W2.heap.size W2 w' := (cE W2 hW2).mono (by
              rintro e w' ⟨c, is, rfl, his, hcx, hb⟩
              rw [hx] at his; subst his
              exact ⟨c, rfl, hcx rfl, hb⟩)
            clear cE hx HQ
            generalize extC g = ex at *
            go_upto_region 28 with (go_at_call 35; (with_reducible refine cE2.mono ?_); rintro e w5 ⟨c, rfl, rfl, hb5⟩; have tP := Box.past hb5 uP; have tR := Box.past hb5 uR; have tc := tP.cell; have tl := tP.lt; have tf := tP.free; have hw5 := bl_trans hW2 hb5)
            refine wp_name (fun Z => Below w.heap.size w Z ∧ Box Z w.heap.size #[.int .i64 p.f.k, .int .u8 p.f.i, .int .u8 p.f.r, .int .u8 p.f.g, .int .u8 p.f.b, .int .i64 (coI (n - 100 + 8)).k, .int .u8 (coI (n - 100 + 8)).i, .int .u8 (coI (n - 100 + 8)).r, .int .u8 (coI (n - 100 + 8)).g, .int .u8 (coI (n - 100 + 8)).b, .int .u8 fz] 27 ∧ Box Z (w.heap.size + 1) #[.int .i64 0, .int .u8 0, .int .u8 0, .int .u8 0, .int .u8 0, .int .i64 0, .int .u8 0, .int .u8 0, .int .u8 0, .int .u8 0, .int .u8 0] 27) ⟨(by repeat (first | with_reducible exact Below.refl _ _ | with_reducible assumption | with_reducible exact GW.grow _ | with_reducible refine bl_alloc ?_ _ | with_reducible refine Below.drewN ?_ _ | with_reducible refine Below.drew ?_ | (with_reducible refine Below.setCell ?_ ?_ _; rotate_left; focus (simp; first | done | omega)) | with_reducible refine bl_trans ?_ (GW.grow _) | (with_reducible refine bl_trans ?_ (by assumption)))), (by first | with_reducible assumption | (apply Box.as; (focus (repeat (first | with_reducible assumption | (with_reducible apply Box.new; simp; done) | with_reducible apply Box.gw | with_reducible apply Box.drewN | with_reducible apply Box.drew | with_reducible apply Box.alloc | with_reducible apply Box.set | (with_reducible apply Box.set_other; case hg => omega)))); rfl)), (by first | with_reducible assumption | (apply Box.as; (focus (repeat (first | with_reducible assumption | (with_reducible apply Box.new; simp; done) | with_reducible apply Box.gw | with_reducible apply Box.drewN | with_reducible apply Box.drew | with_reducible apply Box.alloc | with_reducible apply Box.set | (with_reducible apply Box.set_other; case hg => omega)))); rfl))⟩ ?_
            rintro W9 ⟨hW9, sP, sR⟩
            clear tP tR tc tl tf hw5 uP uR hW2
            obtain ⟨qf, hqf⟩ : ∃ qf : Co, qf = p.f := ⟨_, rfl⟩
            obtain ⟨qb, hqb⟩ : ∃ qb : Co, qb = (coI (n - 100 + 8)) := ⟨_, rfl⟩
            rw [← hqf, ← hqb] at sP HF1
            clear hqf hqb
            have sc := sP.cell
            have sl := sP.lt
            have sc2 := sR.cell
            have sl2 := sR.lt
            have sf2 := sR.free
            go_wp2_with (first | ((with_reducible (show wpList _ _ _ _ _ _)); refine wpList_load_row rfl 27 _ rfl w.heap.size rfl 27 _ (0, 0) _ sP Tryd.underlying27 rfl (by kernel_rfl) ?_; try simp only [Act.put, List.getElem_toArray, List.getElem_cons_zero, List.getElem_cons_succ, List.setIfInBounds_toArray, List.set_cons_zero, List.set_cons_succ]) | ((with_reducible (show wpList _ _ _ _ _ _)); refine wpList_store_row rfl 27 _ _ rfl (w.heap.size + 1) #[.int .i64 qf.k, .int .u8 qf.i, .int .u8 qf.r, .int .u8 qf.g, .int .u8 qf.b, .int .i64 qb.k, .int .u8 qb.i, .int .u8 qb.r, .int .u8 qb.g, .int .u8 qb.b, .int .u8 fz] (by go_simp) (by go_simp) 27 _ sR (by kernel_rfl) rfl (by simp [Value.oneCell']) ?_; try simp only [Act.put, List.getElem_toArray, List.getElem_cons_zero, List.getElem_cons_succ, List.setIfInBounds_toArray, List.set_cons_zero, List.set_cons_succ]))
            refine ret_row (n := 11) rfl rfl Tryd.underlying27 rfl (by kernel_rfl) rfl ⟨_, rowAt_of (setRow_heap _ _ _ _ _ _ sR), rfl, ?_⟩
            exact ⟨by rw [HF1.out], below_setRow hW9 (by omega) _⟩
      by_cases h39 : n = 39
      · as_aux_lemma =>
          -- n=39
          subst h39
          have vc := vP.cell
          have vl := vP.lt
          have vf := vP.free
          have ic := vI.cell
          have il := vI.lt
          have if0 := vI.free
          go_upto_region 23 with fail
          refine wp_name (fun Z => Below w.heap.size w Z ∧ Box Z w.heap.size #[.int .i64 (coZ).k, .int .u8 (coZ).i, .int .u8 (coZ).r, .int .u8 (coZ).g, .int .u8 (coZ).b, .int .i64 p.b.k, .int .u8 p.b.i, .int .u8 p.b.r, .int .u8 p.b.g, .int .u8 p.b.b, .int .u8 fz] 27 ∧ Box Z (w.heap.size + 1) #[.int .i64 0, .int .u8 0, .int .u8 0, .int .u8 0, .int .u8 0, .int .i64 0, .int .u8 0, .int .u8 0, .int .u8 0, .int .u8 0, .int .u8 0] 27) ⟨(by repeat (first | with_reducible exact Below.refl _ _ | with_reducible assumption | with_reducible exact GW.grow _ | with_reducible refine bl_alloc ?_ _ | with_reducible refine Below.drewN ?_ _ | with_reducible refine Below.drew ?_ | (with_reducible refine Below.setCell ?_ ?_ _; rotate_left; focus (simp; first | done | omega)) | with_reducible refine bl_trans ?_ (GW.grow _) | (with_reducible refine bl_trans ?_ (by assumption)))), (by first | with_reducible assumption | (apply Box.as; (focus (repeat (first | with_reducible assumption | (with_reducible apply Box.new; simp; done) | with_reducible apply Box.gw | with_reducible apply Box.drewN | with_reducible apply Box.drew | with_reducible apply Box.alloc | with_reducible apply Box.set | (with_reducible apply Box.set_other; case hg => omega)))); rfl)), (by first | with_reducible assumption | (apply Box.as; (focus (repeat (first | with_reducible assumption | (with_reducible apply Box.new; simp; done) | with_reducible apply Box.gw | with_reducible apply Box.drewN | with_reducible apply Box.drew | with_reducible apply Box.alloc | with_reducible apply Box.set | (with_reducible apply Box.set_other; case hg => omega)))); rfl))⟩ ?_
          rintro W2 ⟨hW2, uP, uR⟩
          clear vc vl vf ic il if0 vP vR vI hW1
          cases hx : extB g
          · have HF1 : Hid (q = ⟨(coZ), p.b, fz⟩) := Lib.hid (by rw [HQ.out]; simp only [colorG, hx]; congr 1 <;> (repeat' split) <;> first | rfl | (exfalso; omega) | (congr 1; omega) | (simp_all; done) | (simp_all; omega))
            have cE2 : Calls Tryd.prog 35 #[.slice (some ⟨b, off, none⟩) g.length cap] W2 fun e w' => ∃ c : Co, e = .returned (.tuple #[.agg c.a, .bool false]) ∧ Below W2.heap.size W2 w' := (cE W2 hW2).mono (by
              rintro e w' ⟨c, is, rfl, his, hcx, hb⟩
              rw [hx] at his; subst his
              exact ⟨c, rfl, hb⟩)
            clear cE hx HQ
            go_upto_region 28 with (go_at_call 35; (with_reducible refine cE2.mono ?_); rintro e w5 ⟨c, rfl, hb5⟩; have tP := Box.past hb5 uP; have tR := Box.past hb5 uR; have tc := tP.cell; have tl := tP.lt; have tf := tP.free; have hw5 := bl_trans hW2 hb5)
            refine wp_name (fun Z => Below w.heap.size w Z ∧ Box Z w.heap.size #[.int .i64 (coZ).k, .int .u8 (coZ).i, .int .u8 (coZ).r, .int .u8 (coZ).g, .int .u8 (coZ).b, .int .i64 p.b.k, .int .u8 p.b.i, .int .u8 p.b.r, .int .u8 p.b.g, .int .u8 p.b.b, .int .u8 fz] 27 ∧ Box Z (w.heap.size + 1) #[.int .i64 0, .int .u8 0, .int .u8 0, .int .u8 0, .int .u8 0, .int .i64 0, .int .u8 0, .int .u8 0, .int .u8 0, .int .u8 0, .int .u8 0] 27) ⟨(by repeat (first | with_reducible exact Below.refl _ _ | with_reducible assumption | with_reducible exact GW.grow _ | with_reducible refine bl_alloc ?_ _ | with_reducible refine Below.drewN ?_ _ | with_reducible refine Below.drew ?_ | (with_reducible refine Below.setCell ?_ ?_ _; rotate_left; focus (simp; first | done | omega)) | with_reducible refine bl_trans ?_ (GW.grow _) | (with_reducible refine bl_trans ?_ (by assumption)))), (by first | with_reducible assumption | (apply Box.as; (focus (repeat (first | with_reducible assumption | (with_reducible apply Box.new; simp; done) | with_reducible apply Box.gw | with_reducible apply Box.drewN | with_reducible apply Box.drew | with_reducible apply Box.alloc | with_reducible apply Box.set | (with_reducible apply Box.set_other; case hg => omega)))); rfl)), (by first | with_reducible assumption | (apply Box.as; (focus (repeat (first | with_reducible assumption | (with_reducible apply Box.new; simp; done) | with_reducible apply Box.gw | with_reducible apply Box.drewN | with_reducible apply Box.drew | with_reducible apply Box.alloc | with_reducible apply Box.set | (with_reducible apply Box.set_other; case hg => omega)))); rfl))⟩ ?_
            rintro W9 ⟨hW9, sP, sR⟩
            clear tP tR tc tl tf hw5 uP uR hW2
            obtain ⟨qf, hqf⟩ : ∃ qf : Co, qf = (coZ) := ⟨_, rfl⟩
            obtain ⟨qb, hqb⟩ : ∃ qb : Co, qb = p.b := ⟨_, rfl⟩
            rw [← hqf, ← hqb] at sP HF1
            clear hqf hqb
            have sc := sP.cell
            have sl := sP.lt
            have sc2 := sR.cell
            have sl2 := sR.lt
            have sf2 := sR.free
            go_wp2_with (first | ((with_reducible (show wpList _ _ _ _ _ _)); refine wpList_load_row rfl 27 _ rfl w.heap.size rfl 27 _ (0, 0) _ sP Tryd.underlying27 rfl (by kernel_rfl) ?_; try simp only [Act.put, List.getElem_toArray, List.getElem_cons_zero, List.getElem_cons_succ, List.setIfInBounds_toArray, List.set_cons_zero, List.set_cons_succ]) | ((with_reducible (show wpList _ _ _ _ _ _)); refine wpList_store_row rfl 27 _ _ rfl (w.heap.size + 1) #[.int .i64 qf.k, .int .u8 qf.i, .int .u8 qf.r, .int .u8 qf.g, .int .u8 qf.b, .int .i64 qb.k, .int .u8 qb.i, .int .u8 qb.r, .int .u8 qb.g, .int .u8 qb.b, .int .u8 fz] (by go_simp) (by go_simp) 27 _ sR (by kernel_rfl) rfl (by simp [Value.oneCell']) ?_; try simp only [Act.put, List.getElem_toArray, List.getElem_cons_zero, List.getElem_cons_succ, List.setIfInBounds_toArray, List.set_cons_zero, List.set_cons_succ]))
            refine ret_row (n := 11) rfl rfl Tryd.underlying27 rfl (by kernel_rfl) rfl ⟨_, rowAt_of (setRow_heap _ _ _ _ _ _ sR), rfl, ?_⟩
            exact ⟨by rw [HF1.out], below_setRow hW9 (by omega) _⟩
          · have HF1 : Hid (q = ⟨(coZ), p.b, fz⟩) := Lib.hid (by rw [HQ.out]; simp only [colorG, hx]; congr 1 <;> (repeat' split) <;> first | rfl | (exfalso; omega) | (congr 1; omega) | (simp_all; done) | (simp_all; omega))
            have cE2 : Calls Tryd.prog 35 #[.slice (some ⟨b, off, none⟩) g.length cap] W2 fun e w' => ∃ c : Co, e = .returned (.tuple #[.agg c.a, .bool true]) ∧ c = extC g ∧ Below W2.heap.size W2 w' := (cE W2 hW2).mono (by
              rintro e w' ⟨c, is, rfl, his, hcx, hb⟩
              rw [hx] at his; subst his
              exact ⟨c, rfl, hcx rfl, hb⟩)
            clear cE hx HQ
            generalize extC g = ex at *
            go_upto_region 28 with (go_at_call 35; (with_reducible refine cE2.mono ?_); rintro e w5 ⟨c, rfl, rfl, hb5⟩; have tP := Box.past hb5 uP; have tR := Box.past hb5 uR; have tc := tP.cell; have tl := tP.lt; have tf := tP.free; have hw5 := bl_trans hW2 hb5)
            refine wp_name (fun Z => Below w.heap.size w Z ∧ Box Z w.heap.size #[.int .i64 (coZ).k, .int .u8 (coZ).i, .int .u8 (coZ).r, .int .u8 (coZ).g, .int .u8 (coZ).b, .int .i64 p.b.k, .int .u8 p.b.i, .int .u8 p.b.r, .int .u8 p.b.g, .int .u8 p.b.b, .int .u8 fz] 27 ∧ Box Z (w.heap.size + 1) #[.int .i64 0, .int .u8 0, .int .u8 0, .int .u8 0, .int .u8 0, .int .i64 0, .int .u8 0, .int .u8 0, .int .u8 0, .int .u8 0, .int .u8 0] 27) ⟨(by repeat (first | with_reducible exact Below.refl _ _ | with_reducible assumption | with_reducible exact GW.grow _ | with_reducible refine bl_alloc ?_ _ | with_reducible refine Below.drewN ?_ _ | with_reducible refine Below.drew ?_ | (with_reducible refine Below.setCell ?_ ?_ _; rotate_left; focus (simp; first | done | omega)) | with_reducible refine bl_trans ?_ (GW.grow _) | (with_reducible refine bl_trans ?_ (by assumption)))), (by first | with_reducible assumption | (apply Box.as; (focus (repeat (first | with_reducible assumption | (with_reducible apply Box.new; simp; done) | with_reducible apply Box.gw | with_reducible apply Box.drewN | with_reducible apply Box.drew | with_reducible apply Box.alloc | with_reducible apply Box.set | (with_reducible apply Box.set_other; case hg => omega)))); rfl)), (by first | with_reducible assumption | (apply Box.as; (focus (repeat (first | with_reducible assumption | (with_reducible apply Box.new; simp; done) | with_reducible apply Box.gw | with_reducible apply Box.drewN | with_reducible apply Box.drew | with_reducible apply Box.alloc | with_reducible apply Box.set | (with_reducible apply Box.set_other; case hg => omega)))); rfl))⟩ ?_
            rintro W9 ⟨hW9, sP, sR⟩
            clear tP tR tc tl tf hw5 uP uR hW2
            obtain ⟨qf, hqf⟩ : ∃ qf : Co, qf = (coZ) := ⟨_, rfl⟩
            obtain ⟨qb, hqb⟩ : ∃ qb : Co, qb = p.b := ⟨_, rfl⟩
            rw [← hqf, ← hqb] at sP HF1
            clear hqf hqb
            have sc := sP.cell
            have sl := sP.lt
            have sc2 := sR.cell
            have sl2 := sR.lt
            have sf2 := sR.free
            go_wp2_with (first | ((with_reducible (show wpList _ _ _ _ _ _)); refine wpList_load_row rfl 27 _ rfl w.heap.size rfl 27 _ (0, 0) _ sP Tryd.underlying27 rfl (by kernel_rfl) ?_; try simp only [Act.put, List.getElem_toArray, List.getElem_cons_zero, List.getElem_cons_succ, List.setIfInBounds_toArray, List.set_cons_zero, List.set_cons_succ]) | ((with_reducible (show wpList _ _ _ _ _ _)); refine wpList_store_row rfl 27 _ _ rfl (w.heap.size + 1) #[.int .i64 qf.k, .int .u8 qf.i, .int .u8 qf.r, .int .u8 qf.g, .int .u8 qf.b, .int .i64 qb.k, .int .u8 qb.i, .int .u8 qb.r, .int .u8 qb.g, .int .u8 qb.b, .int .u8 fz] (by go_simp) (by go_simp) 27 _ sR (by kernel_rfl) rfl (by simp [Value.oneCell']) ?_; try simp only [Act.put, List.getElem_toArray, List.getElem_cons_zero, List.getElem_cons_succ, List.setIfInBounds_toArray, List.set_cons_zero, List.set_cons_succ]))
            refine ret_row (n := 11) rfl rfl Tryd.underlying27 rfl (by kernel_rfl) rfl ⟨_, rowAt_of (setRow_heap _ _ _ _ _ _ sR), rfl, ?_⟩
            exact ⟨by rw [HF1.out], below_setRow hW9 (by omega) _⟩
      by_cases h49 : n = 49
      · as_aux_lemma =>
          -- n=49
          subst h49
          have vc := vP.cell
          have vl := vP.lt
          have vf := vP.free
          have ic := vI.cell
          have il := vI.lt
          have if0 := vI.free
          go_upto_region 23 with fail
          refine wp_name (fun Z => Below w.heap.size w Z ∧ Box Z w.heap.size #[.int .i64 p.f.k, .int .u8 p.f.i, .int .u8 p.f.r, .int .u8 p.f.g, .int .u8 p.f.b, .int .i64 (coZ).k, .int .u8 (coZ).i, .int .u8 (coZ).r, .int .u8 (coZ).g, .int .u8 (coZ).b, .int .u8 fz] 27 ∧ Box Z (w.heap.size + 1) #[.int .i64 0, .int .u8 0, .int .u8 0, .int .u8 0, .int .u8 0, .int .i64 0, .int .u8 0, .int .u8 0, .int .u8 0, .int .u8 0, .int .u8 0] 27) ⟨(by repeat (first | with_reducible exact Below.refl _ _ | with_reducible assumption | with_reducible exact GW.grow _ | with_reducible refine bl_alloc ?_ _ | with_reducible refine Below.drewN ?_ _ | with_reducible refine Below.drew ?_ | (with_reducible refine Below.setCell ?_ ?_ _; rotate_left; focus (simp; first | done | omega)) | with_reducible refine bl_trans ?_ (GW.grow _) | (with_reducible refine bl_trans ?_ (by assumption)))), (by first | with_reducible assumption | (apply Box.as; (focus (repeat (first | with_reducible assumption | (with_reducible apply Box.new; simp; done) | with_reducible apply Box.gw | with_reducible apply Box.drewN | with_reducible apply Box.drew | with_reducible apply Box.alloc | with_reducible apply Box.set | (with_reducible apply Box.set_other; case hg => omega)))); rfl)), (by first | with_reducible assumption | (apply Box.as; (focus (repeat (first | with_reducible assumption | (with_reducible apply Box.new; simp; done) | with_reducible apply Box.gw | with_reducible apply Box.drewN | with_reducible apply Box.drew | with_reducible apply Box.alloc | with_reducible apply Box.set | (with_reducible apply Box.set_other; case hg => omega)))); rfl))⟩ ?_
          rintro W2 ⟨hW2, uP, uR⟩
          clear vc vl vf ic il if0 vP vR vI hW1
          cases hx : extB g
          · have HF1 : Hid (q = ⟨p.f, (coZ), fz⟩) := Lib.hid (by rw [HQ.out]; simp only [colorG, hx]; congr 1 <;> (repeat' split) <;> first | rfl | (exfalso; omega) | (congr 1; omega) | (simp_all; done) | (simp_all; omega))
            have cE2 : Calls Tryd.prog 35 #[.slice (some ⟨b, off, none⟩) g.length cap] W2 fun e w' => ∃ c : Co, e = .returned (.tuple #[.agg c.a, .bool false]) ∧ Below W2.heap.size W2 w' := (cE W2 hW2).mono (by
              rintro e w' ⟨c, is, rfl, his, hcx, hb⟩
              rw [hx] at his; subst his
              exact ⟨c, rfl, hb⟩)
            clear cE hx HQ
            go_upto_region 28 with (go_at_call 35; (with_reducible refine cE2.mono ?_); rintro e w5 ⟨c, rfl, hb5⟩; have tP := Box.past hb5 uP; have tR := Box.past hb5 uR; have tc := tP.cell; have tl := tP.lt; have tf := tP.free; have hw5 := bl_trans hW2 hb5)
            refine wp_name (fun Z => Below w.heap.size w Z ∧ Box Z w.heap.size #[.int .i64 p.f.k, .int .u8 p.f.i, .int .u8 p.f.r, .int .u8 p.f.g, .int .u8 p.f.b, .int .i64 (coZ).k, .int .u8 (coZ).i, .int .u8 (coZ).r, .int .u8 (coZ).g, .int .u8 (coZ).b, .int .u8 fz] 27 ∧ Box Z (w.heap.size + 1) #[.int .i64 0, .int .u8 0, .int .u8 0, .int .u8 0, .int .u8 0, .int .i64 0, .int .u8 0, .int .u8 0, .int .u8 0, .int .u8 0, .int .u8 0] 27) ⟨(by repeat (first | with_reducible exact Below.refl _ _ | with_reducible assumption | with_reducible exact GW.grow _ | with_reducible refine bl_alloc ?_ _ | with_reducible refine Below.drewN ?_ _ | with_reducible refine Below.drew ?_ | (with_reducible refine Below.setCell ?_ ?_ _; rotate_left; focus (simp; first | done | omega)) | with_reducible refine bl_trans ?_ (GW.grow _) | (with_reducible refine bl_trans ?_ (by assumption)))), (by first | with_reducible assumption | (apply Box.as; (focus (repeat (first | with_reducible assumption | (with_reducible apply Box.new; simp; done) | with_reducible apply Box.gw | with_reducible apply Box.drewN | with_reducible apply Box.drew | with_reducible apply Box.alloc | with_reducible apply Box.set | (with_reducible apply Box.set_other; case hg => omega)))); rfl)), (by first | with_reducible assumption | (apply Box.as; (focus (repeat (first | with_reducible assumption | (with_reducible apply Box.new; simp; done) | with_reducible apply Box.gw | with_reducible apply Box.drewN | with_reducible apply Box.drew | with_reducible apply Box.alloc | with_reducible apply Box.set | (with_reducible apply Box.set_other; case hg => omega)))); rfl))⟩ ?_
            rintro W9 ⟨hW9, sP, sR⟩
            clear tP tR tc tl tf hw5 uP uR hW2
            obtain ⟨qf, hqf⟩ : ∃ qf : Co, qf = p.f := ⟨_, rfl⟩
            obtain ⟨qb, hqb⟩ : ∃ qb : Co, qb = (coZ) := ⟨_, rfl⟩
            rw [← hqf, ← hqb] at sP HF1
            clear hqf hqb
            have sc := sP.cell
            have sl := sP.lt
            have sc2 := sR.cell
            have sl2 := sR.lt
            have sf2 := sR.free
            go_wp2_with (first | ((with_reducible (show wpList _ _ _ _ _ _)); refine wpList_load_row rfl 27 _ rfl w.heap.size rfl 27 _ (0, 0) _ sP Tryd.underlying27 rfl (by kernel_rfl) ?_; try simp only [Act.put, List.getElem_toArray, List.getElem_cons_zero, List.getElem_cons_succ, List.setIfInBounds_toArray, List.set_cons_zero, List.set_cons_succ]) | ((with_reducible (show wpList _ _ _ _ _ _)); refine wpList_store_row rfl 27 _ _ rfl (w.heap.size + 1) #[.int .i64 qf.k, .int .u8 qf.i, .int .u8 qf.r, .int .u8 qf.g, .int .u8 qf.b, .int .i64 qb.k, .int .u8 qb.i, .int .u8 qb.r, .int .u8 qb.g, .int .u8 qb.b, .int .u8 fz] (by go_simp) (by go_simp) 27 _ sR (by kernel_rfl) rfl (by simp [Value.oneCell']) ?_; try simp only [Act.put, List.getElem_toArray, List.getElem_cons_zero, List.getElem_cons_succ, List.setIfInBounds_toArray, List.set_cons_zero, List.set_cons_succ]))
            refine ret_row (n := 11) rfl rfl Tryd.underlying27 rfl (by kernel_rfl) rfl ⟨_, rowAt_of (setRow_heap _ _ _ _ _ _ sR), rfl, ?_⟩
            exact ⟨by rw [HF1.out], below_setRow hW9 (by omega) _⟩
          · have HF1 : Hid (q = ⟨p.f, (coZ), fz⟩) := Lib.hid (by rw [HQ.out]; simp only [colorG, hx]; congr 1 <;> (repeat' split) <;> first | rfl | (exfalso; omega) | (congr 1; omega) | (simp_all; done) | (simp_all; omega))
            have cE2 : Calls Tryd.prog 35 #[.slice (some ⟨b, off, none⟩) g.length cap] W2 fun e w' => ∃ c : Co, e = .returned (.tuple #[.agg c.a, .bool true]) ∧ c = extC g ∧ Below W2.heap.size W2 w' := (cE W2 hW2).mono (by
              rintro e w' ⟨c, is, rfl, his, hcx, hb⟩
              rw [hx] at his; subst his
              exact ⟨c, rfl, hcx rfl, hb⟩)
            clear cE hx HQ
            generalize extC g = ex at *
            go_upto_region 28 with (go_at_call 35; (with_reducible refine cE2.mono ?_); rintro e w5 ⟨c, rfl, rfl, hb5⟩; have tP := Box.past hb5 uP; have tR := Box.past hb5 uR; have tc := tP.cell; have tl := tP.lt; have tf := tP.free; have hw5 := bl_trans hW2 hb5)
            refine wp_name (fun Z => Below w.heap.size w Z ∧ Box Z w.heap.size #[.int .i64 p.f.k, .int .u8 p.f.i, .int .u8 p.f.r, .int .u8 p.f.g, .int .u8 p.f.b, .int .i64 (coZ).k, .int .u8 (coZ).i, .int .u8 (coZ).r, .int .u8 (coZ).g, .int .u8 (coZ).b, .int .u8 fz] 27 ∧ Box Z (w.heap.size + 1) #[.int .i64 0, .int .u8 0, .int .u8 0, .int .u8 0, .int .u8 0, .int .i64 0, .int .u8 0, .int .u8 0, .int .u8 0, .int .u8 0, .int .u8 0] 27) ⟨(by repeat (first | with_reducible exact Below.refl _ _ | with_reducible assumption | with_reducible exact GW.grow _ | with_reducible refine bl_alloc ?_ _ | with_reducible refine Below.drewN ?_ _ | with_reducible refine Below.drew ?_ | (with_reducible refine Below.setCell ?_ ?_ _; rotate_left; focus (simp; first | done | omega)) | with_reducible refine bl_trans ?_ (GW.grow _) | (with_reducible refine bl_trans ?_ (by assumption)))), (by first | with_reducible assumption | (apply Box.as; (focus (repeat (first | with_reducible assumption | (with_reducible apply Box.new; simp; done) | with_reducible apply Box.gw | with_reducible apply Box.drewN | with_reducible apply Box.drew | with_reducible apply Box.alloc | with_reducible apply Box.set | (with_reducible apply Box.set_other; case hg => omega)))); rfl)), (by first | with_reducible assumption | (apply Box.as; (focus (repeat (first | with_reducible assumption | (with_reducible apply Box.new; simp; done) | with_reducible apply Box.gw | with_reducible apply Box.drewN | with_reducible apply Box.drew | with_reducible apply Box.alloc | with_reducible apply Box.set | (with_reducible apply Box.set_other; case hg => omega)))); rfl))⟩ ?_
            rintro W9 ⟨hW9, sP, sR⟩
            clear tP tR tc tl tf hw5 uP uR hW2
            obtain ⟨qf, hqf⟩ : ∃ qf : Co, qf = p.f := ⟨_, rfl⟩
            obtain ⟨qb, hqb⟩ : ∃ qb : Co, qb = (coZ) := ⟨_, rfl⟩
            rw [← hqf, ← hqb] at sP HF1
            clear hqf hqb
            have sc := sP.cell
            have sl := sP.lt
            have sc2 := sR.cell
            have sl2 := sR.lt
            have sf2 := sR.free
            go_wp2_with (first | ((with_reducible (show wpList _ _ _ _ _ _)); refine wpList_load_row rfl 27 _ rfl w.heap.size rfl 27 _ (0, 0) _ sP Tryd.underlying27 rfl (by kernel_rfl) ?_; try simp only [Act.put, List.getElem_toArray, List.getElem_cons_zero, List.getElem_cons_succ, List.setIfInBounds_toArray, List.set_cons_zero, List.set_cons_succ]) | ((with_reducible (show wpList _ _ _ _ _ _)); refine wpList_store_row rfl 27 _ _ rfl (w.heap.size + 1) #[.int .i64 qf.k, .int .u8 qf.i, .int .u8 qf.r, .int .u8 qf.g, .int .u8 qf.b, .int .i64 qb.k, .int .u8 qb.i, .int .u8 qb.r, .int .u8 qb.g, .int .u8 qb.b, .int .u8 fz] (by go_simp) (by go_simp) 27 _ sR (by kernel_rfl) rfl (by simp [Value.oneCell']) ?_; try simp only [Act.put, List.getElem_toArray, List.getElem_cons_zero, List.getElem_cons_succ, List.setIfInBounds_toArray, List.set_cons_zero, List.set_cons_succ]))
            refine ret_row (n := 11) rfl rfl Tryd.underlying27 rfl (by kernel_rfl) rfl ⟨_, rowAt_of (setRow_heap _ _ _ _ _ _ sR), rfl, ?_⟩
            exact ⟨by rw [HF1.out], below_setRow hW9 (by omega) _⟩
      by_cases h30 : 30 ≤ n ∧ n ≤ 37
      · as_aux_lemma =>
          obtain ⟨h301, h302⟩ := h30
          have n39 : (n == 39) = false := by rw [beq_eq_false_iff_ne]; omega
          have n49 : (n == 49) = false := by rw [beq_eq_false_iff_ne]; omega
          have n38 : (n == 38) = false := by rw [beq_eq_false_iff_ne]; omega
          have n48 : (n == 48) = false := by rw [beq_eq_false_iff_ne]; omega
          have hm : n % 10 = n - 30 := by omega
          rw [hm] at vI
          have vc := vP.cell
          have vl := vP.lt
          have vf := vP.free
          have ic := vI.cell
          have il := vI.lt
          have if0 := vI.free
          go_upto_region 23 with fail
          refine wp_name (fun Z => Below w.heap.size w Z ∧ Box Z w.heap.size #[.int .i64 (coI (n - 30)).k, .int .u8 (coI (n - 30)).i, .int .u8 (coI (n - 30)).r, .int .u8 (coI (n - 30)).g, .int .u8 (coI (n - 30)).b, .int .i64 p.b.k, .int .u8 p.b.i, .int .u8 p.b.r, .int .u8 p.b.g, .int .u8 p.b.b, .int .u8 fz] 27 ∧ Box Z (w.heap.size + 1) #[.int .i64 0, .int .u8 0, .int .u8 0, .int .u8 0, .int .u8 0, .int .i64 0, .int .u8 0, .int .u8 0, .int .u8 0, .int .u8 0, .int .u8 0] 27) ⟨(by repeat (first | with_reducible exact Below.refl _ _ | with_reducible assumption | with_reducible exact GW.grow _ | with_reducible refine bl_alloc ?_ _ | with_reducible refine Below.drewN ?_ _ | with_reducible refine Below.drew ?_ | (with_reducible refine Below.setCell ?_ ?_ _; rotate_left; focus (simp; first | done | omega)) | with_reducible refine bl_trans ?_ (GW.grow _) | (with_reducible refine bl_trans ?_ (by assumption)))), (by first | with_reducible assumption | (apply Box.as; (focus (repeat (first | with_reducible assumption | (with_reducible apply Box.new; simp; done) | with_reducible apply Box.gw | with_reducible apply Box.drewN | with_reducible apply Box.drew | with_reducible apply Box.alloc | with_reducible apply Box.set | (with_reducible apply Box.set_other; case hg => omega)))); rfl)), (by first | with_reducible assumption | (apply Box.as; (focus (repeat (first | with_reducible assumption | (with_reducible apply Box.new; simp; done) | with_reducible apply Box.gw | with_reducible apply Box.drewN | with_reducible apply Box.drew | with_reducible apply Box.alloc | with_reducible apply Box.set | (with_reducible apply Box.set_other; case hg => omega)))); rfl))⟩ ?_
          rintro W2 ⟨hW2, uP, uR⟩
          clear vc vl vf ic il if0 vP vR vI hW1
          cases hx : extB g
          · have HF1 : Hid (q = ⟨(coI (n - 30)), p.b, fz⟩) := Lib.hid (by rw [HQ.out]; simp only [colorG, hx]; congr 1 <;> (repeat' split) <;> first | rfl | (exfalso; omega) | (congr 1; omega) | (simp_all; done) | (simp_all; omega))
            have cE2 : Calls Tryd.prog 35 #[.slice (some ⟨b, off, none⟩) g.length cap] W2 fun e w' => ∃ c : Co, e = .returned (.tuple #[.agg c.a, .bool false]) ∧ Below W2.heap.size W2 w' := (cE W2 hW2).mono (by
              rintro e w' ⟨c, is, rfl, his, hcx, hb⟩
              rw [hx] at his; subst his
              exact ⟨c, rfl, hb⟩)
            clear cE hx HQ
            go_upto_region 28 with (go_at_call 35; (with_reducible refine cE2.mono ?_); rintro e w5 ⟨c, rfl, hb5⟩; have tP := Box.past hb5 uP; have tR := Box.past hb5 uR; have tc := tP.cell; have tl := tP.lt; have tf := tP.free; have hw5 := bl_trans hW2 hb5)
            refine wp_name (fun Z => Below w.heap.size w Z ∧ Box Z w.heap.size #[.int .i64 (coI (n - 30)).k, .int .u8 (coI (n - 30)).i, .int .u8 (coI (n - 30)).r, .int .u8 (coI (n - 30)).g, .int .u8 (coI (n - 30)).b, .int .i64 p.b.k, .int .u8 p.b.i, .int .u8 p.b.r, .int .u8 p.b.g, .int .u8 p.b.b, .int .u8 fz] 27 ∧ Box Z (w.heap.size + 1) #[.int .i64 0, .int .u8 0, .int .u8 0, .int .u8 0, .int .u8 0, .int .i64 0, .int .u8 0, .int .u8 0, .int .u8 0, .int .u8 0, .int .u8 0] 27) ⟨(by repeat (first | with_reducible exact Below.refl _ _ | with_reducible assumption | with_reducible exact GW.grow _ | with_reducible refine bl_alloc ?_ _ | with_reducible refine Below.drewN ?_ _ | with_reducible refine Below.drew ?_ | (with_reducible refine Below.setCell ?_ ?_ _; rotate_left; focus (simp; first | done | omega)) | with_reducible refine bl_trans ?_ (GW.grow _) | (with_reducible refine bl_trans ?_ (by assumption)))), (by first | with_reducible assumption | (apply Box.as; (focus (repeat (first | with_reducible assumption | (with_reducible apply Box.new; simp; done) | with_reducible apply Box.gw | with_reducible apply Box.drewN | with_reducible apply Box.drew | with_reducible apply Box.alloc | with_reducible apply Box.set | (with_reducible apply Box.set_other; case hg => omega)))); rfl)), (by first | with_reducible assumption | (apply Box.as; (focus (repeat (first | with_reducible assumption | (with_reducible apply Box.new; simp; done) | with_reducible apply Box.gw | with_reducible apply Box.drewN | with_reducible apply Box.drew | with_reducible apply Box.alloc | with_reducible apply Box.set | (with_reducible apply Box.set_other; case hg => omega)))); rfl))⟩ ?_
            rintro W9 ⟨hW9, sP, sR⟩
            clear tP tR tc tl tf hw5 uP uR hW2
            obtain ⟨qf, hqf⟩ : ∃ qf : Co, qf = (coI (n - 30)) := ⟨_, rfl⟩
            obtain ⟨qb, hqb⟩ : ∃ qb : Co, qb = p.b := ⟨_, rfl⟩
            rw [← hqf, ← hqb] at sP HF1
            clear hqf hqb
            have sc := sP.cell
            have sl := sP.lt
            have sc2 := sR.cell
            have sl2 := sR.lt
            have sf2 := sR.free
            go_wp2_with (first | ((with_reducible (show wpList _ _ _ _ _ _)); refine wpList_load_row rfl 27 _ rfl w.heap.size rfl 27 _ (0, 0) _ sP Tryd.underlying27 rfl (by kernel_rfl) ?_; try simp only [Act.put, List.getElem_toArray, List.getElem_cons_zero, List.getElem_cons_succ, List.setIfInBounds_toArray, List.set_cons_zero, List.set_cons_succ]) | ((with_reducible (show wpList _ _ _ _ _ _)); refine wpList_store_row rfl 27 _ _ rfl (w.heap.size + 1) #[.int .i64 qf.k, .int .u8 qf.i, .int .u8 qf.r, .int .u8 qf.g, .int .u8 qf.b, .int .i64 qb.k, .int .u8 qb.i, .int .u8 qb.r, .int .u8 qb.g, .int .u8 qb.b, .int .u8 fz] (by go_simp) (by go_simp) 27 _ sR (by kernel_rfl) rfl (by simp [Value.oneCell']) ?_; try simp only [Act.put, List.getElem_toArray, List.getElem_cons_zero, List.getElem_cons_succ, List.setIfInBounds_toArray, List.set_cons_zero, List.set_cons_succ]))
            refine ret_row (n := 11) rfl rfl Tryd.underlying27 rfl (by kernel_rfl) rfl ⟨_, rowAt_of (setRow_heap _ _ _ _ _ _ sR), rfl, ?_⟩
            exact ⟨by rw [HF1.out], below_setRow hW9 (by omega) _⟩
          · have HF1 : Hid (q = ⟨(coI (n - 30)), p.b, fz⟩) := Lib.hid (by rw [HQ.out]; simp only [colorG, hx]; congr 1 <;> (repeat' split) <;> first | rfl | (exfalso; omega) | (congr 1; omega) | (simp_all; done) | (simp_all; omega))
            have cE2 : Calls Tryd.prog 35 #[.slice (some ⟨b, off, none⟩) g.length cap] W2 fun e w' => ∃ c : Co, e = .returned (.tuple #[.agg c.a, .bool true]) ∧ c = extC g ∧ Below W2.heap.size W2 w' := (cE W2 hW2).mono (by
              rintro e w' ⟨c, is, rfl, his, hcx, hb⟩
              rw [hx] at his; subst his
              exact ⟨c, rfl, hcx rfl, hb⟩)
            clear cE hx HQ
            generalize extC g = ex at *
            go_upto_region 28 with (go_at_call 35; (with_reducible refine cE2.mono ?_); rintro e w5 ⟨c, rfl, rfl, hb5⟩; have tP := Box.past hb5 uP; have tR := Box.past hb5 uR; have tc := tP.cell; have tl := tP.lt; have tf := tP.free; have hw5 := bl_trans hW2 hb5)
            refine wp_name (fun Z => Below w.heap.size w Z ∧ Box Z w.heap.size #[.int .i64 (coI (n - 30)).k, .int .u8 (coI (n - 30)).i, .int .u8 (coI (n - 30)).r, .int .u8 (coI (n - 30)).g, .int .u8 (coI (n - 30)).b, .int .i64 p.b.k, .int .u8 p.b.i, .int .u8 p.b.r, .int .u8 p.b.g, .int .u8 p.b.b, .int .u8 fz] 27 ∧ Box Z (w.heap.size + 1) #[.int .i64 0, .int .u8 0, .int .u8 0, .int .u8 0, .int .u8 0, .int .i64 0, .int .u8 0, .int .u8 0, .int .u8 0, .int .u8 0, .int .u8 0] 27) ⟨(by repeat (first | with_reducible exact Below.refl _ _ | with_reducible assumption | with_reducible exact GW.grow _ | with_reducible refine bl_alloc ?_ _ | with_reducible refine Below.drewN ?_ _ | with_reducible refine Below.drew ?_ | (with_reducible refine Below.setCell ?_ ?_ _; rotate_left; focus (simp; first | done | omega)) | with_reducible refine bl_trans ?_ (GW.grow _) | (with_reducible refine bl_trans ?_ (by assumption)))), (by first | with_reducible assumption | (apply Box.as; (focus (repeat (first | with_reducible assumption | (with_reducible apply Box.new; simp; done) | with_reducible apply Box.gw | with_reducible apply Box.drewN | with_reducible apply Box.drew | with_reducible apply Box.alloc | with_reducible apply Box.set | (with_reducible apply Box.set_other; case hg => omega)))); rfl)), (by first | with_reducible assumption | (apply Box.as; (focus (repeat (first | with_reducible assumption | (with_reducible apply Box.new; simp; done) | with_reducible apply Box.gw | with_reducible apply Box.drewN | with_reducible apply Box.drew | with_reducible apply Box.alloc | with_reducible apply Box.set | (with_reducible apply Box.set_other; case hg => omega)))); rfl))⟩ ?_
            rintro W9 ⟨hW9, sP, sR⟩
            clear tP tR tc tl tf hw5 uP uR hW2
            obtain ⟨qf, hqf⟩ : ∃ qf : Co, qf = (coI (n - 30)) := ⟨_, rfl⟩
            obtain ⟨qb, hqb⟩ : ∃ qb : Co, qb = p.b := ⟨_, rfl⟩
            rw [← hqf, ← hqb] at sP HF1
            clear hqf hqb
            have sc := sP.cell
            have sl := sP.lt
            have sc2 := sR.cell
            have sl2 := sR.lt
            have sf2 := sR.free
            go_wp2_with (first | ((with_reducible (show wpList _ _ _ _ _ _)); refine wpList_load_row rfl 27 _ rfl w.heap.size rfl 27 _ (0, 0) _ sP Tryd.underlying27 rfl (by kernel_rfl) ?_; try simp only [Act.put, List.getElem_toArray, List.getElem_cons_zero, List.getElem_cons_succ, List.setIfInBounds_toArray, List.set_cons_zero, List.set_cons_succ]) | ((with_reducible (show wpList _ _ _ _ _ _)); refine wpList_store_row rfl 27 _ _ rfl (w.heap.size + 1) #[.int .i64 qf.k, .int .u8 qf.i, .int .u8 qf.r, .int .u8 qf.g, .int .u8 qf.b, .int .i64 qb.k, .int .u8 qb.i, .int .u8 qb.r, .int .u8 qb.g, .int .u8 qb.b, .int .u8 fz] (by go_simp) (by go_simp) 27 _ sR (by kernel_rfl) rfl (by simp [Value.oneCell']) ?_; try simp only [Act.put, List.getElem_toArray, List.getElem_cons_zero, List.getElem_cons_succ, List.setIfInBounds_toArray, List.set_cons_zero, List.set_cons_succ]))
            refine ret_row (n := 11) rfl rfl Tryd.underlying27 rfl (by kernel_rfl) rfl ⟨_, rowAt_of (setRow_heap _ _ _ _ _ _ sR), rfl, ?_⟩
            exact ⟨by rw [HF1.out], below_setRow hW9 (by omega) _⟩
      by_cases h40 : 40 ≤ n ∧ n ≤ 47
      · as_aux_lemma =>
          obtain ⟨h401, h402⟩ := h40
          have n39 : (n == 39) = false := by rw [beq_eq_false_iff_ne]; omega
          have n49 : (n == 49) = false := by rw [beq_eq_false_iff_ne]; omega
          have n38 : (n == 38) = false := by rw [beq_eq_false_iff_ne]; omega
          have n48 : (n == 48) = false := by rw [beq_eq_false_iff_ne]; omega
          have hm : n % 10 = n - 40 := by omega
          rw [hm] at vI
          have vc := vP.cell
          have vl := vP.lt
          have vf := vP.free
          have ic := vI.cell
          have il := vI.lt
          have if0 := vI.free
          go_upto_region 23 with fail
          refine wp_name (fun Z => Below w.heap.size w Z ∧ Box Z w.heap.size #[.int .i64 p.f.k, .int .u8 p.f.i, .int .u8 p.f.r, .int .u8 p.f.g, .int .u8 p.f.b, .int .i64 (coI (n - 40)).k, .int .u8 (coI (n - 40)).i, .int .u8 (coI (n - 40)).r, .int .u8 (coI (n - 40)).g, .int .u8 (coI (n - 40)).b, .int .u8 fz] 27 ∧ Box Z (w.heap.size + 1) #[.int .i64 0, .int .u8 0, .int .u8 0, .int .u8 0, .int .u8 0, .int .i64 0, .int .u8 0, .int .u8 0, .int .u8 0, .int .u8 0, .int .u8 0] 27) ⟨(by repeat (first | with_reducible exact Below.refl _ _ | with_reducible assumption | with_reducible exact GW.grow _ | with_reducible refine bl_alloc ?_ _ | with_reducible refine Below.drewN ?_ _ | with_reducible refine Below.drew ?_ | (with_reducible refine Below.setCell ?_ ?_ _; rotate_left; focus (simp; first | done | omega)) | with_reducible refine bl_trans ?_ (GW.grow _) | (with_reducible refine bl_trans ?_ (by assumption)))), (by first | with_reducible assumption | (apply Box.as; (focus (repeat (first | with_reducible assumption | (with_reducible apply Box.new; simp; done) | with_reducible apply Box.gw | with_reducible apply Box.drewN | with_reducible apply Box.drew | with_reducible apply Box.alloc | with_reducible apply Box.set | (with_reducible apply Box.set_other; case hg => omega)))); rfl)), (by first | with_reducible assumption | (apply Box.as; (focus (repeat (first | with_reducible assumption | (with_reducible apply Box.new; simp; done) | with_reducible apply Box.gw | with_reducible apply Box.drewN | with_reducible apply Box.drew | with_reducible apply Box.alloc | with_reducible apply Box.set | (with_reducible apply Box.set_other; case hg => omega)))); rfl))⟩ ?_
          rintro W2 ⟨hW2, uP, uR⟩
          clear vc vl vf ic il if0 vP vR vI hW1
          cases hx : extB g
          · have HF1 : Hid (q = ⟨p.f, (coI (n - 40)), fz⟩) := Lib.hid (by rw [HQ.out]; simp only [colorG, hx]; congr 1 <;> (repeat' split) <;> first | rfl | (exfalso; omega) | (congr 1; omega) | (simp_all; done) | (simp_all; omega))
            have cE2 : Calls Tryd.prog 35 #[.slice (some ⟨b, off, none⟩) g.length cap] W2 fun e w' => ∃ c : Co, e = .returned (.tuple #[.agg c.a, .bool false]) ∧ Below W2.heap.size W2 w' := (cE W2 hW2).mono (by
              rintro e w' ⟨c, is, rfl, his, hcx, hb⟩
              rw [hx] at his; subst his
              exact ⟨c, rfl, hb⟩)
            clear cE hx HQ
            go_upto_region 28 with (go_at_call 35; (with_reducible refine cE2.mono ?_); rintro e w5 ⟨c, rfl, hb5⟩; have tP := Box.past hb5 uP; have tR := Box.past hb5 uR; have tc := tP.cell; have tl := tP.lt; have tf := tP.free; have hw5 := bl_trans hW2 hb5)
            refine wp_name (fun Z => Below w.heap.size w Z ∧ Box Z w.heap.size #[.int .i64 p.f.k, .int .u8 p.f.i, .int .u8 p.f.r, .int .u8 p.f.g, .int .u8 p.f.b, .int .i64 (coI (n - 40)).k, .int .u8 (coI (n - 40)).i, .int .u8 (coI (n - 40)).r, .int .u8 (coI (n - 40)).g, .int .u8 (coI (n - 40)).b, .int .u8 fz] 27 ∧ Box Z (w.heap.size + 1) #[.int .i64 0, .int .u8 0, .int .u8 0, .int .u8 0, .int .u8 0, .int .i64 0, .int .u8 0, .int .u8 0, .int .u8 0, .int .u8 0, .int .u8 0] 27) ⟨(by repeat (first | with_reducible exact Below.refl _ _ | with_reducible assumption | with_reducible exact GW.grow _ | with_reducible refine bl_alloc ?_ _ | with_reducible refine Below.drewN ?_ _ | with_reducible refine Below.drew ?_ | (with_reducible refine Below.setCell ?_ ?_ _; rotate_left; focus (simp; first | done | omega)) | with_reducible refine bl_trans ?_ (GW.grow _) | (with_reducible refine bl_trans ?_ (by assumption)))), (by first | with_reducible assumption | (apply Box.as; (focus (repeat (first | with_reducible assumption | (with_reducible apply Box.new; simp; done) | with_reducible apply Box.gw | with_reducible apply Box.drewN | with_reducible apply Box.drew | with_reducible apply Box.alloc | with_reducible apply Box.set | (with_reducible apply Box.set_other; case hg => omega)))); rfl)), (by first | with_reducible assumption | (apply Box.as; (focus (repeat (first | with_reducible assumption | (with_reducible apply Box.new; simp; done) | with_reducible apply Box.gw | with_reducible apply Box.drewN | with_reducible apply Box.drew | with_reducible apply Box.alloc | with_reducible apply Box.set | (with_reducible apply Box.set_other; case hg => omega)))); rfl))⟩ ?_
            rintro W9 ⟨hW9, sP, sR⟩
            clear tP tR tc tl tf hw5 uP uR hW2
            obtain ⟨qf, hqf⟩ : ∃ qf : Co, qf = p.f := ⟨_, rfl⟩
            obtain ⟨qb, hqb⟩ : ∃ qb : Co, qb = (coI (n - 40)) := ⟨_, rfl⟩
            rw [← hqf, ← hqb] at sP HF1
            clear hqf hqb
            have sc := sP.cell
            have sl := sP.lt
            have sc2 := sR.cell
            have sl2 := sR.lt
            have sf2 := sR.free
            go_wp2_with (first | ((with_reducible (show wpList _ _ _ _ _ _)); refine wpList_load_row rfl 27 _ rfl w.heap.size rfl 27 _ (0, 0) _ sP Tryd.underlying27 rfl (by kernel_rfl) ?_; try simp only [Act.put, List.getElem_toArray, List.getElem_cons_zero, List.getElem_cons_succ, List.setIfInBounds_toArray, List.set_cons_zero, List.set_cons_succ]) | ((with_reducible (show wpList _ _ _ _ _ _)); refine wpList_store_row rfl 27 _ _ rfl (w.heap.size + 1) #[.int .i64 qf.k, .int .u8 qf.i, .int .u8 qf.r, .int .u8 qf.g, .int .u8 qf.b, .int .i64 qb.k, .int .u8 qb.i, .int .u8 qb.r, .int .u8 qb.g, .int .u8 qb.b, .int .u8 fz] (by go_simp) (by go_simp) 27 _ sR (by kernel_rfl) rfl (by simp [Value.oneCell']) ?_; try simp only [Act.put, List.getElem_toArray, List.getElem_cons_zero, List.getElem_cons_succ, List.setIfInBounds_toArray, List.set_cons_zero, List.set_cons_succ]))
            refine ret_row (n := 11) rfl rfl Tryd.underlying27 rfl (by kernel_rfl) rfl ⟨_, rowAt_of (setRow_heap _ _ _ _ _ _ sR), rfl, ?_⟩
            exact ⟨by rw [HF1.out], below_setRow hW9 (by omega) _⟩
          · have HF1 : Hid (q = ⟨p.f, (coI (n - 40)), fz⟩) := Lib.hid (by rw [HQ.out]; simp only [colorG, hx]; congr 1 <;> (repeat' split) <;> first | rfl | (exfalso; omega) | (congr 1; omega) | (simp_all; done) | (simp_all; omega))
            have cE2 : Calls Tryd.prog 35 #[.slice (some ⟨b, off, none⟩) g.length cap] W2 fun e w' => ∃ c : Co, e = .returned (.tuple #[.agg c.a, .bool true]) ∧ c = extC g ∧ Below W2.heap.size W2 w' := (cE W2 hW2).mono (by
              rintro e w' ⟨c, is, rfl, his, hcx, hb⟩
              rw [hx] at his; subst his
              exact ⟨c, rfl, hcx rfl, hb⟩)
            clear cE hx HQ
            generalize extC g = ex at *
            go_upto_region 28 with (go_at_call 35; (with_reducible refine cE2.mono ?_); rintro e w5 ⟨c, rfl, rfl, hb5⟩; have tP := Box.past hb5 uP; have tR := Box.past hb5 uR; have tc := tP.cell; have tl := tP.lt; have tf := tP.free; have hw5 := bl_trans hW2 hb5)
            refine wp_name (fun Z => Below w.heap.size w Z ∧ Box Z w.heap.size #[.int .i64 p.f.k, .int .u8 p.f.i, .int .u8 p.f.r, .int .u8 p.f.g, .int .u8 p.f.b, .int .i64 (coI (n - 40)).k, .int .u8 (coI (n - 40)).i, .int .u8 (coI (n - 40)).r, .int .u8 (coI (n - 40)).g, .int .u8 (coI (n - 40)).b, .int .u8 fz] 27 ∧ Box Z (w.heap.size + 1) #[.int .i64 0, .int .u8 0, .int .u8 0, .int .u8 0, .int .u8 0, .int .i64 0, .int .u8 0, .int .u8 0, .int .u8 0, .int .u8 0, .int .u8 0] 27) ⟨(by repeat (first | with_reducible exact Below.refl _ _ | with_reducible assumption | with_reducible exact GW.grow _ | with_reducible refine bl_alloc ?_ _ | with_reducible refine Below.drewN ?_ _ | with_reducible refine Below.drew ?_ | (with_reducible refine Below.setCell ?_ ?_ _; rotate_left; focus (simp; first | done | omega)) | with_reducible refine bl_trans ?_ (GW.grow _) | (with_reducible refine bl_trans ?_ (by assumption)))), (by first | with_reducible assumption | (apply Box.as; (focus (repeat (first | with_reducible assumption | (with_reducible apply Box.new; simp; done) | with_reducible apply Box.gw | with_reducible apply Box.drewN | with_reducible apply Box.drew | with_reducible apply Box.alloc | with_reducible apply Box.set | (with_reducible apply Box.set_other; case hg => omega)))); rfl)), (by first | with_reducible assumption | (apply Box.as; (focus (repeat (first | with_reducible assumption | (with_reducible apply Box.new; simp; done) | with_reducible apply Box.gw | with_reducible apply Box.drewN | with_reducible apply Box.drew | with_reducible apply Box.alloc | with_reducible apply Box.set | (with_reducible apply Box.set_other; case hg => omega)))); rfl))⟩ ?_
            rintro W9 ⟨hW9, sP, sR⟩
            clear tP tR tc tl tf hw5 uP uR hW2
            obtain ⟨qf, hqf⟩ : ∃ qf : Co, qf = p.f := ⟨_, rfl⟩
            obtain ⟨qb, hqb⟩ : ∃ qb : Co, qb = (coI (n - 40)) := ⟨_, rfl⟩
            rw [← hqf, ← hqb] at sP HF1
            clear hqf hqb
            have sc := sP.cell
            have sl := sP.lt
            have sc2 := sR.cell
            have sl2 := sR.lt
            have sf2 := sR.free
            go_wp2_with (first | ((with_reducible (show wpList _ _ _ _ _ _)); refine wpList_load_row rfl 27 _ rfl w.heap.size rfl 27 _ (0, 0) _ sP Tryd.underlying27 rfl (by kernel_rfl) ?_; try simp only [Act.put, List.getElem_toArray, List.getElem_cons_zero, List.getElem_cons_succ, List.setIfInBounds_toArray, List.set_cons_zero, List.set_cons_succ]) | ((with_reducible (show wpList _ _ _ _ _ _)); refine wpList_store_row rfl 27 _ _ rfl (w.heap.size + 1) #[.int .i64 qf.k, .int .u8 qf.i, .int .u8 qf.r, .int .u8 qf.g, .int .u8 qf.b, .int .i64 qb.k, .int .u8 qb.i, .int .u8 qb.r, .int .u8 qb.g, .int .u8 qb.b, .int .u8 fz] (by go_simp) (by go_simp) 27 _ sR (by kernel_rfl) rfl (by simp [Value.oneCell']) ?_; try simp only [Act.put, List.getElem_toArray, List.getElem_cons_zero, List.getElem_cons_succ, List.setIfInBounds_toArray, List.set_cons_zero, List.set_cons_succ]))
            refine ret_row (n := 11) rfl rfl Tryd.underlying27 rfl (by kernel_rfl) rfl ⟨_, rowAt_of (setRow_heap _ _ _ _ _ _ sR), rfl, ?_⟩
            exact ⟨by rw [HF1.out], below_setRow hW9 (by omega) _⟩
      by_cases h38 : n = 38
      · as_aux_lemma =>
          -- n=38
          subst h38
          have vc := vP.cell
          have vl := vP.lt
          have vf := vP.free
          have ic := vI.cell
          have il := vI.lt
          have if0 := vI.free
          go_upto_region 23 with fail
          refine wp_name (fun Z => Below w.heap.size w Z ∧ Box Z w.heap.size #[.int .i64 p.f.k, .int .u8 p.f.i, .int .u8 p.f.r, .int .u8 p.f.g, .int .u8 p.f.b, .int .i64 p.b.k, .int .u8 p.b.i, .int .u8 p.b.r, .int .u8 p.b.g, .int .u8 p.b.b, .int .u8 fz] 27 ∧ Box Z (w.heap.size + 1) #[.int .i64 0, .int .u8 0, .int .u8 0, .int .u8 0, .int .u8 0, .int .i64 0, .int .u8 0, .int .u8 0, .int .u8 0, .int .u8 0, .int .u8 0] 27) ⟨(by repeat (first | with_reducible exact Below.refl _ _ | with_reducible assumption | with_reducible exact GW.grow _ | with_reducible refine bl_alloc ?_ _ | with_reducible refine Below.drewN ?_ _ | with_reducible refine Below.drew ?_ | (with_reducible refine Below.setCell ?_ ?_ _; rotate_left; focus (simp; first | done | omega)) | with_reducible refine bl_trans ?_ (GW.grow _) | (with_reducible refine bl_trans ?_ (by assumption)))), (by first | with_reducible assumption | (apply Box.as; (focus (repeat (first | with_reducible assumption | (with_reducible apply Box.new; simp; done) | with_reducible apply Box.gw | with_reducible apply Box.drewN | with_reducible apply Box.drew | with_reducible apply Box.alloc | with_reducible apply Box.set | (with_reducible apply Box.set_other; case hg => omega)))); rfl)), (by first | with_reducible assumption | (apply Box.as; (focus (repeat (first | with_reducible assumption | (with_reducible apply Box.new; simp; done) | with_reducible apply Box.gw | with_reducible apply Box.drewN | with_reducible apply Box.drew | with_reducible apply Box.alloc | with_reducible apply Box.set | (with_reducible apply Box.set_other; case hg => omega)))); rfl))⟩ ?_
          rintro W2 ⟨hW2, uP, uR⟩
          clear vc vl vf ic il if0 vP vR vI hW1
          cases hx : extB g
          · have HF1 : Hid (q = ⟨p.f, p.b, fz⟩) := Lib.hid (by rw [HQ.out]; simp only [colorG, hx]; congr 1 <;> (repeat' split) <;> first | rfl | (exfalso; omega) | (congr 1; omega) | (simp_all; done) | (simp_all; omega))
            have cE2 : Calls Tryd.prog 35 #[.slice (some ⟨b, off, none⟩) g.length cap] W2 fun e w' => ∃ c : Co, e = .returned (.tuple #[.agg c.a, .bool false]) ∧ Below W2.heap.size W2 w' := (cE W2 hW2).mono (by
              rintro e w' ⟨c, is, rfl, his, hcx, hb⟩
              rw [hx] at his; subst his
              exact ⟨c, rfl, hb⟩)
            clear cE hx HQ
            go_upto_region 28 with (go_at_call 35; (with_reducible refine cE2.mono ?_); rintro e w5 ⟨c, rfl, hb5⟩; have tP := Box.past hb5 uP; have tR := Box.past hb5 uR; have tc := tP.cell; have tl := tP.lt; have tf := tP.free; have hw5 := bl_trans hW2 hb5)
            refine wp_name (fun Z => Below w.heap.size w Z ∧ Box Z w.heap.size #[.int .i64 p.f.k, .int .u8 p.f.i, .int .u8 p.f.r, .int .u8 p.f.g, .int .u8 p.f.b, .int .i64 p.b.k, .int .u8 p.b.i, .int .u8 p.b.r, .int .u8 p.b.g, .int .u8 p.b.b, .int .u8 fz] 27 ∧ Box Z (w.heap.size + 1) #[.int .i64 0, .int .u8 0, .int .u8 0, .int .u8 0, .int .u8 0, .int .i64 0, .int .u8 0, .int .u8 0, .int .u8 0, .int .u8 0, .int .u8 0] 27) ⟨(by repeat (first | with_reducible exact Below.refl _ _ | with_reducible assumption | with_reducible exact GW.grow _ | with_reducible refine bl_alloc ?_ _ | with_reducible refine Below.drewN ?_ _ | with_reducible refine Below.drew ?_ | (with_reducible refine Below.setCell ?_ ?_ _; rotate_left; focus (simp; first | done | omega)) | with_reducible refine bl_trans ?_ (GW.grow _) | (with_reducible refine bl_trans ?_ (by assumption)))), (by first | with_reducible assumption | (apply Box.as; (focus (repeat (first | with_reducible assumption | (with_reducible apply Box.new; simp; done) | with_reducible apply Box.gw | with_reducible apply Box.drewN | with_reducible apply Box.drew | with_reducible apply Box.alloc | with_reducible apply Box.set | (with_reducible apply Box.set_other; case hg => omega)))); rfl)), (by first | with_reducible assumption | (apply Box.as; (focus (repeat (first | with_reducible assumption | (with_reducible apply Box.new; simp; done) | with_reducible apply Box.gw | with_reducible apply Box.drewN | with_reducible apply Box.drew | with_reducible apply Box.alloc | with_reducible apply Box.set | (with_reducible apply Box.set_other; case hg => omega)))); rfl))⟩ ?_
            rintro W9 ⟨hW9, sP, sR⟩
            clear tP tR tc tl tf hw5 uP uR hW2
            obtain ⟨qf, hqf⟩ : ∃ qf : Co, qf = p.f := ⟨_, rfl⟩
            obtain ⟨qb, hqb⟩ : ∃ qb : Co, qb = p.b := ⟨_, rfl⟩
            rw [← hqf, ← hqb] at sP HF1
            clear hqf hqb
            have sc := sP.cell
            have sl := sP.lt
            have sc2 := sR.cell
            have sl2 := sR.lt
            have sf2 := sR.free
            go_wp2_with (first | ((with_reducible (show wpList _ _ _ _ _ _)); refine wpList_load_row rfl 27 _ rfl w.heap.size rfl 27 _ (0, 0) _ sP Tryd.underlying27 rfl (by kernel_rfl) ?_; try simp only [Act.put, List.getElem_toArray, List.getElem_cons_zero, List.getElem_cons_succ, List.setIfInBounds_toArray, List.set_cons_zero, List.set_cons_succ]) | ((with_reducible (show wpList _ _ _ _ _ _)); refine wpList_store_row rfl 27 _ _ rfl (w.heap.size + 1) #[.int .i64 qf.k, .int .u8 qf.i, .int .u8 qf.r, .int .u8 qf.g, .int .u8 qf.b, .int .i64 qb.k, .int .u8 qb.i, .int .u8 qb.r, .int .u8 qb.g, .int .u8 qb.b, .int .u8 fz] (by go_simp) (by go_simp) 27 _ sR (by kernel_rfl) rfl (by simp [Value.oneCell']) ?_; try simp only [Act.put, List.getElem_toArray, List.getElem_cons_zero, List.getElem_cons_succ, List.setIfInBounds_toArray, List.set_cons_zero, List.set_cons_succ]))
            refine ret_row (n := 11) rfl rfl Tryd.underlying27 rfl (by kernel_rfl) rfl ⟨_, rowAt_of (setRow_heap _ _ _ _ _ _ sR), rfl, ?_⟩
            exact ⟨by rw [HF1.out], below_setRow hW9 (by omega) _⟩
          · have HF1 : Hid (q = ⟨(extC g), p.b, fz⟩) := Lib.hid (by rw [HQ.out]; simp only [colorG, hx]; congr 1 <;> (repeat' split) <;> first | rfl | (exfalso; omega) | (congr 1; omega) | (simp_all; done) | (simp_all; omega))
            have cE2 : Calls Tryd.prog 35 #[.slice (some ⟨b, off, none⟩) g.length cap] W2 fun e w' => ∃ c : Co, e = .returned (.tuple #[.agg c.a, .bool true]) ∧ c = extC g ∧ Below W2.heap.size W2 w' := (cE W2 hW2).mono (by
              rintro e w' ⟨c, is, rfl, his, hcx, hb⟩
              rw [hx] at his; subst his
              exact ⟨c, rfl, hcx rfl, hb⟩)
            clear cE hx HQ
            generalize extC g = ex at *
            go_upto_region 28 with (go_at_call 35; (with_reducible refine cE2.mono ?_); rintro e w5 ⟨c, rfl, rfl, hb5⟩; have tP := Box.past hb5 uP; have tR := Box.past hb5 uR; have tc := tP.cell; have tl := tP.lt; have tf := tP.free; have hw5 := bl_trans hW2 hb5)
            refine wp_name (fun Z => Below w.heap.size w Z ∧ Box Z w.heap.size #[.int .i64 c.k, .int .u8 c.i, .int .u8 c.r, .int .u8 c.g, .int .u8 c.b, .int .i64 p.b.k, .int .u8 p.b.i, .int .u8 p.b.r, .int .u8 p.b.g, .int .u8 p.b.b, .int .u8 fz] 27 ∧ Box Z (w.heap.size + 1) #[.int .i64 0, .int .u8 0, .int .u8 0, .int .u8 0, .int .u8 0, .int .i64 0, .int .u8 0, .int .u8 0, .int .u8 0, .int .u8 0, .int .u8 0] 27) ⟨(by repeat (first | with_reducible exact Below.refl _ _ | with_reducible assumption | with_reducible exact GW.grow _ | with_reducible refine bl_alloc ?_ _ | with_reducible refine Below.drewN ?_ _ | with_reducible refine Below.drew ?_ | (with_reducible refine Below.setCell ?_ ?_ _; rotate_left; focus (simp; first | done | omega)) | with_reducible refine bl_trans ?_ (GW.grow _) | (with_reducible refine bl_trans ?_ (by assumption)))), (by first | with_reducible assumption | (apply Box.as; (focus (repeat (first | with_reducible assumption | (with_reducible apply Box.new; simp; done) | with_reducible apply Box.gw | with_reducible apply Box.drewN | with_reducible apply Box.drew | with_reducible apply Box.alloc | with_reducible apply Box.set | (with_reducible apply Box.set_other; case hg => omega)))); rfl)), (by first | with_reducible assumption | (apply Box.as; (focus (repeat (first | with_reducible assumption | (with_reducible apply Box.new; simp; done) | with_reducible apply Box.gw | with_reducible apply Box.drewN | with_reducible apply Box.drew | with_reducible apply Box.alloc | with_reducible apply Box.set | (with_reducible apply Box.set_other; case hg => omega)))); rfl))⟩ ?_
            rintro W9 ⟨hW9, sP, sR⟩
            clear tP tR tc tl tf hw5 uP uR hW2
            obtain ⟨qf, hqf⟩ : ∃ qf : Co, qf = c := ⟨_, rfl⟩
            obtain ⟨qb, hqb⟩ : ∃ qb : Co, qb = p.b := ⟨_, rfl⟩
            rw [← hqf, ← hqb] at sP HF1
            clear hqf hqb
            have sc := sP.cell
            have sl := sP.lt
            have sc2 := sR.cell
            have sl2 := sR.lt
            have sf2 := sR.free
            go_wp2_with (first | ((with_reducible (show wpList _ _ _ _ _ _)); refine wpList_load_row rfl 27 _ rfl w.heap.size rfl 27 _ (0, 0) _ sP Tryd.underlying27 rfl (by kernel_rfl) ?_; try simp only [Act.put, List.getElem_toArray, List.getElem_cons_zero, List.getElem_cons_succ, List.setIfInBounds_toArray, List.set_cons_zero, List.set_cons_succ]) | ((with_reducible (show wpList _ _ _ _ _ _)); refine wpList_store_row rfl 27 _ _ rfl (w.heap.size + 1) #[.int .i64 qf.k, .int .u8 qf.i, .int .u8 qf.r, .int .u8 qf.g, .int .u8 qf.b, .int .i64 qb.k, .int .u8 qb.i, .int .u8 qb.r, .int .u8 qb.g, .int .u8 qb.b, .int .u8 fz] (by go_simp) (by go_simp) 27 _ sR (by kernel_rfl) rfl (by simp [Value.oneCell']) ?_; try simp only [Act.put, List.getElem_toArray, List.getElem_cons_zero, List.getElem_cons_succ, List.setIfInBounds_toArray, List.set_cons_zero, List.set_cons_succ]))
            refine ret_row (n := 11) rfl rfl Tryd.underlying27 rfl (by kernel_rfl) rfl ⟨_, rowAt_of (setRow_heap _ _ _ _ _ _ sR), rfl, ?_⟩
            exact ⟨by rw [HF1.out], below_setRow hW9 (by omega) _⟩
      by_cases h48 : n = 48
      · as_aux_lemma =>
          -- n=48
          subst h48
          have vc := vP.cell
          have vl := vP.lt
          have vf := vP.free
          have ic := vI.cell
          have il := vI.lt
          have if0 := vI.free
          go_upto_region 23 with fail
          refine wp_name (fun Z => Below w.heap.size w Z ∧ Box Z w.heap.size #[.int .i64 p.f.k, .int .u8 p.f.i, .int .u8 p.f.r, .int .u8 p.f.g, .int .u8 p.f.b, .int .i64 p.b.k, .int .u8 p.b.i, .int .u8 p.b.r, .int .u8 p.b.g, .int .u8 p.b.b, .int .u8 fz] 27 ∧ Box Z (w.heap.size + 1) #[.int .i64 0, .int .u8 0, .int .u8 0, .int .u8 0, .int .u8 0, .int .i64 0, .int .u8 0, .int .u8 0, .int .u8 0, .int .u8 0, .int .u8 0] 27) ⟨(by repeat (first | with_reducible exact Below.refl _ _ | with_reducible assumption | with_reducible exact GW.grow _ | with_reducible refine bl_alloc ?_ _ | with_reducible refine Below.drewN ?_ _ | with_reducible refine Below.drew ?_ | (with_reducible refine Below.setCell ?_ ?_ _; rotate_left; focus (simp; first | done | omega)) | with_reducible refine bl_trans ?_ (GW.grow _) | (with_reducible refine bl_trans ?_ (by assumption)))), (by first | with_reducible assumption | (apply Box.as; (focus (repeat (first | with_reducible assumption | (with_reducible apply Box.new; simp; done) | with_reducible apply Box.gw | with_reducible apply Box.drewN | with_reducible apply Box.drew | with_reducible apply Box.alloc | with_reducible apply Box.set | (with_reducible apply Box.set_other; case hg => omega)))); rfl)), (by first | with_reducible assumption | (apply Box.as; (focus (repeat (first | with_reducible assumption | (with_reducible apply Box.new; simp; done) | with_reducible apply Box.gw | with_reducible apply Box.drewN | with_reducible apply Box.drew | with_reducible apply Box.alloc | with_reducible apply Box.set | (with_reducible apply Box.set_other; case hg => omega)))); rfl))⟩ ?_
          rintro W2 ⟨hW2, uP, uR⟩
          clear vc vl vf ic il if0 vP vR vI hW1
          cases hx : extB g
          · have HF1 : Hid (q = ⟨p.f, p.b, fz⟩) := Lib.hid (by rw [HQ.out]; simp only [colorG, hx]; congr 1 <;> (repeat' split) <;> first | rfl | (exfalso; omega) | (congr 1; omega) | (simp_all; done) | (simp_all; omega))
            have cE2 : Calls Tryd.prog 35 #[.slice (some ⟨b, off, none⟩) g.length cap] W2 fun e w' => ∃ c : Co, e = .returned (.tuple #[.agg c.a, .bool false]) ∧ Below W2.heap.size W2 w' := (cE W2 hW2).mono (by
              rintro e w' ⟨c, is, rfl, his, hcx, hb⟩
              rw [hx] at his; subst his
              exact ⟨c, rfl, hb⟩)
            clear cE hx HQ
            go_upto_region 28 with (go_at_call 35; (with_reducible refine cE2.mono ?_); rintro e w5 ⟨c, rfl, hb5⟩; have tP := Box.past hb5 uP; have tR := Box.past hb5 uR; have tc := tP.cell; have tl := tP.lt; have tf := tP.free; have hw5 := bl_trans hW2 hb5)
            refine wp_name (fun Z => Below w.heap.size w Z ∧ Box Z w.heap.size #[.int .i64 p.f.k, .int .u8 p.f.i, .int .u8 p.f.r, .int .u8 p.f.g, .int .u8 p.f.b, .int .i64 p.b.k, .int .u8 p.b.i, .int .u8 p.b.r, .int .u8 p.b.g, .int .u8 p.b.b, .int .u8 fz] 27 ∧ Box Z (w.heap.size + 1) #[.int .i64 0, .int .u8 0, .int .u8 0, .int .u8 0, .int .u8 0, .int .i64 0, .int .u8 0, .int .u8 0, .int .u8 0, .int .u8 0, .int .u8 0] 27) ⟨(by repeat (first | with_reducible exact Below.refl _ _ | with_reducible assumption | with_reducible exact GW.grow _ | with_reducible refine bl_alloc ?_ _ | with_reducible refine Below.drewN ?_ _ | with_reducible refine Below.drew ?_ | (with_reducible refine Below.setCell ?_ ?_ _; rotate_left; focus (simp; first | done | omega)) | with_reducible refine bl_trans ?_ (GW.grow _) | (with_reducible refine bl_trans ?_ (by assumption)))), (by first | with_reducible assumption | (apply Box.as; (focus (repeat (first | with_reducible assumption | (with_reducible apply Box.new; simp; done) | with_reducible apply Box.gw | with_reducible apply Box.drewN | with_reducible apply Box.drew | with_reducible apply Box.alloc | with_reducible apply Box.set | (with_reducible apply Box.set_other; case hg => omega)))); rfl)), (by first | with_reducible assumption | (apply Box.as; (focus (repeat (first | with_reducible assumption | (with_reducible apply Box.new; simp; done) | with_reducible apply Box.gw | with_reducible apply Box.drewN | with_reducible apply Box.drew | with_reducible apply Box.alloc | with_reducible apply Box.set | (with_reducible apply Box.set_other; case hg => omega)))); rfl))⟩ ?_
            rintro W9 ⟨hW9, sP, sR⟩
            clear tP tR tc tl tf hw5 uP uR hW2
            obtain ⟨qf, hqf⟩ : ∃ qf : Co, qf = p.f := ⟨_, rfl⟩
            obtain ⟨qb, hqb⟩ : ∃ qb : Co, qb = p.b := ⟨_, rfl⟩
            rw [← hqf, ← hqb] at sP HF1
            clear hqf hqb
            have sc := sP.cell
            have sl := sP.lt
            have sc2 := sR.cell
            have sl2 := sR.lt
            have sf2 := sR.free
            go_wp2_with (first | ((with_reducible (show wpList _ _ _ _ _ _)); refine wpList_load_row rfl 27 _ rfl w.heap.size rfl 27 _ (0, 0) _ sP Tryd.underlying27 rfl (by kernel_rfl) ?_; try simp only [Act.put, List.getElem_toArray, List.getElem_cons_zero, List.getElem_cons_succ, List.setIfInBounds_toArray, List.set_cons_zero, List.set_cons_succ]) | ((with_reducible (show wpList _ _ _ _ _ _)); refine wpList_store_row rfl 27 _ _ rfl (w.heap.size + 1) #[.int .i64 qf.k, .int .u8 qf.i, .int .u8 qf.r, .int .u8 qf.g, .int .u8 qf.b, .int .i64 qb.k, .int .u8 qb.i, .int .u8 qb.r, .int .u8 qb.g, .int .u8 qb.b, .int .u8 fz] (by go_simp) (by go_simp) 27 _ sR (by kernel_rfl) rfl (by simp [Value.oneCell']) ?_; try simp only [Act.put, List.getElem_toArray, List.getElem_cons_zero, List.getElem_cons_succ, List.setIfInBounds_toArray, List.set_cons_zero, List.set_cons_succ]))
            refine ret_row (n := 11) rfl rfl Tryd.underlying27 rfl (by kernel_rfl) rfl ⟨_, rowAt_of (setRow_heap _ _ _ _ _ _ sR), rfl, ?_⟩
            exact ⟨by rw [HF1.out], below_setRow hW9 (by omega) _⟩
          · have HF1 : Hid (q = ⟨p.f, (extC g), fz⟩) := Lib.hid (by rw [HQ.out]; simp only [colorG, hx]; congr 1 <;> (repeat' split) <;> first | rfl | (exfalso; omega) | (congr 1; omega) | (simp_all; done) | (simp_all; omega))
            have cE2 : Calls Tryd.prog 35 #[.slice (some ⟨b, off, none⟩) g.length cap] W2 fun e w' => ∃ c : Co, e = .returned (.tuple #[.agg c.a, .bool true]) ∧ c = extC g ∧ Below W2.heap.size W2 w' := (cE W2 hW2).mono (by
              rintro e w' ⟨c, is, rfl, his, hcx, hb⟩
              rw [hx] at his; subst his
              exact ⟨c, rfl, hcx rfl, hb⟩)
            clear cE hx HQ
            generalize extC g = ex at *
            go_upto_region 28 with (go_at_call 35; (with_reducible refine cE2.mono ?_); rintro e w5 ⟨c, rfl, rfl, hb5⟩; have tP := Box.past hb5 uP; have tR := Box.past hb5 uR; have tc := tP.cell; have tl := tP.lt; have tf := tP.free; have hw5 := bl_trans hW2 hb5)
            refine wp_name (fun Z => Below w.heap.size w Z ∧ Box Z w.heap.size #[.int .i64 p.f.k, .int .u8 p.f.i, .int .u8 p.f.r, .int .u8 p.f.g, .int .u8 p.f.b, .int .i64 c.k, .int .u8 c.i, .int .u8 c.r, .int .u8 c.g, .int .u8 c.b, .int .u8 fz] 27 ∧ Box Z (w.heap.size + 1) #[.int .i64 0, .int .u8 0, .int .u8 0, .int .u8 0, .int .u8 0, .int .i64 0, .int .u8 0, .int .u8 0, .int .u8 0, .int .u8 0, .int .u8 0] 27) ⟨(by repeat (first | with_reducible exact Below.refl _ _ | with_reducible assumption | with_reducible exact GW.grow _ | with_reducible refine bl_alloc ?_ _ | with_reducible refine Below.drewN ?_ _ | with_reducible refine Below.drew ?_ | (with_reducible refine Below.setCell ?_ ?_ _; rotate_left; focus (simp; first | done | omega)) | with_reducible refine bl_trans ?_ (GW.grow _) | (with_reducible refine bl_trans ?_ (by assumption)))), (by first | with_reducible assumption | (apply Box.as; (focus (repeat (first | with_reducible assumption | (with_reducible apply Box.new; simp; done) | with_reducible apply Box.gw | with_reducible apply Box.drewN | with_reducible apply Box.drew | with_reducible apply Box.alloc | with_reducible apply Box.set | (with_reducible apply Box.set_other; case hg => omega)))); rfl)), (by first | with_reducible assumption | (apply Box.as; (focus (repeat (first | with_reducible assumption | (with_reducible apply Box.new; simp; done) | with_reducible apply Box.gw | with_reducible apply Box.drewN | with_reducible apply Box.drew | with_reducible apply Box.alloc | with_reducible apply Box.set | (with_reducible apply Box.set_other; case hg => omega)))); rfl))⟩ ?_
            rintro W9 ⟨hW9, sP, sR⟩
            clear tP tR tc tl tf hw5 uP uR hW2
            obtain ⟨qf, hqf⟩ : ∃ qf : Co, qf = p.f := ⟨_, rfl⟩
            obtain ⟨qb, hqb⟩ : ∃ qb : Co, qb = c := ⟨_, rfl⟩
            rw [← hqf, ← hqb] at sP HF1
            clear hqf hqb
            have sc := sP.cell
            have sl := sP.lt
            have sc2 := sR.cell
            have sl2 := sR.lt
            have sf2 := sR.free
            go_wp2_with (first | ((with_reducible (show wpList _ _ _ _ _ _)); refine wpList_load_row rfl 27 _ rfl w.heap.size rfl 27 _ (0, 0) _ sP Tryd.underlying27 rfl (by kernel_rfl) ?_; try simp only [Act.put, List.getElem_toArray, List.getElem_cons_zero, List.getElem_cons_succ, List.setIfInBounds_toArray, List.set_cons_zero, List.set_cons_succ]) | ((with_reducible (show wpList _ _ _ _ _ _)); refine wpList_store_row rfl 27 _ _ rfl (w.heap.size + 1) #[.int .i64 qf.k, .int .u8 qf.i, .int .u8 qf.r, .int .u8 qf.g, .int .u8 qf.b, .int .i64 qb.k, .int .u8 qb.i, .int .u8 qb.r, .int .u8 qb.g, .int .u8 qb.b, .int .u8 fz] (by go_simp) (by go_simp) 27 _ sR (by kernel_rfl) rfl (by simp [Value.oneCell']) ?_; try simp only [Act.put, List.getElem_toArray, List.getElem_cons_zero, List.getElem_cons_succ, List.setIfInBounds_toArray, List.set_cons_zero, List.set_cons_succ]))
            refine ret_row (n := 11) rfl rfl Tryd.underlying27 rfl (by kernel_rfl) rfl ⟨_, rowAt_of (setRow_heap _ _ _ _ _ _ sR), rfl, ?_⟩
            exact ⟨by rw [HF1.out], below_setRow hW9 (by omega) _⟩
      have hor : n < 30 ∨ (50 ≤ n ∧ n < 90) ∨ (98 ≤ n ∧ n < 100) ∨ 108 ≤ n := by omega
      clear h90 h100 h30 h40
      rcases hor with h5 | ⟨h5, h6⟩ | ⟨h5, h6⟩ | h5
      all_goals
        as_aux_lemma =>
          have n39 : (n == 39) = false := by rw [beq_eq_false_iff_ne]; omega
          have n49 : (n == 49) = false := by rw [beq_eq_false_iff_ne]; omega
          have n38 : (n == 38) = false := by rw [beq_eq_false_iff_ne]; omega
          have n48 : (n == 48) = false := by rw [beq_eq_false_iff_ne]; omega
          have vc := vP.cell
          have vl := vP.lt
          have vf := vP.free
          have ic := vI.cell
          have il := vI.lt
          have if0 := vI.free
          go_upto_region 23 with fail
          refine wp_name (fun Z => Below w.heap.size w Z ∧ Box Z w.heap.size #[.int .i64 p.f.k, .int .u8 p.f.i, .int .u8 p.f.r, .int .u8 p.f.g, .int .u8 p.f.b, .int .i64 p.b.k, .int .u8 p.b.i, .int .u8 p.b.r, .int .u8 p.b.g, .int .u8 p.b.b, .int .u8 fz] 27 ∧ Box Z (w.heap.size + 1) #[.int .i64 0, .int .u8 0, .int .u8 0, .int .u8 0, .int .u8 0, .int .i64 0, .int .u8 0, .int .u8 0, .int .u8 0, .int .u8 0, .int .u8 0] 27) ⟨(by repeat (first | with_reducible exact Below.refl _ _ | with_reducible assumption | with_reducible exact GW.grow _ | with_reducible refine bl_alloc ?_ _ | with_reducible refine Below.drewN ?_ _ | with_reducible refine Below.drew ?_ | (with_reducible refine Below.setCell ?_ ?_ _; rotate_left; focus (simp; first | done | omega)) | with_reducible refine bl_trans ?_ (GW.grow _) | (with_reducible refine bl_trans ?_ (by assumption)))), (by first | with_reducible assumption | (apply Box.as; (focus (repeat (first | with_reducible assumption | (with_reducible apply Box.new; simp; done) | with_reducible apply Box.gw | with_reducible apply Box.drewN | with_reducible apply Box.drew | with_reducible apply Box.alloc | with_reducible apply Box.set | (with_reducible apply Box.set_other; case hg => omega)))); rfl)), (by first | with_reducible assumption | (apply Box.as; (focus (repeat (first | with_reducible assumption | (with_reducible apply Box.new; simp; done) | with_reducible apply Box.gw | with_reducible apply Box.drewN | with_reducible apply Box.drew | with_reducible apply Box.alloc | with_reducible apply Box.set | (with_reducible apply Box.set_other; case hg => omega)))); rfl))⟩ ?_
          rintro W2 ⟨hW2, uP, uR⟩
          clear vc vl vf ic il if0 vP vR vI hW1
          cases hx : extB g
          · have HF1 : Hid (q = ⟨p.f, p.b, fz⟩) := Lib.hid (by rw [HQ.out]; simp only [colorG, hx]; congr 1 <;> (repeat' split) <;> first | rfl | (exfalso; omega) | (congr 1; omega) | (simp_all; done) | (simp_all; omega))
            have cE2 : Calls Tryd.prog 35 #[.slice (some ⟨b, off, none⟩) g.length cap] W2 fun e w' => ∃ c : Co, e = .returned (.tuple #[.agg c.a, .bool false]) ∧ Below W2.heap.size W2 w' := (cE W2 hW2).mono (by
              rintro e w' ⟨c, is, rfl, his, hcx, hb⟩
              rw [hx] at his; subst his
              exact ⟨c, rfl, hb⟩)
            clear cE hx HQ
            go_upto_region 28 with (go_at_call 35; (with_reducible refine cE2.mono ?_); rintro e w5 ⟨c, rfl, hb5⟩; have tP := Box.past hb5 uP; have tR := Box.past hb5 uR; have tc := tP.cell; have tl := tP.lt; have tf := tP.free; have hw5 := bl_trans hW2 hb5)
            refine wp_name (fun Z => Below w.heap.size w Z ∧ Box Z w.heap.size #[.int .i64 p.f.k, .int .u8 p.f.i, .int .u8 p.f.r, .int .u8 p.f.g, .int .u8 p.f.b, .int .i64 p.b.k, .int .u8 p.b.i, .int .u8 p.b.r, .int .u8 p.b.g, .int .u8 p.b.b, .int .u8 fz] 27 ∧ Box Z (w.heap.size + 1) #[.int .i64 0, .int .u8 0, .int .u8 0, .int .u8 0, .int .u8 0, .int .i64 0, .int .u8 0, .int .u8 0, .int .u8 0, .int .u8 0, .int .u8 0] 27) ⟨(by repeat (first | with_reducible exact Below.refl _ _ | with_reducible assumption | with_reducible exact GW.grow _ | with_reducible refine bl_alloc ?_ _ | with_reducible refine Below.drewN ?_ _ | with_reducible refine Below.drew ?_ | (with_reducible refine Below.setCell ?_ ?_ _; rotate_left; focus (simp; first | done | omega)) | with_reducible refine bl_trans ?_ (GW.grow _) | (with_reducible refine bl_trans ?_ (by assumption)))), (by first | with_reducible assumption | (apply Box.as; (focus (repeat (first | with_reducible assumption | (with_reducible apply Box.new; simp; done) | with_reducible apply Box.gw | with_reducible apply Box.drewN | with_reducible apply Box.drew | with_reducible apply Box.alloc | with_reducible apply Box.set | (with_reducible apply Box.set_other; case hg => omega)))); rfl)), (by first | with_reducible assumption | (apply Box.as; (focus (repeat (first | with_reducible assumption | (with_reducible apply Box.new; simp; done) | with_reducible apply Box.gw | with_reducible apply Box.drewN | with_reducible apply Box.drew | with_reducible apply Box.alloc | with_reducible apply Box.set | (with_reducible apply Box.set_other; case hg => omega)))); rfl))⟩ ?_
            rintro W9 ⟨hW9, sP, sR⟩
            clear tP tR tc tl tf hw5 uP uR hW2
            obtain ⟨qf, hqf⟩ : ∃ qf : Co, qf = p.f := ⟨_, rfl⟩
            obtain ⟨qb, hqb⟩ : ∃ qb : Co, qb = p.b := ⟨_, rfl⟩
            rw [← hqf, ← hqb] at sP HF1
            clear hqf hqb
            have sc := sP.cell
            have sl := sP.lt
            have sc2 := sR.cell
            have sl2 := sR.lt
            have sf2 := sR.free
            go_wp2_with (first | ((with_reducible (show wpList _ _ _ _ _ _)); refine wpList_load_row rfl 27 _ rfl w.heap.size rfl 27 _ (0, 0) _ sP Tryd.underlying27 rfl (by kernel_rfl) ?_; try simp only [Act.put, List.getElem_toArray, List.getElem_cons_zero, List.getElem_cons_succ, List.setIfInBounds_toArray, List.set_cons_zero, List.set_cons_succ]) | ((with_reducible (show wpList _ _ _ _ _ _)); refine wpList_store_row rfl 27 _ _ rfl (w.heap.size + 1) #[.int .i64 qf.k, .int .u8 qf.i, .int .u8 qf.r, .int .u8 qf.g, .int .u8 qf.b, .int .i64 qb.k, .int .u8 qb.i, .int .u8 qb.r, .int .u8 qb.g, .int .u8 qb.b, .int .u8 fz] (by go_simp) (by go_simp) 27 _ sR (by kernel_rfl) rfl (by simp [Value.oneCell']) ?_; try simp only [Act.put, List.getElem_toArray, List.getElem_cons_zero, List.getElem_cons_succ, List.setIfInBounds_toArray, List.set_cons_zero, List.set_cons_succ]))
            refine ret_row (n := 11) rfl rfl Tryd.underlying27 rfl (by kernel_rfl) rfl ⟨_, rowAt_of (setRow_heap _ _ _ _ _ _ sR), rfl, ?_⟩
            exact ⟨by rw [HF1.out], below_setRow hW9 (by omega) _⟩
          · have HF1 : Hid (q = ⟨p.f, p.b, fz⟩) := Lib.hid (by rw [HQ.out]; simp only [colorG, hx]; congr 1 <;> (repeat' split) <;> first | rfl | (exfalso; omega) | (congr 1; omega) | (simp_all; done) | (simp_all; omega))
            have cE2 : Calls Tryd.prog 35 #[.slice (some ⟨b, off, none⟩) g.length cap] W2 fun e w' => ∃ c : Co, e = .returned (.tuple #[.agg c.a, .bool true]) ∧ c = extC g ∧ Below W2.heap.size W2 w' := (cE W2 hW2).mono (by
              rintro e w' ⟨c, is, rfl, his, hcx, hb⟩
              rw [hx] at his; subst his
              exact ⟨c, rfl, hcx rfl, hb⟩)
            clear cE hx HQ
            generalize extC g = ex at *
            go_upto_region 28 with (go_at_call 35; (with_reducible refine cE2.mono ?_); rintro e w5 ⟨c, rfl, rfl, hb5⟩; have tP := Box.past hb5 uP; have tR := Box.past hb5 uR; have tc := tP.cell; have tl := tP.lt; have tf := tP.free; have hw5 := bl_trans hW2 hb5)
            refine wp_name (fun Z => Below w.heap.size w Z ∧ Box Z w.heap.size #[.int .i64 p.f.k, .int .u8 p.f.i, .int .u8 p.f.r, .int .u8 p.f.g, .int .u8 p.f.b, .int .i64 p.b.k, .int .u8 p.b.i, .int .u8 p.b.r, .int .u8 p.b.g, .int .u8 p.b.b, .int .u8 fz] 27 ∧ Box Z (w.heap.size + 1) #[.int .i64 0, .int .u8 0, .int .u8 0, .int .u8 0, .int .u8 0, .int .i64 0, .int .u8 0, .int .u8 0, .int .u8 0, .int .u8 0, .int .u8 0] 27) ⟨(by repeat (first | with_reducible exact Below.refl _ _ | with_reducible assumption | with_reducible exact GW.grow _ | with_reducible refine bl_alloc ?_ _ | with_reducible refine Below.drewN ?_ _ | with_reducible refine Below.drew ?_ | (with_reducible refine Below.setCell ?_ ?_ _; rotate_left; focus (simp; first | done | omega)) | with_reducible refine bl_trans ?_ (GW.grow _) | (with_reducible refine bl_trans ?_ (by assumption)))), (by first | with_reducible assumption | (apply Box.as; (focus (repeat (first | with_reducible assumption | (with_reducible apply Box.new; simp; done) | with_reducible apply Box.gw | with_reducible apply Box.drewN | with_reducible apply Box.drew | with_reducible apply Box.alloc | with_reducible apply Box.set | (with_reducible apply Box.set_other; case hg => omega)))); rfl)), (by first | with_reducible assumption | (apply Box.as; (focus (repeat (first | with_reducible assumption | (with_reducible apply Box.new; simp; done) | with_reducible apply Box.gw | with_reducible apply Box.drewN | with_reducible apply Box.drew | with_reducible apply Box.alloc | with_reducible apply Box.set | (with_reducible apply Box.set_other; case hg => omega)))); rfl))⟩ ?_
            rintro W9 ⟨hW9, sP, sR⟩
            clear tP tR tc tl tf hw5 uP uR hW2
            obtain ⟨qf, hqf⟩ : ∃ qf : Co, qf = p.f := ⟨_, rfl⟩
            obtain ⟨qb, hqb⟩ : ∃ qb : Co, qb = p.b := ⟨_, rfl⟩
            rw [← hqf, ← hqb] at sP HF1
            clear hqf hqb
            have sc := sP.cell
            have sl := sP.lt
            have sc2 := sR.cell
            have sl2 := sR.lt
            have sf2 := sR.free
            go_wp2_with (first | ((with_reducible (show wpList _ _ _ _ _ _)); refine wpList_load_row rfl 27 _ rfl w.heap.size rfl 27 _ (0, 0) _ sP Tryd.underlying27 rfl (by kernel_rfl) ?_; try simp only [Act.put, List.getElem_toArray, List.getElem_cons_zero, List.getElem_cons_succ, List.setIfInBounds_toArray, List.set_cons_zero, List.set_cons_succ]) | ((with_reducible (show wpList _ _ _ _ _ _)); refine wpList_store_row rfl 27 _ _ rfl (w.heap.size + 1) #[.int .i64 qf.k, .int .u8 qf.i, .int .u8 qf.r, .int .u8 qf.g, .int .u8 qf.b, .int .i64 qb.k, .int .u8 qb.i, .int .u8 qb.r, .int .u8 qb.g, .int .u8 qb.b, .int .u8 fz] (by go_simp) (by go_simp) 27 _ sR (by kernel_rfl) rfl (by simp [Value.oneCell']) ?_; try simp only [Act.put, List.getElem_toArray, List.getElem_cons_zero, List.getElem_cons_succ, List.setIfInBounds_toArray, List.set_cons_zero, List.set_cons_succ]))
            refine ret_row (n := 11) rfl rfl Tryd.underlying27 rfl (by kernel_rfl) rfl ⟨_, rowAt_of (setRow_heap _ _ _ _ _ _ sR), rfl, ?_⟩
            exact ⟨by rw [HF1.out], below_setRow hW9 (by omega) _⟩


end Go.Proofs.YtdoeiaekimbecaaDoor
