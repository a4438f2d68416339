/- style: the reference's Codes, Between. Printed by mk_n.py. -/
import Derived.Test.YtdoeiaekimbecaaDoorK
import Derived.Outline
set_option linter.unusedSimpArgs false
set_option linter.unusedVariables false
set_option linter.unnecessarySimpa false
namespace Go.Proofs.YtdoeiaekimbecaaDoor
open Go.RowKit

def numsR (c : Co) (base : Int) : List Int := if c.k = 0 then [39 + base] else if c.k = 2 then [38 + base, 2, c.r, c.g, c.b] else if c.i < 8 then [30 + base + c.i] else if c.i < 16 then [82 + base + c.i] else [38 + base, 5, c.i]
theorem numsR_eq (c : Co) (m : Int) : numsR c m = numsN c (30 + m) := by
  unfold numsR numsN
  repeat' split
  all_goals first | rfl | (congr 1; omega) | skip
set_option maxHeartbeats 1000000 in
theorem rcolored_raw (c : Co) (base : Int) (w : World) (hb : 0 ≤ base ∧ base ≤ 100) (hc : wfC c) : Calls Tryd.prog 27 #[.agg #[.int .i64 c.k, .int .u8 c.i, .int .u8 c.r, .int .u8 c.g, .int .u8 c.b], .int .i64 base] w (RetOwn w 3 .i64 (numsR c base)) := by
  obtain ⟨k, i, r, g, b⟩ := c
  unfold wfC at hc
  simp only at hc
  obtain ⟨⟨i1, i2⟩, ⟨r1, r2⟩, ⟨g1, g2⟩, ⟨b1, b2⟩⟩ := hc
  obtain ⟨hb1, hb2⟩ := hb
  have HQ : Hid (numsR ⟨k, i, r, g, b⟩ base = if k = 0 then [39 + base] else if k = 2 then [38 + base, 2, r, g, b] else if i < 8 then [30 + base + i] else if i < 16 then [82 + base + i] else [38 + base, 5, i]) := Lib.hid rfl
  generalize numsR ⟨k, i, r, g, b⟩ base = q at *
  simp only
  by_cases h0 : k = 0
  · have HR : Hid (q = [39 + base]) := Lib.hid (by rw [HQ.out, if_pos h0])
    subst h0
    clear HQ
    go_enter Tryd.func27, Tryd.ntmps27
    go_wp2_with fail
    go_ret
    rw [HR.out]
    exact ⟨_, rfl, Own.new _ _ _ [_] _ _ (by simp) (by simp) (by simp [maxLen]), (by repeat (first | with_reducible exact Below.refl _ _ | with_reducible assumption | with_reducible exact GW.grow _ | with_reducible refine bl_alloc ?_ _ | with_reducible refine Below.drew ?_ | (with_reducible refine Below.setCell ?_ ?_ _; rotate_left; focus (simp; first | done | omega)) | with_reducible refine bl_trans ?_ (GW.grow _) | (with_reducible refine bl_trans ?_ (by assumption))))⟩
  have n0 : (k == 0) = false := by rw [beq_eq_false_iff_ne]; exact h0
  rw [if_neg h0] at HQ
  by_cases h2 : k = 2
  · have HR : Hid (q = [38 + base, 2, r, g, b]) := Lib.hid (by rw [HQ.out, if_pos h2])
    subst h2
    clear HQ h0
    go_enter Tryd.func27, Tryd.ntmps27
    go_wp2_with fail
    go_ret
    rw [HR.out]
    exact ⟨_, rfl, Own.new _ _ _ [_, _, _, _, _] _ _ (by simp) (by simp) (by simp [maxLen]), (by repeat (first | with_reducible exact Below.refl _ _ | with_reducible assumption | with_reducible exact GW.grow _ | with_reducible refine bl_alloc ?_ _ | with_reducible refine Below.drew ?_ | (with_reducible refine Below.setCell ?_ ?_ _; rotate_left; focus (simp; first | done | omega)) | with_reducible refine bl_trans ?_ (GW.grow _) | (with_reducible refine bl_trans ?_ (by assumption))))⟩
  have n2 : (k == 2) = false := by rw [beq_eq_false_iff_ne]; exact h2
  rw [if_neg h2] at HQ
  clear h0 h2
  by_cases h8 : i < 8
  · have HR : Hid (q = [30 + base + i]) := Lib.hid (by rw [HQ.out, if_pos h8])
    clear HQ
    go_enter Tryd.func27, Tryd.ntmps27
    go_wp2_with fail
    go_ret
    rw [HR.out]
    exact ⟨_, rfl, Own.new _ _ _ [_] _ _ (by simp) (by simp) (by simp [maxLen]), (by repeat (first | with_reducible exact Below.refl _ _ | with_reducible assumption | with_reducible exact GW.grow _ | with_reducible refine bl_alloc ?_ _ | with_reducible refine Below.drew ?_ | (with_reducible refine Below.setCell ?_ ?_ _; rotate_left; focus (simp; first | done | omega)) | with_reducible refine bl_trans ?_ (GW.grow _) | (with_reducible refine bl_trans ?_ (by assumption))))⟩
  rw [if_neg h8] at HQ
  by_cases h16 : i < 16
  · have HR : Hid (q = [82 + base + i]) := Lib.hid (by rw [HQ.out, if_pos h16])
    clear HQ
    go_enter Tryd.func27, Tryd.ntmps27
    go_wp2_with fail
    go_ret
    rw [HR.out]
    exact ⟨_, rfl, Own.new _ _ _ [_] _ _ (by simp) (by simp) (by simp [maxLen]), (by repeat (first | with_reducible exact Below.refl _ _ | with_reducible assumption | with_reducible exact GW.grow _ | with_reducible refine bl_alloc ?_ _ | with_reducible refine Below.drew ?_ | (with_reducible refine Below.setCell ?_ ?_ _; rotate_left; focus (simp; first | done | omega)) | with_reducible refine bl_trans ?_ (GW.grow _) | (with_reducible refine bl_trans ?_ (by assumption))))⟩
  · have HR : Hid (q = [38 + base, 5, i]) := Lib.hid (by rw [HQ.out, if_neg h16])
    clear HQ
    go_enter Tryd.func27, Tryd.ntmps27
    go_wp2_with fail
    go_ret
    rw [HR.out]
    exact ⟨_, rfl, Own.new _ _ _ [_, _, _] _ _ (by simp) (by simp) (by simp [maxLen]), (by repeat (first | with_reducible exact Below.refl _ _ | with_reducible assumption | with_reducible exact GW.grow _ | with_reducible refine bl_alloc ?_ _ | with_reducible refine Below.drew ?_ | (with_reducible refine Below.setCell ?_ ?_ _; rotate_left; focus (simp; first | done | omega)) | with_reducible refine bl_trans ?_ (GW.grow _) | (with_reducible refine bl_trans ?_ (by assumption))))⟩

theorem rcolored_any (c : Co) (m : Int) (w : World) (hb : 0 ≤ m ∧ m ≤ 60) (hc : wfC c) : Calls Tryd.prog 27 #[.agg #[.int .i64 c.k, .int .u8 c.i, .int .u8 c.r, .int .u8 c.g, .int .u8 c.b], .int .i64 m] w (RetOwn w 3 .i64 (numsN c (30 + m))) := by
  rw [← numsR_eq]; exact rcolored_raw c m w (by omega) hc
def codK (x : Int) (k : Nat) : List Int := (List.range k).flatMap fun j => if bits .and .u8 x (mF j) ≠ 0 then [mN j] else []
theorem codK_succ (x : Int) (k : Nat) : codK x (k + 1) = codK x k ++ (if bits .and .u8 x (mF k) ≠ 0 then [mN k] else []) := by
  unfold codK; rw [List.range_succ, List.flatMap_append]; simp
theorem codK_len (x : Int) (k : Nat) : (codK x k).length ≤ k := by
  induction k with
  | zero => simp [codK]
  | succ k ih => rw [codK_succ, List.length_append]; split <;> simp <;> omega
def rcodesN (p : Pn) : List Int := [0] ++ codK p.x 8 ++ (if p.f.k = 0 then [] else numsN p.f 30) ++ (if p.b.k = 0 then [] else numsN p.b 40)
theorem numL8 (k : Nat) (h : k < 8) : ([1, 2, 3, 4, 5, 7, 8, 9] : List Int)[k]? = some (mN k) := by
  match k, h with
  | 0, _ | 1, _ | 2, _ | 3, _ | 4, _ | 5, _ | 6, _ | 7, _ => rfl
set_option maxHeartbeats 8000000 in
set_option maxRecDepth 100000 in
theorem rcodes_any (p : Pn) (w : World) (hp : wfP p) : Calls Tryd.prog 15 #[.agg p.a] w (RetOwn w 3 .i64 (rcodesN p)) := by
  have cF : ∀ W, Calls Tryd.prog 27 #[.agg #[.int .i64 p.f.k, .int .u8 p.f.i, .int .u8 p.f.r, .int .u8 p.f.g, .int .u8 p.f.b], .int .i64 0] W (RetOwn W 3 .i64 (numsN p.f 30)) := fun W => rcolored_any p.f 0 W (by omega) hp.1
  have cB : ∀ W, Calls Tryd.prog 27 #[.agg #[.int .i64 p.b.k, .int .u8 p.b.i, .int .u8 p.b.r, .int .u8 p.b.g, .int .u8 p.b.b], .int .i64 10] W (RetOwn W 3 .i64 (numsN p.b 40)) := fun W => rcolored_any p.b 10 W (by omega) hp.2.1
  have lF := numsN_len p.f 30
  have lB := numsN_len p.b 40
  have HQ := Lib.hid (show rcodesN p = [0] ++ codK p.x 8 ++ (if p.f.k = 0 then [] else numsN p.f 30) ++ (if p.b.k = 0 then [] else numsN p.b 40) from rfl)
  clear hp
  generalize rcodesN p = q at *
  generalize numsN p.f 30 = nf at *
  generalize numsN p.b 40 = nb at *
  go_enter Tryd.func15, Tryd.ntmps15
  go_wp2_with fail
  go_loopw [3, 4] (fun l i wr => ∃ k : Nat, k ≤ 8 ∧ i = .int .i64 k ∧ Own wr (w.heap.size + 1) 3 .i64 l ([0] ++ codK p.x k) ∧ Below w.heap.size w wr ∧ Box wr w.heap.size p.a 27) (fun _ i _ => 8 - (intOf i).toNat)
  case atStart => exact ⟨0, by omega, rfl, Own.lit1 _ _ _ _ _ _ (by simp) (by simp), (by repeat (first | with_reducible exact Below.refl _ _ | with_reducible assumption | with_reducible exact GW.grow _ | with_reducible refine bl_alloc ?_ _ | with_reducible refine Below.drewN ?_ _ | with_reducible refine Below.drew ?_ | (with_reducible refine Below.setCell ?_ ?_ _; rotate_left; focus (simp; first | done | omega)) | with_reducible refine bl_trans ?_ (GW.grow _) | (with_reducible refine bl_trans ?_ (by assumption)))), (by first | with_reducible assumption | (apply Box.as; (focus (repeat (first | with_reducible assumption | (with_reducible apply Box.new; simp; done) | with_reducible apply Box.gw | with_reducible apply Box.drewN | with_reducible apply Box.drew | with_reducible apply Box.alloc | with_reducible apply Box.set | (with_reducible apply Box.set_other; case hg => omega)))); rfl))⟩
  case round =>
    obtain ⟨k, hk, rfl, hown, hbel, yA⟩ := hrel
    have hln := codK_len p.x k
    have yc := yA.cell
    have yl := yA.lt
    by_cases hlt : k < 8
    · have hS := Lib.hid (codK_succ p.x k)
      have hn := mN_le k hlt
      have cFl := fun W => rflag_any k W hlt
      have HL := Lib.hid (numL8 k hlt)
      have cN := fun W => rnumbers_any W
      generalize codK p.x k = xs at *
      generalize hf : mF k = f at *
      generalize hnn : mN k = n at *
      have ltI : (k : Int) < 8 := by omega
      clear hf hnn
      by_cases hu : bits .and .u8 p.x f = 0
      · rw [if_neg (fun h => h hu), List.append_nil] at hS
        go_wp2_with fail
        first | refine wp_grow2 (by kernel_rfl) (by kernel_rfl) ?_ | refine wp_grow (by kernel_rfl) (by kernel_rfl) ?_
        repeat (go_big_quiet_step ((go_at_call 25; with_reducible exact GW.call (cFl _))))
        refine wpQuiet_nil ?_
        rintro _ ⟨X, rfl⟩
        go_wp2_with fail
        go_roundw
        case rel => exact ⟨k + 1, by omega, by go_num, (by rw [hS.out]; exact hown.kept (by repeat (first | with_reducible exact Below.refl _ _ | with_reducible assumption | with_reducible exact GW.grow _ | with_reducible refine bl_alloc ?_ _ | with_reducible refine Below.drewN ?_ _ | with_reducible refine Below.drew ?_ | (with_reducible refine Below.setCell ?_ ?_ _; rotate_left; focus (simp; first | done | omega)) | with_reducible refine bl_trans ?_ (GW.grow _) | (with_reducible refine bl_trans ?_ (by assumption))))), (by repeat (first | with_reducible exact Below.refl _ _ | with_reducible assumption | with_reducible exact GW.grow _ | with_reducible refine bl_alloc ?_ _ | with_reducible refine Below.drewN ?_ _ | with_reducible refine Below.drew ?_ | (with_reducible refine Below.setCell ?_ ?_ _; rotate_left; focus (simp; first | done | omega)) | with_reducible refine bl_trans ?_ (GW.grow _) | (with_reducible refine bl_trans ?_ (by assumption)))), (by first | with_reducible assumption | (apply Box.as; (focus (repeat (first | with_reducible assumption | (with_reducible apply Box.new; simp; done) | with_reducible apply Box.gw | with_reducible apply Box.drewN | with_reducible apply Box.drew | with_reducible apply Box.alloc | with_reducible apply Box.set | (with_reducible apply Box.set_other; case hg => omega)))); rfl))⟩
        case measure => simp [intOf]; omega
      · rw [if_pos hu] at hS
        have hu2 : (bits .and .u8 p.x f != 0) = true := by rw [bne_iff_ne]; exact hu
        go_wp2_with fail
        first | refine wp_grow2 (by kernel_rfl) (by kernel_rfl) ?_ | refine wp_grow (by kernel_rfl) (by kernel_rfl) ?_
        repeat (go_big_quiet_step ((go_at_call 25; with_reducible exact GW.call (cFl _))))
        refine wpQuiet_nil ?_
        rintro _ ⟨X, rfl⟩
        have hbX : Below w.heap.size w X.world := (by repeat (first | with_reducible exact Below.refl _ _ | with_reducible assumption | with_reducible exact GW.grow _ | with_reducible refine bl_alloc ?_ _ | with_reducible refine Below.drewN ?_ _ | with_reducible refine Below.drew ?_ | (with_reducible refine Below.setCell ?_ ?_ _; rotate_left; focus (simp; first | done | omega)) | with_reducible refine bl_trans ?_ (GW.grow _) | (with_reducible refine bl_trans ?_ (by assumption))))
        have hownX : Own X.world (w.heap.size + 1) 3 .i64 _ _ := hown.kept (by repeat (first | with_reducible exact Below.refl _ _ | with_reducible assumption | with_reducible exact GW.grow _ | with_reducible refine bl_alloc ?_ _ | with_reducible refine Below.drewN ?_ _ | with_reducible refine Below.drew ?_ | (with_reducible refine Below.setCell ?_ ?_ _; rotate_left; focus (simp; first | done | omega)) | with_reducible refine bl_trans ?_ (GW.grow _) | (with_reducible refine bl_trans ?_ (by assumption))))
        have yX : Box X.world w.heap.size p.a 27 := (by first | with_reducible assumption | (apply Box.as; (focus (repeat (first | with_reducible assumption | (with_reducible apply Box.new; simp; done) | with_reducible apply Box.gw | with_reducible apply Box.drewN | with_reducible apply Box.drew | with_reducible apply Box.alloc | with_reducible apply Box.set | (with_reducible apply Box.set_other; case hg => omega)))); rfl))
        have hsX : w.heap.size + 1 ≤ X.world.heap.size := yX.lt
        go_wp2_with (first | (go_at_call 26; (with_reducible refine (cN _).mono ?_); rintro e w1 ⟨v1, rfl, ho1, hb1⟩; obtain ⟨p1, c1, hv1, hl1, hc1, hx1⟩ := ho1.rd; subst hv1; have hl1 : 8 ≤ c1 := hl1; rcases hx1 with ⟨_, hx1⟩ | ⟨b1, o1, hx1, hb1l, hcell1⟩; (exfalso; omega); subst hx1; have cc := hcell1 k _ HL.out; clear hcell1; have bl1 := bl_trans hbX hb1; have hw1 := Box.past hb1 yX; have hown1 := hownX.kept hb1; have hs1 : w.heap.size + 1 ≤ w1.heap.size := Nat.le_trans hsX hb1.size) | (at_builtin; refine wpList_app rfl _ _ 28 3 .i64 8 rfl Tryd.underlying28 elI (w.heap.size + 1) _ _ ([0] ++ xs) [n] (hown1.kept (by repeat (first | with_reducible exact Below.refl _ _ | with_reducible assumption | with_reducible exact GW.grow _ | with_reducible refine bl_alloc ?_ _ | with_reducible refine Below.drewN ?_ _ | with_reducible refine Below.drew ?_ | (with_reducible refine Below.setCell ?_ ?_ _; rotate_left; focus (simp; first | done | omega)) | with_reducible refine bl_trans ?_ (GW.grow _) | (with_reducible refine bl_trans ?_ (by assumption))))) (Rd.lit1 _ _ _ _ _ (by simp)) rfl rfl (by simp only [maxLen, List.length_append, List.length_cons, List.length_nil]; omega) (by simp only [List.length_append, List.length_cons, List.length_nil]; omega) (by simp; omega) ?_; intro v' w3 hown' hb3 hgr))
        have hb4 : Below w.heap.size w w3 := Below.trans (bl_alloc bl1 _) (hb3.mono (by omega))
        go_roundw
        case rel => exact ⟨k + 1, by omega, by go_num, (by rw [hS.out, ← List.append_assoc]; exact hown'), hb4, Own.box (by omega) hb3 (Box.alloc hw1 _)⟩
        case measure => simp [intOf]; omega
    · obtain rfl : k = 8 := by omega
      generalize codK p.x 8 = xs at *
      by_cases hf : p.f.k = 0
      · rw [if_pos hf] at HQ
        by_cases hbb : p.b.k = 0
        · rw [if_pos hbb] at HQ
          go_wp2_with fail
          go_ret
          exact ⟨_, rfl, (by rw [HQ.out]; simp only [List.append_nil] at hown ⊢; exact hown.weaken (by omega)), hbel⟩
        · have eb : (p.b.k != 0) = true := by rw [bne_iff_ne]; exact hbb
          rw [if_neg hbb] at HQ
          go_wp2_with (first | (go_at_call 27; (with_reducible refine (cB _).mono ?_); rintro e wb2 ⟨vb2, rfl, hob2, hbb2⟩; have hsb : wr.heap.size ≤ wb2.heap.size := hbb2.size) | (at_builtin; refine wpList_app rfl _ _ 28 3 .i64 8 rfl Tryd.underlying28 elI (w.heap.size + 1) _ _ ([0] ++ xs) nb (hown.kept hbb2) hob2.rd rfl rfl (by simp only [maxLen, List.length_append, List.length_cons, List.length_nil]; omega) (by simp only [List.length_append, List.length_cons, List.length_nil]; omega) (by omega) ?_; intro vb3 wb3 hownb hbb3 hgrb; have zAb := Own.box (D := w.heap.size) (by omega) hbb3 (Box.past hbb2 yA); have zcAb := zAb.cell; have zlAb := zAb.lt; have hbelb : Below w.heap.size w wb3 := Below.trans (bl_trans hbel hbb2) (hbb3.mono (by omega))))
          go_ret
          exact ⟨_, rfl, (by rw [HQ.out]; simp only [List.append_nil] at hownb ⊢; exact hownb.weaken (by omega)), hbelb⟩
      · have ef : (p.f.k != 0) = true := by rw [bne_iff_ne]; exact hf
        rw [if_neg hf] at HQ
        by_cases hbb : p.b.k = 0
        · rw [if_pos hbb] at HQ
          go_wp2_with (first | (go_at_call 27; (with_reducible refine (cF _).mono ?_); rintro e wf2 ⟨vf2, rfl, hof2, hbf2⟩; have hsf : wr.heap.size ≤ wf2.heap.size := hbf2.size) | (at_builtin; refine wpList_app rfl _ _ 28 3 .i64 8 rfl Tryd.underlying28 elI (w.heap.size + 1) _ _ ([0] ++ xs) nf (hown.kept hbf2) hof2.rd rfl rfl (by simp only [maxLen, List.length_append, List.length_cons, List.length_nil]; omega) (by simp only [List.length_append, List.length_cons, List.length_nil]; omega) (by omega) ?_; intro vf3 wf3 hownf hbf3 hgrf; have zAf := Own.box (D := w.heap.size) (by omega) hbf3 (Box.past hbf2 yA); have zcAf := zAf.cell; have zlAf := zAf.lt; have hbelf : Below w.heap.size w wf3 := Below.trans (bl_trans hbel hbf2) (hbf3.mono (by omega))))
          go_ret
          exact ⟨_, rfl, (by rw [HQ.out]; simp only [List.append_nil] at hownf ⊢; exact hownf.weaken (by omega)), hbelf⟩
        · have eb : (p.b.k != 0) = true := by rw [bne_iff_ne]; exact hbb
          rw [if_neg hbb] at HQ
          go_wp2_with (first | (go_at_call 27; (with_reducible refine (cF _).mono ?_); rintro e wf2 ⟨vf2, rfl, hof2, hbf2⟩; have hsf : wr.heap.size ≤ wf2.heap.size := hbf2.size) | (at_builtin; refine wpList_app rfl _ _ 28 3 .i64 8 rfl Tryd.underlying28 elI (w.heap.size + 1) _ _ ([0] ++ xs) nf (hown.kept hbf2) hof2.rd rfl rfl (by simp only [maxLen, List.length_append, List.length_cons, List.length_nil]; omega) (by simp only [List.length_append, List.length_cons, List.length_nil]; omega) (by omega) ?_; intro vf3 wf3 hownf hbf3 hgrf; have zAf := Own.box (D := w.heap.size) (by omega) hbf3 (Box.past hbf2 yA); have zcAf := zAf.cell; have zlAf := zAf.lt; have hbelf : Below w.heap.size w wf3 := Below.trans (bl_trans hbel hbf2) (hbf3.mono (by omega))) | (go_at_call 27; (with_reducible refine (cB _).mono ?_); rintro e wb2 ⟨vb2, rfl, hob2, hbb2⟩; have hsb : wf3.heap.size ≤ wb2.heap.size := hbb2.size) | (at_builtin; refine wpList_app rfl _ _ 28 3 .i64 8 rfl Tryd.underlying28 elI (w.heap.size + 1) _ _ ([0] ++ xs ++ nf) nb (hownf.kept hbb2) hob2.rd rfl rfl (by simp only [maxLen, List.length_append, List.length_cons, List.length_nil]; omega) (by simp only [List.length_append, List.length_cons, List.length_nil]; omega) (by omega) ?_; intro vb3 wb3 hownb hbb3 hgrb; have zAb := Own.box (D := w.heap.size) (by omega) hbb3 (Box.past hbb2 zAf); have zcAb := zAb.cell; have zlAb := zAb.lt; have hbelb : Below w.heap.size w wb3 := Below.trans (bl_trans hbelf hbb2) (hbb3.mono (by omega))))
          go_ret
          exact ⟨_, rfl, (by rw [HQ.out]; simp only [List.append_nil] at hownb ⊢; exact hownb.weaken (by omega)), hbelb⟩

end Go.Proofs.YtdoeiaekimbecaaDoor
