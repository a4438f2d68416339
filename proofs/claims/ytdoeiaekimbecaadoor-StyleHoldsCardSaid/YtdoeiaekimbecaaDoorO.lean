/- style: the reference's Between. Printed by mk_o.py. -/
import Derived.Test.YtdoeiaekimbecaaDoorN
import Derived.Outline
set_option linter.unusedSimpArgs false
set_option linter.unusedVariables false
set_option linter.unnecessarySimpa false
namespace Go.Proofs.YtdoeiaekimbecaaDoor
open Go.RowKit

theorem pn_ne {a b : Pn} (h : a ≠ b) : ((((a.f.k == b.f.k) && (a.f.i == b.f.i) && (a.f.r == b.f.r) && (a.f.g == b.f.g) && (a.f.b == b.f.b)) && ((a.b.k == b.b.k) && (a.b.i == b.b.i) && (a.b.r == b.b.r) && (a.b.g == b.b.g) && (a.b.b == b.b.b)) && (a.x == b.x))) = false := by
  obtain ⟨⟨k, i, r, g, x⟩, ⟨l, j, s, t, y⟩, z⟩ := a
  obtain ⟨⟨k', i', r', g', x'⟩, ⟨l', j', s', t', y'⟩, z'⟩ := b
  rw [Bool.eq_false_iff]
  intro he
  simp only [Bool.and_eq_true, beq_iff_eq] at he
  obtain ⟨⟨⟨⟨⟨⟨rfl, rfl⟩, rfl⟩, rfl⟩, rfl⟩, ⟨⟨⟨⟨rfl, rfl⟩, rfl⟩, rfl⟩, rfl⟩⟩, rfl⟩ := he
  exact h rfl
def rbetweenN (a b : Pn) : List Int := if a = b then [] else if (rcodesN b).length < (chgN a b).length then rcodesN b else chgN a b
theorem back8 (x : BitVec 8) : BitVec.ofInt 8 (IntKind.u8.wrap (x.toNat : Int)) = x := by
  rw [IntWalk.u8_in _ (by have := x.isLt; omega)]
  apply BitVec.eq_of_toNat_eq
  simp
theorem and_def (a b : Int) : bits .and .u8 a b = IntKind.u8.wrap ((BitVec.ofInt 8 a &&& BitVec.ofInt 8 b).toNat : Int) := rfl
theorem or_def (a b : Int) : bits .or .u8 a b = IntKind.u8.wrap ((BitVec.ofInt 8 a ||| BitVec.ofInt 8 b).toNat : Int) := rfl
theorem andNot_def (a b : Int) : bits .andNot .u8 a b = IntKind.u8.wrap ((BitVec.ofInt 8 a &&& ~~~ BitVec.ofInt 8 b).toNat : Int) := rfl
/-- Two ways to say that a weight is taken away. -/
theorem weight_two (a b : Int) (ha : 0 ≤ a ∧ a ≤ 255) (hb : 0 ≤ b ∧ b ≤ 255) : bits .andNot .u8 (bits .and .u8 a 3) b = bits .and .u8 (bits .andNot .u8 a b) 3 := by
  rw [andNot_def (bits _ _ _ _), and_def a, back8, and_def (bits _ _ _ _), andNot_def a, back8]
  congr 2
  simp only [BitVec.and_assoc]
  rw [BitVec.and_comm (BitVec.ofInt 8 3)]
set_option maxHeartbeats 8000000 in
set_option maxRecDepth 100000 in
theorem rbetween_any (a b : Pn) (w : World) (ha : wfP a) (hb : wfP b) : Calls Tryd.prog 17 #[.agg a.a, .agg b.a] w (RetOwn w 3 .i64 (rbetweenN a b)) := by
  have cF : ∀ W, Calls Tryd.prog 27 #[.agg #[.int .i64 b.f.k, .int .u8 b.f.i, .int .u8 b.f.r, .int .u8 b.f.g, .int .u8 b.f.b], .int .i64 0] W (RetOwn W 3 .i64 (numsN b.f 30)) := fun W => rcolored_any b.f 0 W (by omega) hb.1
  have cB : ∀ W, Calls Tryd.prog 27 #[.agg #[.int .i64 b.b.k, .int .u8 b.b.i, .int .u8 b.b.r, .int .u8 b.b.g, .int .u8 b.b.b], .int .i64 10] W (RetOwn W 3 .i64 (numsN b.b 40)) := fun W => rcolored_any b.b 10 W (by omega) hb.2.1
  have cC : ∀ W, Calls Tryd.prog 15 #[.agg b.a] W (RetOwn W 3 .i64 (rcodesN b)) := fun W => rcodes_any b W hb
  have lF := numsN_len b.f 30
  have lB := numsN_len b.b 40
  have hw2 := weight_two a.x b.x ha.2.2 hb.2.2
  have HQ := Lib.hid (show rbetweenN a b = if a = b then [] else if (rcodesN b).length < (headN a.x b.x ++ chgK (lessN a.x b.x) b.x 8 ++ (if a.f = b.f then [] else numsN b.f 30) ++ (if a.b = b.b then [] else numsN b.b 40)).length then rcodesN b else headN a.x b.x ++ chgK (lessN a.x b.x) b.x 8 ++ (if a.f = b.f then [] else numsN b.f 30) ++ (if a.b = b.b then [] else numsN b.b 40) from rfl)
  clear ha hb
  generalize rbetweenN a b = q at *
  generalize numsN b.f 30 = nf at *
  generalize numsN b.b 40 = nb at *
  generalize rcodesN b = co at *
  by_cases hab : a = b
  · rw [if_pos hab] at HQ
    have ep : ((((a.f.k == b.f.k) && (a.f.i == b.f.i) && (a.f.r == b.f.r) && (a.f.g == b.f.g) && (a.f.b == b.f.b)) && ((a.b.k == b.b.k) && (a.b.i == b.b.i) && (a.b.r == b.b.r) && (a.b.g == b.b.g) && (a.b.b == b.b.b)) && (a.x == b.x))) = true := by rw [hab]; simp
    clear cF cB cC hab
    go_enter Tryd.func17, Tryd.ntmps17
    go_wp2_with fail
    go_ret
    exact ⟨_, rfl, (by rw [HQ.out]; exact Own.nil _ _ _ _), (by repeat (first | with_reducible exact Below.refl _ _ | with_reducible assumption | with_reducible exact GW.grow _ | with_reducible refine bl_alloc ?_ _ | with_reducible refine Below.drew ?_ | (with_reducible refine Below.setCell ?_ ?_ _; rotate_left; focus (simp; first | done | omega)) | with_reducible refine bl_trans ?_ (GW.grow _) | (with_reducible refine bl_trans ?_ (by assumption))))⟩
  rw [if_neg hab] at HQ
  have ep := pn_ne hab
  clear hab
  cases hwt : weightN a.x b.x
  · have e1 : headN a.x b.x = [] := by unfold headN; rw [hwt]; rfl
    have e2 : lessN a.x b.x = a.x := by unfold lessN; rw [hwt]; rfl
    unfold weightN at hwt
    rw [← hw2] at hwt
    rw [e1, e2] at HQ
    clear e1 e2 hw2
    go_enter Tryd.func17, Tryd.ntmps17
    go_wp2_with fail
    go_loopw [5, 7] (fun l i wr => ∃ k : Nat, k ≤ 8 ∧ i = .int .i64 k ∧ Own wr (w.heap.size + 2) 3 .i64 l (([] : List Int) ++ chgK a.x b.x k) ∧ Below w.heap.size w wr ∧ Box wr w.heap.size #[.int .i64 a.f.k, .int .u8 a.f.i, .int .u8 a.f.r, .int .u8 a.f.g, .int .u8 a.f.b, .int .i64 a.b.k, .int .u8 a.b.i, .int .u8 a.b.r, .int .u8 a.b.g, .int .u8 a.b.b, .int .u8 a.x] 27 ∧ Box wr (w.heap.size + 1) b.a 27) (fun _ i _ => 8 - (intOf i).toNat)
    case atStart => exact ⟨0, by omega, rfl, Own.nil _ _ _ _, (by repeat (first | with_reducible exact Below.refl _ _ | with_reducible assumption | with_reducible exact GW.grow _ | with_reducible refine bl_alloc ?_ _ | with_reducible refine Below.drewN ?_ _ | with_reducible refine Below.drew ?_ | (with_reducible refine Below.setCell ?_ ?_ _; rotate_left; focus (simp; first | done | omega)) | with_reducible refine bl_trans ?_ (GW.grow _) | (with_reducible refine bl_trans ?_ (by assumption)))), (by first | with_reducible assumption | (apply Box.as; (focus (repeat (first | with_reducible assumption | (with_reducible apply Box.new; simp; done) | with_reducible apply Box.gw | with_reducible apply Box.drewN | with_reducible apply Box.drew | with_reducible apply Box.alloc | with_reducible apply Box.set | (with_reducible apply Box.set_other; case hg => omega)))); rfl)), (by first | with_reducible assumption | (apply Box.as; (focus (repeat (first | with_reducible assumption | (with_reducible apply Box.new; simp; done) | with_reducible apply Box.gw | with_reducible apply Box.drewN | with_reducible apply Box.drew | with_reducible apply Box.alloc | with_reducible apply Box.set | (with_reducible apply Box.set_other; case hg => omega)))); rfl))⟩
    case round =>
      obtain ⟨k, hk, rfl, hown, hbel, yA, yB⟩ := hrel
      have hln := chgK_len a.x b.x k
      have yc := yA.cell
      have yl := yA.lt
      have zc := yB.cell
      have zl := yB.lt
      by_cases hlt : k < 8
      · have hS : Hid (chgK a.x b.x (k + 1) = chgK a.x b.x k ++ if bits .and .u8 b.x (mF k) ≠ 0 ∧ bits .and .u8 a.x (mF k) = 0 then [mN k] else if bits .and .u8 a.x (mF k) ≠ 0 ∧ bits .and .u8 b.x (mF k) = 0 then [mN k + 20] else []) := Lib.hid (chgK_succ a.x b.x k)
        have hn := mN_le k hlt
        have cFl := fun W => rflag_any k W hlt
        have HL := Lib.hid (numL8 k hlt)
        have cN := fun W => rnumbers_any W
        generalize chgK a.x b.x k = xs at *
        generalize hf : mF k = f at *
        generalize hnn : mN k = n at *
        clear hf hnn
        have ltI : (k : Int) < 8 := by omega
        by_cases hu : bits .and .u8 a.x f = 0
        · by_cases hv : bits .and .u8 b.x f = 0
          · rw [if_neg (fun h => h.1 hv), if_neg (fun h => h.1 hu)] at hS
            go_wp2_with (first | (go_at_call 25; (with_reducible refine (cFl _).mono ?_); rintro e w4 ⟨rfl, hb4⟩; have hbF := bl_trans hbel hb4; have yAF := Box.past hb4 yA; have yBF := Box.past hb4 yB; have hownF := hown.kept hb4; have hsF : w.heap.size + 2 ≤ w4.heap.size := yBF.lt; clear yc yl zc zl; have yc := yAF.cell; have yl := yAF.lt; have zc := yBF.cell; have zl := yBF.lt))
            go_roundw
            case rel => exact ⟨k + 1, by omega, by go_num, (by rw [hS.out, List.append_nil]; exact hownF), hbF, yAF, yBF⟩
            case measure => simp [intOf]; omega
          · have hv2 : (bits .and .u8 b.x f != 0) = true := by rw [bne_iff_ne]; exact hv
            rw [if_pos ⟨hv, hu⟩] at hS
            go_wp2_with (first | (go_at_call 25; (with_reducible refine (cFl _).mono ?_); rintro e w4 ⟨rfl, hb4⟩; have hbF := bl_trans hbel hb4; have yAF := Box.past hb4 yA; have yBF := Box.past hb4 yB; have hownF := hown.kept hb4; have hsF : w.heap.size + 2 ≤ w4.heap.size := yBF.lt; clear yc yl zc zl; have yc := yAF.cell; have yl := yAF.lt; have zc := yBF.cell; have zl := yBF.lt) | (go_at_call 26; (with_reducible refine (cN _).mono ?_); rintro e w1 ⟨v1, rfl, ho1, hb1⟩; obtain ⟨p1, c1, hv1, hl1, hc1, hx1⟩ := ho1.rd; subst hv1; have hl1 : 8 ≤ c1 := hl1; rcases hx1 with ⟨_, hx1⟩ | ⟨b1, o1, hx1, hb1l, hcell1⟩; (exfalso; omega); subst hx1; have cc := hcell1 k _ HL.out; clear hcell1; have bl1 := bl_trans hbF hb1; have hwA := Box.past hb1 yAF; have hwB := Box.past hb1 yBF; have hown1 := hownF.kept hb1; have hs1 : w.heap.size + 2 ≤ w1.heap.size := Nat.le_trans hsF hb1.size) | (at_builtin; refine wpList_app rfl _ _ 28 3 .i64 8 rfl Tryd.underlying28 elI (w.heap.size + 2) _ _ (([] : List Int) ++ xs) [n] (hown1.kept (by repeat (first | with_reducible exact Below.refl _ _ | with_reducible assumption | with_reducible exact GW.grow _ | with_reducible refine bl_alloc ?_ _ | with_reducible refine Below.drewN ?_ _ | with_reducible refine Below.drew ?_ | (with_reducible refine Below.setCell ?_ ?_ _; rotate_left; focus (simp; first | done | omega)) | with_reducible refine bl_trans ?_ (GW.grow _) | (with_reducible refine bl_trans ?_ (by assumption))))) (Rd.lit1 _ _ _ _ _ (by simp)) rfl rfl (by simp only [maxLen, List.length_append, List.length_cons, List.length_nil]; omega) (by simp only [List.length_append, List.length_cons, List.length_nil]; omega) (by simp; omega) ?_; intro v' w3 hown' hb3 hgr; have xA3 := Own.box (D := w.heap.size) (by omega) hb3 (Box.alloc hwA _); have xB3 := Own.box (D := w.heap.size + 1) (by omega) hb3 (Box.alloc hwB _); clear yc yl zc zl; have yc := xA3.cell; have yl := xA3.lt; have zc := xB3.cell; have zl := xB3.lt))
            have hb5 : Below w.heap.size w w3 := Below.trans (bl_alloc bl1 _) (hb3.mono (by omega))
            go_roundw
            case rel => exact ⟨k + 1, by omega, by go_num, (by rw [hS.out, ← List.append_assoc]; exact hown'), hb5, Own.box (by omega) hb3 (Box.alloc hwA _), Own.box (by omega) hb3 (Box.alloc hwB _)⟩
            case measure => simp [intOf]; omega
        · have hu2 : (bits .and .u8 a.x f != 0) = true := by rw [bne_iff_ne]; exact hu
          have hu3 : (bits .and .u8 a.x f == 0) = false := by rw [beq_eq_false_iff_ne]; exact hu
          by_cases hv : bits .and .u8 b.x f = 0
          · rw [if_neg (fun h => h.1 hv), if_pos ⟨hu, hv⟩] at hS
            go_wp2_with (first | (go_at_call 25; (with_reducible refine (cFl _).mono ?_); rintro e w4 ⟨rfl, hb4⟩; have hbF := bl_trans hbel hb4; have yAF := Box.past hb4 yA; have yBF := Box.past hb4 yB; have hownF := hown.kept hb4; have hsF : w.heap.size + 2 ≤ w4.heap.size := yBF.lt; clear yc yl zc zl; have yc := yAF.cell; have yl := yAF.lt; have zc := yBF.cell; have zl := yBF.lt) | (go_at_call 26; (with_reducible refine (cN _).mono ?_); rintro e w1 ⟨v1, rfl, ho1, hb1⟩; obtain ⟨p1, c1, hv1, hl1, hc1, hx1⟩ := ho1.rd; subst hv1; have hl1 : 8 ≤ c1 := hl1; rcases hx1 with ⟨_, hx1⟩ | ⟨b1, o1, hx1, hb1l, hcell1⟩; (exfalso; omega); subst hx1; have cc := hcell1 k _ HL.out; clear hcell1; have bl1 := bl_trans hbF hb1; have hwA := Box.past hb1 yAF; have hwB := Box.past hb1 yBF; have hown1 := hownF.kept hb1; have hs1 : w.heap.size + 2 ≤ w1.heap.size := Nat.le_trans hsF hb1.size) | (at_builtin; refine wpList_app rfl _ _ 28 3 .i64 8 rfl Tryd.underlying28 elI (w.heap.size + 2) _ _ (([] : List Int) ++ xs) [n + 20] (hown1.kept (by repeat (first | with_reducible exact Below.refl _ _ | with_reducible assumption | with_reducible exact GW.grow _ | with_reducible refine bl_alloc ?_ _ | with_reducible refine Below.drewN ?_ _ | with_reducible refine Below.drew ?_ | (with_reducible refine Below.setCell ?_ ?_ _; rotate_left; focus (simp; first | done | omega)) | with_reducible refine bl_trans ?_ (GW.grow _) | (with_reducible refine bl_trans ?_ (by assumption))))) (Rd.lit1 _ _ _ _ _ (by simp)) rfl rfl (by simp only [maxLen, List.length_append, List.length_cons, List.length_nil]; omega) (by simp only [List.length_append, List.length_cons, List.length_nil]; omega) (by simp; omega) ?_; intro v' w3 hown' hb3 hgr; have xA3 := Own.box (D := w.heap.size) (by omega) hb3 (Box.alloc hwA _); have xB3 := Own.box (D := w.heap.size + 1) (by omega) hb3 (Box.alloc hwB _); clear yc yl zc zl; have yc := xA3.cell; have yl := xA3.lt; have zc := xB3.cell; have zl := xB3.lt))
            have hb5 : Below w.heap.size w w3 := Below.trans (bl_alloc bl1 _) (hb3.mono (by omega))
            go_roundw
            case rel => exact ⟨k + 1, by omega, by go_num, (by rw [hS.out, ← List.append_assoc]; exact hown'), hb5, Own.box (by omega) hb3 (Box.alloc hwA _), Own.box (by omega) hb3 (Box.alloc hwB _)⟩
            case measure => simp [intOf]; omega
          · have hv2 : (bits .and .u8 b.x f != 0) = true := by rw [bne_iff_ne]; exact hv
            have hv3 : (bits .and .u8 b.x f == 0) = false := by rw [beq_eq_false_iff_ne]; exact hv
            rw [if_neg (fun h => hu h.2), if_neg (fun h => hv h.2)] at hS
            go_wp2_with (first | (go_at_call 25; (with_reducible refine (cFl _).mono ?_); rintro e w4 ⟨rfl, hb4⟩; have hbF := bl_trans hbel hb4; have yAF := Box.past hb4 yA; have yBF := Box.past hb4 yB; have hownF := hown.kept hb4; have hsF : w.heap.size + 2 ≤ w4.heap.size := yBF.lt; clear yc yl zc zl; have yc := yAF.cell; have yl := yAF.lt; have zc := yBF.cell; have zl := yBF.lt))
            go_roundw
            case rel => exact ⟨k + 1, by omega, by go_num, (by rw [hS.out, List.append_nil]; exact hownF), hbF, yAF, yBF⟩
            case measure => simp [intOf]; omega
      · obtain rfl : k = 8 := by omega
        generalize chgK a.x b.x 8 = xs at *
        by_cases hf : a.f = b.f
        · have ef : ((a.f.k == b.f.k) && (a.f.i == b.f.i) && (a.f.r == b.f.r) && (a.f.g == b.f.g) && (a.f.b == b.f.b)) = true := by rw [hf]; simp
          rw [if_pos hf, List.append_nil] at HQ
          by_cases hbb : a.b = b.b
          · have eb : ((a.b.k == b.b.k) && (a.b.i == b.b.i) && (a.b.r == b.b.r) && (a.b.g == b.b.g) && (a.b.b == b.b.b)) = true := by rw [hbb]; simp
            rw [if_pos hbb, List.append_nil] at HQ
            clear hf hbb
            go_wp2_with (first | (go_at_call 15; (with_reducible refine (cC _).mono ?_); rintro e w8 ⟨v8, rfl, ho8, hb8⟩; have h8 := bl_trans hbel hb8; have ho7 := hown.kept hb8; have hs8 : w.heap.size ≤ w8.heap.size := h8.size; have hs7 := hbel.size; obtain ⟨p3, c3, hv3, hx3⟩ := ho7.rd; obtain ⟨p4, c4, hv4, hx4⟩ := ho8.rd; clear hx3 hx4; subst hv3 hv4; generalize ([] : List Int) ++ xs = ch at *; by_cases hlt : co.length < ch.length))
            · go_ret
              exact ⟨_, rfl, (by rw [HQ.out, if_pos hlt]; exact ho8.weaken hs7), h8⟩
            · go_ret
              exact ⟨_, rfl, (by rw [HQ.out, if_neg hlt]; exact ho7.weaken (by omega)), h8⟩
          · have eb : ((a.b.k == b.b.k) && (a.b.i == b.b.i) && (a.b.r == b.b.r) && (a.b.g == b.b.g) && (a.b.b == b.b.b)) = false := co_ne hbb
            rw [if_neg hbb] at HQ
            clear hf hbb
            go_wp2_with (first | (go_at_call 27; (with_reducible refine (cB _).mono ?_); rintro e wb2 ⟨vb2, rfl, hob2, hbb2⟩; have hsb : wr.heap.size ≤ wb2.heap.size := hbb2.size) | (at_builtin; refine wpList_app rfl _ _ 28 3 .i64 8 rfl Tryd.underlying28 elI (w.heap.size + 2) _ _ (([] : List Int) ++ xs) nb (hown.kept hbb2) hob2.rd rfl rfl (by simp only [maxLen, List.length_append, List.length_cons, List.length_nil]; omega) (by simp only [List.length_append, List.length_cons, List.length_nil]; omega) (by omega) ?_; intro vb3 wb3 hownb hbb3 hgrb; have zAb := Own.box (D := w.heap.size) (by omega) hbb3 (Box.past hbb2 yA); have zBb := Own.box (D := w.heap.size + 1) (by omega) hbb3 (Box.past hbb2 yB); have zcAb := zAb.cell; have zlAb := zAb.lt; have zcBb := zBb.cell; have zlBb := zBb.lt; have hbelb : Below w.heap.size w wb3 := Below.trans (bl_trans hbel hbb2) (hbb3.mono (by omega))) | (go_at_call 15; (with_reducible refine (cC _).mono ?_); rintro e w8 ⟨v8, rfl, ho8, hb8⟩; have h8 := bl_trans hbelb hb8; have ho7 := hownb.kept hb8; have hs8 : w.heap.size ≤ w8.heap.size := h8.size; have hs7 := hbelb.size; obtain ⟨p3, c3, hv3, hx3⟩ := ho7.rd; obtain ⟨p4, c4, hv4, hx4⟩ := ho8.rd; clear hx3 hx4; subst hv3 hv4; generalize ([] : List Int) ++ xs ++ nb = ch at *; by_cases hlt : co.length < ch.length))
            · go_ret
              exact ⟨_, rfl, (by rw [HQ.out, if_pos hlt]; exact ho8.weaken hs7), h8⟩
            · go_ret
              exact ⟨_, rfl, (by rw [HQ.out, if_neg hlt]; exact ho7.weaken (by omega)), h8⟩
        · have ef : ((a.f.k == b.f.k) && (a.f.i == b.f.i) && (a.f.r == b.f.r) && (a.f.g == b.f.g) && (a.f.b == b.f.b)) = false := co_ne hf
          rw [if_neg hf] at HQ
          by_cases hbb : a.b = b.b
          · have eb : ((a.b.k == b.b.k) && (a.b.i == b.b.i) && (a.b.r == b.b.r) && (a.b.g == b.b.g) && (a.b.b == b.b.b)) = true := by rw [hbb]; simp
            rw [if_pos hbb, List.append_nil] at HQ
            clear hf hbb
            go_wp2_with (first | (go_at_call 27; (with_reducible refine (cF _).mono ?_); rintro e wf2 ⟨vf2, rfl, hof2, hbf2⟩; have hsf : wr.heap.size ≤ wf2.heap.size := hbf2.size) | (at_builtin; refine wpList_app rfl _ _ 28 3 .i64 8 rfl Tryd.underlying28 elI (w.heap.size + 2) _ _ (([] : List Int) ++ xs) nf (hown.kept hbf2) hof2.rd rfl rfl (by simp only [maxLen, List.length_append, List.length_cons, List.length_nil]; omega) (by simp only [List.length_append, List.length_cons, List.length_nil]; omega) (by omega) ?_; intro vf3 wf3 hownf hbf3 hgrf; have zAf := Own.box (D := w.heap.size) (by omega) hbf3 (Box.past hbf2 yA); have zBf := Own.box (D := w.heap.size + 1) (by omega) hbf3 (Box.past hbf2 yB); have zcAf := zAf.cell; have zlAf := zAf.lt; have zcBf := zBf.cell; have zlBf := zBf.lt; have hbelf : Below w.heap.size w wf3 := Below.trans (bl_trans hbel hbf2) (hbf3.mono (by omega))) | (go_at_call 15; (with_reducible refine (cC _).mono ?_); rintro e w8 ⟨v8, rfl, ho8, hb8⟩; have h8 := bl_trans hbelf hb8; have ho7 := hownf.kept hb8; have hs8 : w.heap.size ≤ w8.heap.size := h8.size; have hs7 := hbelf.size; obtain ⟨p3, c3, hv3, hx3⟩ := ho7.rd; obtain ⟨p4, c4, hv4, hx4⟩ := ho8.rd; clear hx3 hx4; subst hv3 hv4; generalize ([] : List Int) ++ xs ++ nf = ch at *; by_cases hlt : co.length < ch.length))
            · go_ret
              exact ⟨_, rfl, (by rw [HQ.out, if_pos hlt]; exact ho8.weaken hs7), h8⟩
            · go_ret
              exact ⟨_, rfl, (by rw [HQ.out, if_neg hlt]; exact ho7.weaken (by omega)), h8⟩
          · have eb : ((a.b.k == b.b.k) && (a.b.i == b.b.i) && (a.b.r == b.b.r) && (a.b.g == b.b.g) && (a.b.b == b.b.b)) = false := co_ne hbb
            rw [if_neg hbb] at HQ
            clear hf hbb
            go_wp2_with (first | (go_at_call 27; (with_reducible refine (cF _).mono ?_); rintro e wf2 ⟨vf2, rfl, hof2, hbf2⟩; have hsf : wr.heap.size ≤ wf2.heap.size := hbf2.size) | (at_builtin; refine wpList_app rfl _ _ 28 3 .i64 8 rfl Tryd.underlying28 elI (w.heap.size + 2) _ _ (([] : List Int) ++ xs) nf (hown.kept hbf2) hof2.rd rfl rfl (by simp only [maxLen, List.length_append, List.length_cons, List.length_nil]; omega) (by simp only [List.length_append, List.length_cons, List.length_nil]; omega) (by omega) ?_; intro vf3 wf3 hownf hbf3 hgrf; have zAf := Own.box (D := w.heap.size) (by omega) hbf3 (Box.past hbf2 yA); have zBf := Own.box (D := w.heap.size + 1) (by omega) hbf3 (Box.past hbf2 yB); have zcAf := zAf.cell; have zlAf := zAf.lt; have zcBf := zBf.cell; have zlBf := zBf.lt; have hbelf : Below w.heap.size w wf3 := Below.trans (bl_trans hbel hbf2) (hbf3.mono (by omega))) | (go_at_call 27; (with_reducible refine (cB _).mono ?_); rintro e wb2 ⟨vb2, rfl, hob2, hbb2⟩; have hsb : wf3.heap.size ≤ wb2.heap.size := hbb2.size) | (at_builtin; refine wpList_app rfl _ _ 28 3 .i64 8 rfl Tryd.underlying28 elI (w.heap.size + 2) _ _ (([] : List Int) ++ xs ++ nf) nb (hownf.kept hbb2) hob2.rd rfl rfl (by simp only [maxLen, List.length_append, List.length_cons, List.length_nil]; omega) (by simp only [List.length_append, List.length_cons, List.length_nil]; omega) (by omega) ?_; intro vb3 wb3 hownb hbb3 hgrb; have zAb := Own.box (D := w.heap.size) (by omega) hbb3 (Box.past hbb2 zAf); have zBb := Own.box (D := w.heap.size + 1) (by omega) hbb3 (Box.past hbb2 zBf); have zcAb := zAb.cell; have zlAb := zAb.lt; have zcBb := zBb.cell; have zlBb := zBb.lt; have hbelb : Below w.heap.size w wb3 := Below.trans (bl_trans hbelf hbb2) (hbb3.mono (by omega))) | (go_at_call 15; (with_reducible refine (cC _).mono ?_); rintro e w8 ⟨v8, rfl, ho8, hb8⟩; have h8 := bl_trans hbelb hb8; have ho7 := hownb.kept hb8; have hs8 : w.heap.size ≤ w8.heap.size := h8.size; have hs7 := hbelb.size; obtain ⟨p3, c3, hv3, hx3⟩ := ho7.rd; obtain ⟨p4, c4, hv4, hx4⟩ := ho8.rd; clear hx3 hx4; subst hv3 hv4; generalize ([] : List Int) ++ xs ++ nf ++ nb = ch at *; by_cases hlt : co.length < ch.length))
            · go_ret
              exact ⟨_, rfl, (by rw [HQ.out, if_pos hlt]; exact ho8.weaken hs7), h8⟩
            · go_ret
              exact ⟨_, rfl, (by rw [HQ.out, if_neg hlt]; exact ho7.weaken (by omega)), h8⟩
  · have e1 : headN a.x b.x = [22] := by unfold headN; rw [hwt]; rfl
    have e2 : lessN a.x b.x = bits .andNot .u8 a.x 3 := by unfold lessN; rw [hwt]; rfl
    unfold weightN at hwt
    rw [← hw2] at hwt
    have hwt2 : ¬ (bits .andNot .u8 (bits .and .u8 a.x 3) b.x = 0) := by rw [bne_iff_ne] at hwt; exact hwt
    rw [e1, e2] at HQ
    clear e1 e2 hw2
    have yA0 : Box ((w.alloc (.cells a.a 27)).alloc (.cells b.a 27)) w.heap.size a.a 27 := Box.alloc (Box.new _ _ _ rfl) _
    have yB0 : Box ((w.alloc (.cells a.a 27)).alloc (.cells b.a 27)) (w.heap.size + 1) b.a 27 := Box.new _ _ _ (by simp)
    have h0 : Below w.heap.size w ((w.alloc (.cells a.a 27)).alloc (.cells b.a 27)) := bl_alloc (bl_alloc (Below.refl _ _) _) _
    go_enter Tryd.func17, Tryd.ntmps17
    go_wp2_with (at_builtin; refine wpList_app rfl _ _ 28 3 .i64 8 rfl Tryd.underlying28 elI (w.heap.size + 2) _ _ ([]) [22] (Own.nil _ _ _ _) (Rd.lit1 _ _ _ _ _ (by simp)) rfl rfl (by simp only [maxLen, List.length_append, List.length_cons, List.length_nil]; omega) (by simp only [List.length_append, List.length_cons, List.length_nil]; omega) (by first | omega | (simp; done) | (simp; omega)) ?_; intro v' w3 hown' hb3 hgr; have zA := Own.box (D := w.heap.size) (by omega) hb3 (Box.alloc yA0 _); have zB := Own.box (D := w.heap.size + 1) (by omega) hb3 (Box.alloc yB0 _); have zcA := zA.cell; have zlA := zA.lt; have zfA := zA.free; have zcB := zB.cell; have zlB := zB.lt; have hbel3 : Below w.heap.size w w3 := Below.trans (bl_alloc h0 _) (hb3.mono (by omega)))
    refine wp_name (fun Z => Own Z (w.heap.size + 2) 3 .i64 v' ([] ++ [22]) ∧ Below w.heap.size w Z ∧ Box Z w.heap.size #[.int .i64 a.f.k, .int .u8 a.f.i, .int .u8 a.f.r, .int .u8 a.f.g, .int .u8 a.f.b, .int .i64 a.b.k, .int .u8 a.b.i, .int .u8 a.b.r, .int .u8 a.b.g, .int .u8 a.b.b, .int .u8 (bits .andNot .u8 a.x 3)] 27 ∧ Box Z (w.heap.size + 1) b.a 27) ⟨hown'.bar ((Bar.refl w.heap.size w3).set _ _) (hown'.off (by omega)), Bar.to_below hbel3 ((Bar.refl w.heap.size w3).set _ _) (Nat.le_refl _), Box.as (Box.set zA 10 (.int .u8 (bits .andNot .u8 a.x 3))) (by simp), Box.set_other zB (by omega) _ _⟩ ?_
    rintro W0 ⟨hown0, hbel0, xA, xB⟩
    clear zA zB zcA zlA zfA zcB zlB hbel3 hown' hb3 hgr
    go_loopw [5, 7] (fun l i wr => ∃ k : Nat, k ≤ 8 ∧ i = .int .i64 k ∧ Own wr (w.heap.size + 2) 3 .i64 l (([22] : List Int) ++ chgK (bits .andNot .u8 a.x 3) b.x k) ∧ Below w.heap.size w wr ∧ Box wr w.heap.size #[.int .i64 a.f.k, .int .u8 a.f.i, .int .u8 a.f.r, .int .u8 a.f.g, .int .u8 a.f.b, .int .i64 a.b.k, .int .u8 a.b.i, .int .u8 a.b.r, .int .u8 a.b.g, .int .u8 a.b.b, .int .u8 (bits .andNot .u8 a.x 3)] 27 ∧ Box wr (w.heap.size + 1) b.a 27) (fun _ i _ => 8 - (intOf i).toNat)
    case atStart => exact ⟨0, by omega, rfl, hown0, hbel0, xA, xB⟩
    case round =>
      obtain ⟨k, hk, rfl, hown, hbel, yA, yB⟩ := hrel
      have hln := chgK_len (bits .andNot .u8 a.x 3) b.x k
      have yc := yA.cell
      have yl := yA.lt
      have zc := yB.cell
      have zl := yB.lt
      by_cases hlt : k < 8
      · have hS : Hid (chgK (bits .andNot .u8 a.x 3) b.x (k + 1) = chgK (bits .andNot .u8 a.x 3) b.x k ++ if bits .and .u8 b.x (mF k) ≠ 0 ∧ bits .and .u8 (bits .andNot .u8 a.x 3) (mF k) = 0 then [mN k] else if bits .and .u8 (bits .andNot .u8 a.x 3) (mF k) ≠ 0 ∧ bits .and .u8 b.x (mF k) = 0 then [mN k + 20] else []) := Lib.hid (chgK_succ (bits .andNot .u8 a.x 3) b.x k)
        have hn := mN_le k hlt
        have cFl := fun W => rflag_any k W hlt
        have HL := Lib.hid (numL8 k hlt)
        have cN := fun W => rnumbers_any W
        generalize chgK (bits .andNot .u8 a.x 3) b.x k = xs at *
        generalize hf : mF k = f at *
        generalize hnn : mN k = n at *
        clear hf hnn
        have ltI : (k : Int) < 8 := by omega
        by_cases hu : bits .and .u8 (bits .andNot .u8 a.x 3) f = 0
        · by_cases hv : bits .and .u8 b.x f = 0
          · rw [if_neg (fun h => h.1 hv), if_neg (fun h => h.1 hu)] at hS
            go_wp2_with (first | (go_at_call 25; (with_reducible refine (cFl _).mono ?_); rintro e w4 ⟨rfl, hb4⟩; have hbF := bl_trans hbel hb4; have yAF := Box.past hb4 yA; have yBF := Box.past hb4 yB; have hownF := hown.kept hb4; have hsF : w.heap.size + 2 ≤ w4.heap.size := yBF.lt; clear yc yl zc zl; have yc := yAF.cell; have yl := yAF.lt; have zc := yBF.cell; have zl := yBF.lt))
            go_roundw
            case rel => exact ⟨k + 1, by omega, by go_num, (by rw [hS.out, List.append_nil]; exact hownF), hbF, yAF, yBF⟩
            case measure => simp [intOf]; omega
          · have hv2 : (bits .and .u8 b.x f != 0) = true := by rw [bne_iff_ne]; exact hv
            rw [if_pos ⟨hv, hu⟩] at hS
            go_wp2_with (first | (go_at_call 25; (with_reducible refine (cFl _).mono ?_); rintro e w4 ⟨rfl, hb4⟩; have hbF := bl_trans hbel hb4; have yAF := Box.past hb4 yA; have yBF := Box.past hb4 yB; have hownF := hown.kept hb4; have hsF : w.heap.size + 2 ≤ w4.heap.size := yBF.lt; clear yc yl zc zl; have yc := yAF.cell; have yl := yAF.lt; have zc := yBF.cell; have zl := yBF.lt) | (go_at_call 26; (with_reducible refine (cN _).mono ?_); rintro e w1 ⟨v1, rfl, ho1, hb1⟩; obtain ⟨p1, c1, hv1, hl1, hc1, hx1⟩ := ho1.rd; subst hv1; have hl1 : 8 ≤ c1 := hl1; rcases hx1 with ⟨_, hx1⟩ | ⟨b1, o1, hx1, hb1l, hcell1⟩; (exfalso; omega); subst hx1; have cc := hcell1 k _ HL.out; clear hcell1; have bl1 := bl_trans hbF hb1; have hwA := Box.past hb1 yAF; have hwB := Box.past hb1 yBF; have hown1 := hownF.kept hb1; have hs1 : w.heap.size + 2 ≤ w1.heap.size := Nat.le_trans hsF hb1.size) | (at_builtin; refine wpList_app rfl _ _ 28 3 .i64 8 rfl Tryd.underlying28 elI (w.heap.size + 2) _ _ (([22] : List Int) ++ xs) [n] (hown1.kept (by repeat (first | with_reducible exact Below.refl _ _ | with_reducible assumption | with_reducible exact GW.grow _ | with_reducible refine bl_alloc ?_ _ | with_reducible refine Below.drewN ?_ _ | with_reducible refine Below.drew ?_ | (with_reducible refine Below.setCell ?_ ?_ _; rotate_left; focus (simp; first | done | omega)) | with_reducible refine bl_trans ?_ (GW.grow _) | (with_reducible refine bl_trans ?_ (by assumption))))) (Rd.lit1 _ _ _ _ _ (by simp)) rfl rfl (by simp only [maxLen, List.length_append, List.length_cons, List.length_nil]; omega) (by simp only [List.length_append, List.length_cons, List.length_nil]; omega) (by simp; omega) ?_; intro v' w3 hown' hb3 hgr; have xA3 := Own.box (D := w.heap.size) (by omega) hb3 (Box.alloc hwA _); have xB3 := Own.box (D := w.heap.size + 1) (by omega) hb3 (Box.alloc hwB _); clear yc yl zc zl; have yc := xA3.cell; have yl := xA3.lt; have zc := xB3.cell; have zl := xB3.lt))
            have hb5 : Below w.heap.size w w3 := Below.trans (bl_alloc bl1 _) (hb3.mono (by omega))
            go_roundw
            case rel => exact ⟨k + 1, by omega, by go_num, (by rw [hS.out, ← List.append_assoc]; exact hown'), hb5, Own.box (by omega) hb3 (Box.alloc hwA _), Own.box (by omega) hb3 (Box.alloc hwB _)⟩
            case measure => simp [intOf]; omega
        · have hu2 : (bits .and .u8 (bits .andNot .u8 a.x 3) f != 0) = true := by rw [bne_iff_ne]; exact hu
          have hu3 : (bits .and .u8 (bits .andNot .u8 a.x 3) f == 0) = false := by rw [beq_eq_false_iff_ne]; exact hu
          by_cases hv : bits .and .u8 b.x f = 0
          · rw [if_neg (fun h => h.1 hv), if_pos ⟨hu, hv⟩] at hS
            go_wp2_with (first | (go_at_call 25; (with_reducible refine (cFl _).mono ?_); rintro e w4 ⟨rfl, hb4⟩; have hbF := bl_trans hbel hb4; have yAF := Box.past hb4 yA; have yBF := Box.past hb4 yB; have hownF := hown.kept hb4; have hsF : w.heap.size + 2 ≤ w4.heap.size := yBF.lt; clear yc yl zc zl; have yc := yAF.cell; have yl := yAF.lt; have zc := yBF.cell; have zl := yBF.lt) | (go_at_call 26; (with_reducible refine (cN _).mono ?_); rintro e w1 ⟨v1, rfl, ho1, hb1⟩; obtain ⟨p1, c1, hv1, hl1, hc1, hx1⟩ := ho1.rd; subst hv1; have hl1 : 8 ≤ c1 := hl1; rcases hx1 with ⟨_, hx1⟩ | ⟨b1, o1, hx1, hb1l, hcell1⟩; (exfalso; omega); subst hx1; have cc := hcell1 k _ HL.out; clear hcell1; have bl1 := bl_trans hbF hb1; have hwA := Box.past hb1 yAF; have hwB := Box.past hb1 yBF; have hown1 := hownF.kept hb1; have hs1 : w.heap.size + 2 ≤ w1.heap.size := Nat.le_trans hsF hb1.size) | (at_builtin; refine wpList_app rfl _ _ 28 3 .i64 8 rfl Tryd.underlying28 elI (w.heap.size + 2) _ _ (([22] : List Int) ++ xs) [n + 20] (hown1.kept (by repeat (first | with_reducible exact Below.refl _ _ | with_reducible assumption | with_reducible exact GW.grow _ | with_reducible refine bl_alloc ?_ _ | with_reducible refine Below.drewN ?_ _ | with_reducible refine Below.drew ?_ | (with_reducible refine Below.setCell ?_ ?_ _; rotate_left; focus (simp; first | done | omega)) | with_reducible refine bl_trans ?_ (GW.grow _) | (with_reducible refine bl_trans ?_ (by assumption))))) (Rd.lit1 _ _ _ _ _ (by simp)) rfl rfl (by simp only [maxLen, List.length_append, List.length_cons, List.length_nil]; omega) (by simp only [List.length_append, List.length_cons, List.length_nil]; omega) (by simp; omega) ?_; intro v' w3 hown' hb3 hgr; have xA3 := Own.box (D := w.heap.size) (by omega) hb3 (Box.alloc hwA _); have xB3 := Own.box (D := w.heap.size + 1) (by omega) hb3 (Box.alloc hwB _); clear yc yl zc zl; have yc := xA3.cell; have yl := xA3.lt; have zc := xB3.cell; have zl := xB3.lt))
            have hb5 : Below w.heap.size w w3 := Below.trans (bl_alloc bl1 _) (hb3.mono (by omega))
            go_roundw
            case rel => exact ⟨k + 1, by omega, by go_num, (by rw [hS.out, ← List.append_assoc]; exact hown'), hb5, Own.box (by omega) hb3 (Box.alloc hwA _), Own.box (by omega) hb3 (Box.alloc hwB _)⟩
            case measure => simp [intOf]; omega
          · have hv2 : (bits .and .u8 b.x f != 0) = true := by rw [bne_iff_ne]; exact hv
            have hv3 : (bits .and .u8 b.x f == 0) = false := by rw [beq_eq_false_iff_ne]; exact hv
            rw [if_neg (fun h => hu h.2), if_neg (fun h => hv h.2)] at hS
            go_wp2_with (first | (go_at_call 25; (with_reducible refine (cFl _).mono ?_); rintro e w4 ⟨rfl, hb4⟩; have hbF := bl_trans hbel hb4; have yAF := Box.past hb4 yA; have yBF := Box.past hb4 yB; have hownF := hown.kept hb4; have hsF : w.heap.size + 2 ≤ w4.heap.size := yBF.lt; clear yc yl zc zl; have yc := yAF.cell; have yl := yAF.lt; have zc := yBF.cell; have zl := yBF.lt))
            go_roundw
            case rel => exact ⟨k + 1, by omega, by go_num, (by rw [hS.out, List.append_nil]; exact hownF), hbF, yAF, yBF⟩
            case measure => simp [intOf]; omega
      · obtain rfl : k = 8 := by omega
        generalize chgK (bits .andNot .u8 a.x 3) b.x 8 = xs at *
        by_cases hf : a.f = b.f
        · have ef : ((a.f.k == b.f.k) && (a.f.i == b.f.i) && (a.f.r == b.f.r) && (a.f.g == b.f.g) && (a.f.b == b.f.b)) = true := by rw [hf]; simp
          rw [if_pos hf, List.append_nil] at HQ
          by_cases hbb : a.b = b.b
          · have eb : ((a.b.k == b.b.k) && (a.b.i == b.b.i) && (a.b.r == b.b.r) && (a.b.g == b.b.g) && (a.b.b == b.b.b)) = true := by rw [hbb]; simp
            rw [if_pos hbb, List.append_nil] at HQ
            clear hf hbb
            go_wp2_with (first | (go_at_call 15; (with_reducible refine (cC _).mono ?_); rintro e w8 ⟨v8, rfl, ho8, hb8⟩; have h8 := bl_trans hbel hb8; have ho7 := hown.kept hb8; have hs8 : w.heap.size ≤ w8.heap.size := h8.size; have hs7 := hbel.size; obtain ⟨p3, c3, hv3, hx3⟩ := ho7.rd; obtain ⟨p4, c4, hv4, hx4⟩ := ho8.rd; clear hx3 hx4; subst hv3 hv4; generalize ([22] : List Int) ++ xs = ch at *; by_cases hlt : co.length < ch.length))
            · go_ret
              exact ⟨_, rfl, (by rw [HQ.out, if_pos hlt]; exact ho8.weaken hs7), h8⟩
            · go_ret
              exact ⟨_, rfl, (by rw [HQ.out, if_neg hlt]; exact ho7.weaken (by omega)), h8⟩
          · have eb : ((a.b.k == b.b.k) && (a.b.i == b.b.i) && (a.b.r == b.b.r) && (a.b.g == b.b.g) && (a.b.b == b.b.b)) = false := co_ne hbb
            rw [if_neg hbb] at HQ
            clear hf hbb
            go_wp2_with (first | (go_at_call 27; (with_reducible refine (cB _).mono ?_); rintro e wb2 ⟨vb2, rfl, hob2, hbb2⟩; have hsb : wr.heap.size ≤ wb2.heap.size := hbb2.size) | (at_builtin; refine wpList_app rfl _ _ 28 3 .i64 8 rfl Tryd.underlying28 elI (w.heap.size + 2) _ _ (([22] : List Int) ++ xs) nb (hown.kept hbb2) hob2.rd rfl rfl (by simp only [maxLen, List.length_append, List.length_cons, List.length_nil]; omega) (by simp only [List.length_append, List.length_cons, List.length_nil]; omega) (by omega) ?_; intro vb3 wb3 hownb hbb3 hgrb; have zAb := Own.box (D := w.heap.size) (by omega) hbb3 (Box.past hbb2 yA); have zBb := Own.box (D := w.heap.size + 1) (by omega) hbb3 (Box.past hbb2 yB); have zcAb := zAb.cell; have zlAb := zAb.lt; have zcBb := zBb.cell; have zlBb := zBb.lt; have hbelb : Below w.heap.size w wb3 := Below.trans (bl_trans hbel hbb2) (hbb3.mono (by omega))) | (go_at_call 15; (with_reducible refine (cC _).mono ?_); rintro e w8 ⟨v8, rfl, ho8, hb8⟩; have h8 := bl_trans hbelb hb8; have ho7 := hownb.kept hb8; have hs8 : w.heap.size ≤ w8.heap.size := h8.size; have hs7 := hbelb.size; obtain ⟨p3, c3, hv3, hx3⟩ := ho7.rd; obtain ⟨p4, c4, hv4, hx4⟩ := ho8.rd; clear hx3 hx4; subst hv3 hv4; generalize ([22] : List Int) ++ xs ++ nb = ch at *; by_cases hlt : co.length < ch.length))
            · go_ret
              exact ⟨_, rfl, (by rw [HQ.out, if_pos hlt]; exact ho8.weaken hs7), h8⟩
            · go_ret
              exact ⟨_, rfl, (by rw [HQ.out, if_neg hlt]; exact ho7.weaken (by omega)), h8⟩
        · have ef : ((a.f.k == b.f.k) && (a.f.i == b.f.i) && (a.f.r == b.f.r) && (a.f.g == b.f.g) && (a.f.b == b.f.b)) = false := co_ne hf
          rw [if_neg hf] at HQ
          by_cases hbb : a.b = b.b
          · have eb : ((a.b.k == b.b.k) && (a.b.i == b.b.i) && (a.b.r == b.b.r) && (a.b.g == b.b.g) && (a.b.b == b.b.b)) = true := by rw [hbb]; simp
            rw [if_pos hbb, List.append_nil] at HQ
            clear hf hbb
            go_wp2_with (first | (go_at_call 27; (with_reducible refine (cF _).mono ?_); rintro e wf2 ⟨vf2, rfl, hof2, hbf2⟩; have hsf : wr.heap.size ≤ wf2.heap.size := hbf2.size) | (at_builtin; refine wpList_app rfl _ _ 28 3 .i64 8 rfl Tryd.underlying28 elI (w.heap.size + 2) _ _ (([22] : List Int) ++ xs) nf (hown.kept hbf2) hof2.rd rfl rfl (by simp only [maxLen, List.length_append, List.length_cons, List.length_nil]; omega) (by simp only [List.length_append, List.length_cons, List.length_nil]; omega) (by omega) ?_; intro vf3 wf3 hownf hbf3 hgrf; have zAf := Own.box (D := w.heap.size) (by omega) hbf3 (Box.past hbf2 yA); have zBf := Own.box (D := w.heap.size + 1) (by omega) hbf3 (Box.past hbf2 yB); have zcAf := zAf.cell; have zlAf := zAf.lt; have zcBf := zBf.cell; have zlBf := zBf.lt; have hbelf : Below w.heap.size w wf3 := Below.trans (bl_trans hbel hbf2) (hbf3.mono (by omega))) | (go_at_call 15; (with_reducible refine (cC _).mono ?_); rintro e w8 ⟨v8, rfl, ho8, hb8⟩; have h8 := bl_trans hbelf hb8; have ho7 := hownf.kept hb8; have hs8 : w.heap.size ≤ w8.heap.size := h8.size; have hs7 := hbelf.size; obtain ⟨p3, c3, hv3, hx3⟩ := ho7.rd; obtain ⟨p4, c4, hv4, hx4⟩ := ho8.rd; clear hx3 hx4; subst hv3 hv4; generalize ([22] : List Int) ++ xs ++ nf = ch at *; by_cases hlt : co.length < ch.length))
            · go_ret
              exact ⟨_, rfl, (by rw [HQ.out, if_pos hlt]; exact ho8.weaken hs7), h8⟩
            · go_ret
              exact ⟨_, rfl, (by rw [HQ.out, if_neg hlt]; exact ho7.weaken (by omega)), h8⟩
          · have eb : ((a.b.k == b.b.k) && (a.b.i == b.b.i) && (a.b.r == b.b.r) && (a.b.g == b.b.g) && (a.b.b == b.b.b)) = false := co_ne hbb
            rw [if_neg hbb] at HQ
            clear hf hbb
            go_wp2_with (first | (go_at_call 27; (with_reducible refine (cF _).mono ?_); rintro e wf2 ⟨vf2, rfl, hof2, hbf2⟩; have hsf : wr.heap.size ≤ wf2.heap.size := hbf2.size) | (at_builtin; refine wpList_app rfl _ _ 28 3 .i64 8 rfl Tryd.underlying28 elI (w.heap.size + 2) _ _ (([22] : List Int) ++ xs) nf (hown.kept hbf2) hof2.rd rfl rfl (by simp only [maxLen, List.length_append, List.length_cons, List.length_nil]; omega) (by simp only [List.length_append, List.length_cons, List.length_nil]; omega) (by omega) ?_; intro vf3 wf3 hownf hbf3 hgrf; have zAf := Own.box (D := w.heap.size) (by omega) hbf3 (Box.past hbf2 yA); have zBf := Own.box (D := w.heap.size + 1) (by omega) hbf3 (Box.past hbf2 yB); have zcAf := zAf.cell; have zlAf := zAf.lt; have zcBf := zBf.cell; have zlBf := zBf.lt; have hbelf : Below w.heap.size w wf3 := Below.trans (bl_trans hbel hbf2) (hbf3.mono (by omega))) | (go_at_call 27; (with_reducible refine (cB _).mono ?_); rintro e wb2 ⟨vb2, rfl, hob2, hbb2⟩; have hsb : wf3.heap.size ≤ wb2.heap.size := hbb2.size) | (at_builtin; refine wpList_app rfl _ _ 28 3 .i64 8 rfl Tryd.underlying28 elI (w.heap.size + 2) _ _ (([22] : List Int) ++ xs ++ nf) nb (hownf.kept hbb2) hob2.rd rfl rfl (by simp only [maxLen, List.length_append, List.length_cons, List.length_nil]; omega) (by simp only [List.length_append, List.length_cons, List.length_nil]; omega) (by omega) ?_; intro vb3 wb3 hownb hbb3 hgrb; have zAb := Own.box (D := w.heap.size) (by omega) hbb3 (Box.past hbb2 zAf); have zBb := Own.box (D := w.heap.size + 1) (by omega) hbb3 (Box.past hbb2 zBf); have zcAb := zAb.cell; have zlAb := zAb.lt; have zcBb := zBb.cell; have zlBb := zBb.lt; have hbelb : Below w.heap.size w wb3 := Below.trans (bl_trans hbelf hbb2) (hbb3.mono (by omega))) | (go_at_call 15; (with_reducible refine (cC _).mono ?_); rintro e w8 ⟨v8, rfl, ho8, hb8⟩; have h8 := bl_trans hbelb hb8; have ho7 := hownb.kept hb8; have hs8 : w.heap.size ≤ w8.heap.size := h8.size; have hs7 := hbelb.size; obtain ⟨p3, c3, hv3, hx3⟩ := ho7.rd; obtain ⟨p4, c4, hv4, hx4⟩ := ho8.rd; clear hx3 hx4; subst hv3 hv4; generalize ([22] : List Int) ++ xs ++ nf ++ nb = ch at *; by_cases hlt : co.length < ch.length))
            · go_ret
              exact ⟨_, rfl, (by rw [HQ.out, if_pos hlt]; exact ho8.weaken hs7), h8⟩
            · go_ret
              exact ⟨_, rfl, (by rw [HQ.out, if_neg hlt]; exact ho7.weaken (by omega)), h8⟩

end Go.Proofs.YtdoeiaekimbecaaDoor
