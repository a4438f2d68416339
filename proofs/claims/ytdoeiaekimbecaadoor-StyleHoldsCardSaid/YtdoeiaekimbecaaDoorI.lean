/- style: the changes from pen to pen. -/
import Derived.Test.YtdoeiaekimbecaaDoorH
import Derived.Outline
set_option linter.unusedSimpArgs false
set_option linter.unusedVariables false
set_option linter.unnecessarySimpa false
namespace Go.Proofs.YtdoeiaekimbecaaDoor
open Go.RowKit

def mF (k : Nat) : Int := (ms.getD k (0, 0)).1
def mN (k : Nat) : Int := (ms.getD k (0, 0)).2
@[go_sem high] theorem idx_sym (w : World) (k : Nat) (h : k < 8) : (Instr.index 62 (.agg #[.int .u8 1, .int .i64 1, .int .u8 2, .int .i64 2, .int .u8 4, .int .i64 3, .int .u8 8, .int .i64 4, .int .u8 16, .int .i64 5, .int .u8 32, .int .i64 7, .int .u8 64, .int .i64 8, .int .u8 128, .int .i64 9]) (.int .i64 (k : Int))).run Tryd.prog w = .ok (.agg #[.int .u8 (mF k), .int .i64 (mN k)]) w := by
  match k, h with
  | 0, _ => exact idx_0 w
  | 1, _ => exact idx_1 w
  | 2, _ => exact idx_2 w
  | 3, _ => exact idx_3 w
  | 4, _ => exact idx_4 w
  | 5, _ => exact idx_5 w
  | 6, _ => exact idx_6 w
  | 7, _ => exact idx_7 w
theorem mN_le (k : Nat) (h : k < 8) : 1 ≤ mN k ∧ mN k ≤ 9 := by
  match k, h with
  | 0, _ | 1, _ | 2, _ | 3, _ | 4, _ | 5, _ | 6, _ | 7, _ => exact ⟨by decide, by decide⟩
/-- What one flag adds. -/
def chg1 (ax bx f n : Int) : List Int := if bits .and .u8 bx f ≠ 0 ∧ bits .and .u8 ax f = 0 then [n] else if bits .and .u8 ax f ≠ 0 ∧ bits .and .u8 bx f = 0 then [n + 20] else []
def chgK (ax bx : Int) (k : Nat) : List Int := (List.range k).flatMap fun j => chg1 ax bx (mF j) (mN j)
theorem chgK_succ (ax bx : Int) (k : Nat) : chgK ax bx (k + 1) = chgK ax bx k ++ chg1 ax bx (mF k) (mN k) := by
  unfold chgK; rw [List.range_succ, List.flatMap_append]; simp
theorem chg1_len (ax bx f n : Int) : (chg1 ax bx f n).length ≤ 1 := by
  unfold chg1; split
  · simp
  · split <;> simp
theorem chgK_len (ax bx : Int) (k : Nat) : (chgK ax bx k).length ≤ k := by
  induction k with
  | zero => simp [chgK]
  | succ k ih => rw [chgK_succ, List.length_append]; have := chg1_len ax bx (mF k) (mN k); omega
def weightN (ax bx : Int) : Bool := bits .and .u8 (bits .andNot .u8 ax bx) 3 != 0
def lessN (ax bx : Int) : Int := if weightN ax bx = true then bits .andNot .u8 ax 3 else ax
def headN (ax bx : Int) : List Int := if weightN ax bx = true then [22] else []
def chgN (a b : Pn) : List Int := headN a.x b.x ++ chgK (lessN a.x b.x) b.x 8 ++ (if a.f = b.f then [] else numsN b.f 30) ++ (if a.b = b.b then [] else numsN b.b 40)
theorem numsN_len (c : Co) (base : Int) : (numsN c base).length ≤ 5 := by
  unfold numsN; repeat' split
  all_goals simp
theorem chgN_len (a b : Pn) : (chgN a b).length ≤ 19 := by
  unfold chgN headN
  have h1 := chgK_len (lessN a.x b.x) b.x 8
  have h2 := numsN_len b.f 30
  have h3 := numsN_len b.b 40
  simp only [List.length_append]
  repeat' split
  all_goals simp only [List.length_nil, List.length_cons]
  all_goals omega
theorem co_ne {a b : Co} (h : a ≠ b) : ((a.k == b.k) && (a.i == b.i) && (a.r == b.r) && (a.g == b.g) && (a.b == b.b)) = false := by
  obtain ⟨k, i, r, g, x⟩ := a
  obtain ⟨k', i', r', g', x'⟩ := b
  rw [Bool.eq_false_iff]
  intro he
  simp only [Bool.and_eq_true, beq_iff_eq] at he
  obtain ⟨⟨⟨⟨rfl, rfl⟩, rfl⟩, rfl⟩, rfl⟩ := he
  exact h rfl
/-- The walk behind the loop, and the loop, from any list so far. -/
def ChgE (w : World) (a b : Pn) (e : Ending) (w' : World) : Prop := RetOwn w 3 .i64 (chgN a b) e w'
theorem Own.box {w w' : World} {B : Nat} {D : Nat} {cs : Array Value} {t : TypeId} (hD : D < B) (hb : Below B w w') (h : Box w D cs t) : Box w' D cs t := (hb.block D hD).trans h
theorem chgN_def (a b : Pn) : chgN a b = headN a.x b.x ++ chgK (lessN a.x b.x) b.x 8 ++ (if a.f = b.f then [] else numsN b.f 30) ++ (if a.b = b.b then [] else numsN b.b 40) := rfl
set_option maxHeartbeats 8000000 in
set_option maxRecDepth 100000 in
theorem changes_any (a b : Pn) (w : World) (hm : Mk w) (ha : wfP a) (hb : wfP b) : Calls Tryd.prog 24 #[.agg a.a, .agg b.a] w (ChgE w a b) := by
  unfold ChgE
  have cN : ∀ (c : Co) (base : Int), wfC c → 0 ≤ base ∧ base ≤ 100 → ∀ W, Calls Tryd.prog 36 #[.agg #[.int .i64 c.k, .int .u8 c.i, .int .u8 c.r, .int .u8 c.g, .int .u8 c.b], .int .i64 base] W (RetOwn W 3 .i64 (numsN c base)) := fun c base hc hb W => numbers_any c base W hb hc
  have cF := cN b.f 30 hb.1 (by omega)
  have cB := cN b.b 40 hb.2.1 (by omega)
  have lF := numsN_len b.f 30
  have lB := numsN_len b.b 40
  have HQ := Lib.hid (chgN_def a b)
  clear cN ha hb
  generalize chgN a b = q at *
  generalize numsN b.f 30 = nf at *
  generalize numsN b.b 40 = nb at *
  have hmc := hm.cell
  have hml := hm.lt
  cases hwt : weightN a.x b.x
  · have e1 : headN a.x b.x = [] := by unfold headN; rw [hwt]; rfl
    have e2 : lessN a.x b.x = a.x := by unfold lessN; rw [hwt]; rfl
    unfold weightN at hwt
    rw [e1, e2] at HQ
    clear e1 e2
    go_enter Tryd.func24, Tryd.ntmps24
    go_wp2_with fail
    go_loopw [5, 25] (fun l i wr => ∃ k : Nat, k ≤ 8 ∧ i = .int .i64 k ∧ Own wr (w.heap.size + 2) 3 .i64 l (([] : List Int) ++ chgK a.x b.x k) ∧ Below w.heap.size w wr ∧ Box wr w.heap.size #[.int .i64 a.f.k, .int .u8 a.f.i, .int .u8 a.f.r, .int .u8 a.f.g, .int .u8 a.f.b, .int .i64 a.b.k, .int .u8 a.b.i, .int .u8 a.b.r, .int .u8 a.b.g, .int .u8 a.b.b, .int .u8 a.x] 27 ∧ Box wr (w.heap.size + 1) b.a 27) (fun _ i _ => 8 - (intOf i).toNat)
    case atStart => exact ⟨0, by omega, rfl, Own.nil _ _ _ _, (by repeat (first | with_reducible exact Below.refl _ _ | with_reducible assumption | with_reducible exact GW.grow _ | with_reducible refine bl_alloc ?_ _ | with_reducible refine Below.drewN ?_ _ | with_reducible refine Below.drew ?_ | (with_reducible refine Below.setCell ?_ ?_ _; rotate_left; focus (simp; first | done | omega)) | with_reducible refine bl_trans ?_ (GW.grow _) | (with_reducible refine bl_trans ?_ (by assumption)))), (by first | with_reducible assumption | (apply Box.as; (focus (repeat (first | with_reducible assumption | (with_reducible apply Box.new; simp; done) | with_reducible apply Box.gw | with_reducible apply Box.drewN | with_reducible apply Box.drew | with_reducible apply Box.alloc | with_reducible apply Box.set | (with_reducible apply Box.set_other; case hg => omega)))); rfl)), (by first | with_reducible assumption | (apply Box.as; (focus (repeat (first | with_reducible assumption | (with_reducible apply Box.new; simp; done) | with_reducible apply Box.gw | with_reducible apply Box.drewN | with_reducible apply Box.drew | with_reducible apply Box.alloc | with_reducible apply Box.set | (with_reducible apply Box.set_other; case hg => omega)))); rfl))⟩
    case round =>
      obtain ⟨k, hk, rfl, hown, hbel, yA, yB⟩ := hrel
      have hln := chgK_len a.x b.x k
      by_cases hlt : k < 8
      · have hS : Hid (chgK a.x b.x (k + 1) = chgK a.x b.x k ++ if bits .and .u8 b.x (mF k) ≠ 0 ∧ bits .and .u8 a.x (mF k) = 0 then [mN k] else if bits .and .u8 a.x (mF k) ≠ 0 ∧ bits .and .u8 b.x (mF k) = 0 then [mN k + 20] else []) := Lib.hid (chgK_succ a.x b.x k)
        have hn := mN_le k hlt
        generalize chgK a.x b.x k = xs at *
        generalize hf : mF k = f at *
        generalize hnn : mN k = n at *
        have yc := yA.cell
        have yl := yA.lt
        have zc := yB.cell
        have zl := yB.lt
        by_cases hu : bits .and .u8 a.x f = 0
        · by_cases hv : bits .and .u8 b.x f = 0
          · rw [if_neg (fun h => h.1 hv), if_neg (fun h => h.1 hu)] at hS
            go_wp2_with fail
            go_quiet (fail)
            go_wp2_with fail
            go_roundw
            case rel => exact ⟨k + 1, by omega, by go_num, (by rw [hS.out, List.append_nil]; exact hown.kept (by repeat (first | with_reducible exact Below.refl _ _ | with_reducible assumption | with_reducible exact GW.grow _ | with_reducible refine bl_alloc ?_ _ | with_reducible refine Below.drewN ?_ _ | with_reducible refine Below.drew ?_ | (with_reducible refine Below.setCell ?_ ?_ _; rotate_left; focus (simp; first | done | omega)) | with_reducible refine bl_trans ?_ (GW.grow _) | (with_reducible refine bl_trans ?_ (by assumption))))), (by repeat (first | with_reducible exact Below.refl _ _ | with_reducible assumption | with_reducible exact GW.grow _ | with_reducible refine bl_alloc ?_ _ | with_reducible refine Below.drewN ?_ _ | with_reducible refine Below.drew ?_ | (with_reducible refine Below.setCell ?_ ?_ _; rotate_left; focus (simp; first | done | omega)) | with_reducible refine bl_trans ?_ (GW.grow _) | (with_reducible refine bl_trans ?_ (by assumption)))), (by first | with_reducible assumption | (apply Box.as; (focus (repeat (first | with_reducible assumption | (with_reducible apply Box.new; simp; done) | with_reducible apply Box.gw | with_reducible apply Box.drewN | with_reducible apply Box.drew | with_reducible apply Box.alloc | with_reducible apply Box.set | (with_reducible apply Box.set_other; case hg => omega)))); rfl)), (by first | with_reducible assumption | (apply Box.as; (focus (repeat (first | with_reducible assumption | (with_reducible apply Box.new; simp; done) | with_reducible apply Box.gw | with_reducible apply Box.drewN | with_reducible apply Box.drew | with_reducible apply Box.alloc | with_reducible apply Box.set | (with_reducible apply Box.set_other; case hg => omega)))); rfl))⟩
            case measure => simp [intOf]; omega
          · have hv2 : (bits .and .u8 b.x f != 0) = true := by rw [bne_iff_ne]; exact hv
            rw [if_pos ⟨hv, hu⟩] at hS
            go_wp2_with fail
            go_quiet (fail)
            go_wp2_with ((at_builtin; refine wpList_app rfl _ _ 28 3 .i64 8 rfl Tryd.underlying28 elI (w.heap.size + 2) _ _ (([] : List Int) ++ xs) [n] (Own.kept hown (by repeat (first | with_reducible exact Below.refl _ _ | with_reducible assumption | with_reducible exact GW.grow _ | with_reducible refine bl_alloc ?_ _ | with_reducible refine Below.drewN ?_ _ | with_reducible refine Below.drew ?_ | (with_reducible refine Below.setCell ?_ ?_ _; rotate_left; focus (simp; first | done | omega)) | with_reducible refine bl_trans ?_ (GW.grow _) | (with_reducible refine bl_trans ?_ (by assumption))))) (Rd.lit1 _ _ _ _ _ (by simp)) rfl rfl (by simp only [maxLen, List.length_append, List.length_cons, List.length_nil]; omega) (by simp only [List.length_append, List.length_cons, List.length_nil]; omega) (by simp; omega) ?_; intro v' w3 hown' hb3 hgr))
            have hb4 : Below w.heap.size w w3 := Below.trans (by repeat (first | with_reducible exact Below.refl _ _ | with_reducible assumption | with_reducible exact GW.grow _ | with_reducible refine bl_alloc ?_ _ | with_reducible refine Below.drewN ?_ _ | with_reducible refine Below.drew ?_ | (with_reducible refine Below.setCell ?_ ?_ _; rotate_left; focus (simp; first | done | omega)) | with_reducible refine bl_trans ?_ (GW.grow _) | (with_reducible refine bl_trans ?_ (by assumption)))) (hb3.mono (by omega))
            go_roundw
            case rel => exact ⟨k + 1, by omega, by go_num, (by rw [hS.out, ← List.append_assoc]; exact hown'), hb4, Own.box (by omega) hb3 (by first | with_reducible assumption | (apply Box.as; (focus (repeat (first | with_reducible assumption | (with_reducible apply Box.new; simp; done) | with_reducible apply Box.gw | with_reducible apply Box.drewN | with_reducible apply Box.drew | with_reducible apply Box.alloc | with_reducible apply Box.set | (with_reducible apply Box.set_other; case hg => omega)))); rfl)), Own.box (by omega) hb3 (by first | with_reducible assumption | (apply Box.as; (focus (repeat (first | with_reducible assumption | (with_reducible apply Box.new; simp; done) | with_reducible apply Box.gw | with_reducible apply Box.drewN | with_reducible apply Box.drew | with_reducible apply Box.alloc | with_reducible apply Box.set | (with_reducible apply Box.set_other; case hg => omega)))); rfl))⟩
            case measure => simp [intOf]; omega
        · have hu2 : (bits .and .u8 a.x f != 0) = true := by rw [bne_iff_ne]; exact hu
          by_cases hv : bits .and .u8 b.x f = 0
          · rw [if_neg (fun h => h.1 hv), if_pos ⟨hu, hv⟩] at hS
            go_wp2_with fail
            go_quiet (fail)
            go_wp2_with ((at_builtin; refine wpList_app rfl _ _ 28 3 .i64 8 rfl Tryd.underlying28 elI (w.heap.size + 2) _ _ (([] : List Int) ++ xs) [n + 20] (Own.kept hown (by repeat (first | with_reducible exact Below.refl _ _ | with_reducible assumption | with_reducible exact GW.grow _ | with_reducible refine bl_alloc ?_ _ | with_reducible refine Below.drewN ?_ _ | with_reducible refine Below.drew ?_ | (with_reducible refine Below.setCell ?_ ?_ _; rotate_left; focus (simp; first | done | omega)) | with_reducible refine bl_trans ?_ (GW.grow _) | (with_reducible refine bl_trans ?_ (by assumption))))) (Rd.lit1 _ _ _ _ _ (by simp)) rfl rfl (by simp only [maxLen, List.length_append, List.length_cons, List.length_nil]; omega) (by simp only [List.length_append, List.length_cons, List.length_nil]; omega) (by simp; omega) ?_; intro v' w3 hown' hb3 hgr))
            have hb4 : Below w.heap.size w w3 := Below.trans (by repeat (first | with_reducible exact Below.refl _ _ | with_reducible assumption | with_reducible exact GW.grow _ | with_reducible refine bl_alloc ?_ _ | with_reducible refine Below.drewN ?_ _ | with_reducible refine Below.drew ?_ | (with_reducible refine Below.setCell ?_ ?_ _; rotate_left; focus (simp; first | done | omega)) | with_reducible refine bl_trans ?_ (GW.grow _) | (with_reducible refine bl_trans ?_ (by assumption)))) (hb3.mono (by omega))
            go_roundw
            case rel => exact ⟨k + 1, by omega, by go_num, (by rw [hS.out, ← List.append_assoc]; exact hown'), hb4, Own.box (by omega) hb3 (by first | with_reducible assumption | (apply Box.as; (focus (repeat (first | with_reducible assumption | (with_reducible apply Box.new; simp; done) | with_reducible apply Box.gw | with_reducible apply Box.drewN | with_reducible apply Box.drew | with_reducible apply Box.alloc | with_reducible apply Box.set | (with_reducible apply Box.set_other; case hg => omega)))); rfl)), Own.box (by omega) hb3 (by first | with_reducible assumption | (apply Box.as; (focus (repeat (first | with_reducible assumption | (with_reducible apply Box.new; simp; done) | with_reducible apply Box.gw | with_reducible apply Box.drewN | with_reducible apply Box.drew | with_reducible apply Box.alloc | with_reducible apply Box.set | (with_reducible apply Box.set_other; case hg => omega)))); rfl))⟩
            case measure => simp [intOf]; omega
          · have hv2 : (bits .and .u8 b.x f != 0) = true := by rw [bne_iff_ne]; exact hv
            rw [if_neg (fun h => hu h.2), if_neg (fun h => hv h.2)] at hS
            go_wp2_with fail
            go_quiet (fail)
            go_wp2_with fail
            go_roundw
            case rel => exact ⟨k + 1, by omega, by go_num, (by rw [hS.out, List.append_nil]; exact hown.kept (by repeat (first | with_reducible exact Below.refl _ _ | with_reducible assumption | with_reducible exact GW.grow _ | with_reducible refine bl_alloc ?_ _ | with_reducible refine Below.drewN ?_ _ | with_reducible refine Below.drew ?_ | (with_reducible refine Below.setCell ?_ ?_ _; rotate_left; focus (simp; first | done | omega)) | with_reducible refine bl_trans ?_ (GW.grow _) | (with_reducible refine bl_trans ?_ (by assumption))))), (by repeat (first | with_reducible exact Below.refl _ _ | with_reducible assumption | with_reducible exact GW.grow _ | with_reducible refine bl_alloc ?_ _ | with_reducible refine Below.drewN ?_ _ | with_reducible refine Below.drew ?_ | (with_reducible refine Below.setCell ?_ ?_ _; rotate_left; focus (simp; first | done | omega)) | with_reducible refine bl_trans ?_ (GW.grow _) | (with_reducible refine bl_trans ?_ (by assumption)))), (by first | with_reducible assumption | (apply Box.as; (focus (repeat (first | with_reducible assumption | (with_reducible apply Box.new; simp; done) | with_reducible apply Box.gw | with_reducible apply Box.drewN | with_reducible apply Box.drew | with_reducible apply Box.alloc | with_reducible apply Box.set | (with_reducible apply Box.set_other; case hg => omega)))); rfl)), (by first | with_reducible assumption | (apply Box.as; (focus (repeat (first | with_reducible assumption | (with_reducible apply Box.new; simp; done) | with_reducible apply Box.gw | with_reducible apply Box.drewN | with_reducible apply Box.drew | with_reducible apply Box.alloc | with_reducible apply Box.set | (with_reducible apply Box.set_other; case hg => omega)))); rfl))⟩
            case measure => simp [intOf]; omega
      · obtain rfl : k = 8 := by omega
        generalize chgK a.x b.x 8 = xs at *
        have yc := yA.cell
        have yl := yA.lt
        have zc := yB.cell
        have zl := yB.lt
        by_cases hf : a.f = b.f
        · have ef : ((a.f.k == b.f.k) && (a.f.i == b.f.i) && (a.f.r == b.f.r) && (a.f.g == b.f.g) && (a.f.b == b.f.b)) = true := by rw [hf]; simp
          rw [if_pos hf] at HQ
          by_cases hbb : a.b = b.b
          · have eb : ((a.b.k == b.b.k) && (a.b.i == b.b.i) && (a.b.r == b.b.r) && (a.b.g == b.b.g) && (a.b.b == b.b.b)) = true := by rw [hbb]; simp
            rw [if_pos hbb] at HQ
            clear hf hbb
            go_wp2_with fail
            go_ret
            exact ⟨_, rfl, (by rw [HQ.out]; simp only [List.append_nil] at hown ⊢; exact hown.weaken (by omega)), hbel⟩
          · have eb : ((a.b.k == b.b.k) && (a.b.i == b.b.i) && (a.b.r == b.b.r) && (a.b.g == b.b.g) && (a.b.b == b.b.b)) = false := co_ne hbb
            rw [if_neg hbb] at HQ
            clear hf hbb
            go_wp2_with (first | (go_at_call 36; (with_reducible refine (cB _).mono ?_); rintro e wb2 ⟨vb2, rfl, hob2, hbb2⟩; have hsb : wr.heap.size ≤ wb2.heap.size := hbb2.size) | (at_builtin; refine wpList_app rfl _ _ 28 3 .i64 8 rfl Tryd.underlying28 elI (w.heap.size + 2) _ _ (([] : List Int) ++ xs) nb (hown.kept hbb2) hob2.rd rfl rfl (by simp only [maxLen, List.length_append, List.length_cons, List.length_nil]; omega) (by simp only [List.length_append, List.length_cons, List.length_nil]; omega) (by omega) ?_; intro vb3 wb3 hownb hbb3 hgrb; have zAb := Own.box (D := w.heap.size) (by omega) hbb3 (Box.past hbb2 yA); have zBb := Own.box (D := w.heap.size + 1) (by omega) hbb3 (Box.past hbb2 yB); have zcAb := zAb.cell; have zlAb := zAb.lt; have zcBb := zBb.cell; have zlBb := zBb.lt; have hbelb : Below w.heap.size w wb3 := Below.trans (bl_trans hbel hbb2) (hbb3.mono (by omega))))
            go_ret
            exact ⟨_, rfl, (by rw [HQ.out]; simp only [List.append_nil] at hownb ⊢; exact hownb.weaken (by omega)), hbelb⟩
        · have ef : ((a.f.k == b.f.k) && (a.f.i == b.f.i) && (a.f.r == b.f.r) && (a.f.g == b.f.g) && (a.f.b == b.f.b)) = false := co_ne hf
          rw [if_neg hf] at HQ
          by_cases hbb : a.b = b.b
          · have eb : ((a.b.k == b.b.k) && (a.b.i == b.b.i) && (a.b.r == b.b.r) && (a.b.g == b.b.g) && (a.b.b == b.b.b)) = true := by rw [hbb]; simp
            rw [if_pos hbb] at HQ
            clear hf hbb
            go_wp2_with (first | (go_at_call 36; (with_reducible refine (cF _).mono ?_); rintro e wf2 ⟨vf2, rfl, hof2, hbf2⟩; have hsf : wr.heap.size ≤ wf2.heap.size := hbf2.size) | (at_builtin; refine wpList_app rfl _ _ 28 3 .i64 8 rfl Tryd.underlying28 elI (w.heap.size + 2) _ _ (([] : List Int) ++ xs) nf (hown.kept hbf2) hof2.rd rfl rfl (by simp only [maxLen, List.length_append, List.length_cons, List.length_nil]; omega) (by simp only [List.length_append, List.length_cons, List.length_nil]; omega) (by omega) ?_; intro vf3 wf3 hownf hbf3 hgrf; have zAf := Own.box (D := w.heap.size) (by omega) hbf3 (Box.past hbf2 yA); have zBf := Own.box (D := w.heap.size + 1) (by omega) hbf3 (Box.past hbf2 yB); have zcAf := zAf.cell; have zlAf := zAf.lt; have zcBf := zBf.cell; have zlBf := zBf.lt; have hbelf : Below w.heap.size w wf3 := Below.trans (bl_trans hbel hbf2) (hbf3.mono (by omega))))
            go_ret
            exact ⟨_, rfl, (by rw [HQ.out]; simp only [List.append_nil] at hownf ⊢; exact hownf.weaken (by omega)), hbelf⟩
          · have eb : ((a.b.k == b.b.k) && (a.b.i == b.b.i) && (a.b.r == b.b.r) && (a.b.g == b.b.g) && (a.b.b == b.b.b)) = false := co_ne hbb
            rw [if_neg hbb] at HQ
            clear hf hbb
            go_wp2_with (first | (go_at_call 36; (with_reducible refine (cF _).mono ?_); rintro e wf2 ⟨vf2, rfl, hof2, hbf2⟩; have hsf : wr.heap.size ≤ wf2.heap.size := hbf2.size) | (at_builtin; refine wpList_app rfl _ _ 28 3 .i64 8 rfl Tryd.underlying28 elI (w.heap.size + 2) _ _ (([] : List Int) ++ xs) nf (hown.kept hbf2) hof2.rd rfl rfl (by simp only [maxLen, List.length_append, List.length_cons, List.length_nil]; omega) (by simp only [List.length_append, List.length_cons, List.length_nil]; omega) (by omega) ?_; intro vf3 wf3 hownf hbf3 hgrf; have zAf := Own.box (D := w.heap.size) (by omega) hbf3 (Box.past hbf2 yA); have zBf := Own.box (D := w.heap.size + 1) (by omega) hbf3 (Box.past hbf2 yB); have zcAf := zAf.cell; have zlAf := zAf.lt; have zcBf := zBf.cell; have zlBf := zBf.lt; have hbelf : Below w.heap.size w wf3 := Below.trans (bl_trans hbel hbf2) (hbf3.mono (by omega))) | (go_at_call 36; (with_reducible refine (cB _).mono ?_); rintro e wb2 ⟨vb2, rfl, hob2, hbb2⟩; have hsb : wf3.heap.size ≤ wb2.heap.size := hbb2.size) | (at_builtin; refine wpList_app rfl _ _ 28 3 .i64 8 rfl Tryd.underlying28 elI (w.heap.size + 2) _ _ (([] : List Int) ++ xs ++ nf) nb (hownf.kept hbb2) hob2.rd rfl rfl (by simp only [maxLen, List.length_append, List.length_cons, List.length_nil]; omega) (by simp only [List.length_append, List.length_cons, List.length_nil]; omega) (by omega) ?_; intro vb3 wb3 hownb hbb3 hgrb; have zAb := Own.box (D := w.heap.size) (by omega) hbb3 (Box.past hbb2 zAf); have zBb := Own.box (D := w.heap.size + 1) (by omega) hbb3 (Box.past hbb2 zBf); have zcAb := zAb.cell; have zlAb := zAb.lt; have zcBb := zBb.cell; have zlBb := zBb.lt; have hbelb : Below w.heap.size w wb3 := Below.trans (bl_trans hbelf hbb2) (hbb3.mono (by omega))))
            go_ret
            exact ⟨_, rfl, (by rw [HQ.out]; simp only [List.append_nil] at hownb ⊢; exact hownb.weaken (by omega)), hbelb⟩
  · have e1 : headN a.x b.x = [22] := by unfold headN; rw [hwt]; rfl
    have e2 : lessN a.x b.x = bits .andNot .u8 a.x 3 := by unfold lessN; rw [hwt]; rfl
    unfold weightN at hwt
    have hwt2 : ¬ (bits .and .u8 (bits .andNot .u8 a.x b.x) 3 = 0) := by rw [bne_iff_ne] at hwt; exact hwt
    rw [e1, e2] at HQ
    clear e1 e2
    have yA0 : Box ((w.alloc (.cells a.a 27)).alloc (.cells b.a 27)) w.heap.size a.a 27 := Box.alloc (Box.new _ _ _ rfl) _
    have yB0 : Box ((w.alloc (.cells a.a 27)).alloc (.cells b.a 27)) (w.heap.size + 1) b.a 27 := Box.new _ _ _ (by simp)
    have h0 : Below w.heap.size w ((w.alloc (.cells a.a 27)).alloc (.cells b.a 27)) := bl_alloc (bl_alloc (Below.refl _ _) _) _
    go_enter Tryd.func24, Tryd.ntmps24
    go_wp2_with (at_builtin; refine wpList_app rfl _ _ 28 3 .i64 8 rfl Tryd.underlying28 elI (w.heap.size + 2) _ _ ([]) [22] (Own.nil _ _ _ _) (Rd.lit1 _ _ _ _ _ (by simp)) rfl rfl (by simp only [maxLen, List.length_append, List.length_cons, List.length_nil]; omega) (by simp only [List.length_append, List.length_cons, List.length_nil]; omega) (by first | omega | (simp; done) | (simp; omega)) ?_; intro v' w3 hown' hb3 hgr; have zA := Own.box (D := w.heap.size) (by omega) hb3 (Box.alloc yA0 _); have zB := Own.box (D := w.heap.size + 1) (by omega) hb3 (Box.alloc yB0 _); have zcA := zA.cell; have zlA := zA.lt; have zfA := zA.free; have zcB := zB.cell; have zlB := zB.lt; have hbel3 : Below w.heap.size w w3 := Below.trans (bl_alloc h0 _) (hb3.mono (by omega)); have zM := Mk.below hm hbel3; have zcM := zM.cell; have zlM := zM.lt)
    refine wp_name (fun Z => Own Z (w.heap.size + 2) 3 .i64 v' ([] ++ [22]) ∧ Below w.heap.size w Z ∧ Box Z w.heap.size #[.int .i64 a.f.k, .int .u8 a.f.i, .int .u8 a.f.r, .int .u8 a.f.g, .int .u8 a.f.b, .int .i64 a.b.k, .int .u8 a.b.i, .int .u8 a.b.r, .int .u8 a.b.g, .int .u8 a.b.b, .int .u8 (bits .andNot .u8 a.x 3)] 27 ∧ Box Z (w.heap.size + 1) b.a 27) ⟨hown'.bar ((Bar.refl w.heap.size w3).set _ _) (hown'.off (by omega)), Bar.to_below hbel3 ((Bar.refl w.heap.size w3).set _ _) (Nat.le_refl _), Box.as (Box.set zA 10 (.int .u8 (bits .andNot .u8 a.x 3))) (by simp), Box.set_other zB (by omega) _ _⟩ ?_
    rintro W0 ⟨hown0, hbel0, xA, xB⟩
    clear zM zcM zlM zA zB zcA zlA zfA zcB zlB hbel3 hown' hb3 hgr
    go_loopw [5, 25] (fun l i wr => ∃ k : Nat, k ≤ 8 ∧ i = .int .i64 k ∧ Own wr (w.heap.size + 2) 3 .i64 l (([22] : List Int) ++ chgK (bits .andNot .u8 a.x 3) b.x k) ∧ Below w.heap.size w wr ∧ Box wr w.heap.size #[.int .i64 a.f.k, .int .u8 a.f.i, .int .u8 a.f.r, .int .u8 a.f.g, .int .u8 a.f.b, .int .i64 a.b.k, .int .u8 a.b.i, .int .u8 a.b.r, .int .u8 a.b.g, .int .u8 a.b.b, .int .u8 (bits .andNot .u8 a.x 3)] 27 ∧ Box wr (w.heap.size + 1) b.a 27) (fun _ i _ => 8 - (intOf i).toNat)
    case atStart => exact ⟨0, by omega, rfl, hown0, hbel0, xA, xB⟩
    case round =>
      obtain ⟨k, hk, rfl, hown, hbel, yA, yB⟩ := hrel
      have hln := chgK_len (bits .andNot .u8 a.x 3) b.x k
      by_cases hlt : k < 8
      · have hS : Hid (chgK (bits .andNot .u8 a.x 3) b.x (k + 1) = chgK (bits .andNot .u8 a.x 3) b.x k ++ if bits .and .u8 b.x (mF k) ≠ 0 ∧ bits .and .u8 (bits .andNot .u8 a.x 3) (mF k) = 0 then [mN k] else if bits .and .u8 (bits .andNot .u8 a.x 3) (mF k) ≠ 0 ∧ bits .and .u8 b.x (mF k) = 0 then [mN k + 20] else []) := Lib.hid (chgK_succ (bits .andNot .u8 a.x 3) b.x k)
        have hn := mN_le k hlt
        generalize chgK (bits .andNot .u8 a.x 3) b.x k = xs at *
        generalize hf : mF k = f at *
        generalize hnn : mN k = n at *
        have yc := yA.cell
        have yl := yA.lt
        have zc := yB.cell
        have zl := yB.lt
        by_cases hu : bits .and .u8 (bits .andNot .u8 a.x 3) f = 0
        · by_cases hv : bits .and .u8 b.x f = 0
          · rw [if_neg (fun h => h.1 hv), if_neg (fun h => h.1 hu)] at hS
            go_wp2_with fail
            go_quiet (fail)
            go_wp2_with fail
            go_roundw
            case rel => exact ⟨k + 1, by omega, by go_num, (by rw [hS.out, List.append_nil]; exact hown.kept (by repeat (first | with_reducible exact Below.refl _ _ | with_reducible assumption | with_reducible exact GW.grow _ | with_reducible refine bl_alloc ?_ _ | with_reducible refine Below.drewN ?_ _ | with_reducible refine Below.drew ?_ | (with_reducible refine Below.setCell ?_ ?_ _; rotate_left; focus (simp; first | done | omega)) | with_reducible refine bl_trans ?_ (GW.grow _) | (with_reducible refine bl_trans ?_ (by assumption))))), (by repeat (first | with_reducible exact Below.refl _ _ | with_reducible assumption | with_reducible exact GW.grow _ | with_reducible refine bl_alloc ?_ _ | with_reducible refine Below.drewN ?_ _ | with_reducible refine Below.drew ?_ | (with_reducible refine Below.setCell ?_ ?_ _; rotate_left; focus (simp; first | done | omega)) | with_reducible refine bl_trans ?_ (GW.grow _) | (with_reducible refine bl_trans ?_ (by assumption)))), (by first | with_reducible assumption | (apply Box.as; (focus (repeat (first | with_reducible assumption | (with_reducible apply Box.new; simp; done) | with_reducible apply Box.gw | with_reducible apply Box.drewN | with_reducible apply Box.drew | with_reducible apply Box.alloc | with_reducible apply Box.set | (with_reducible apply Box.set_other; case hg => omega)))); rfl)), (by first | with_reducible assumption | (apply Box.as; (focus (repeat (first | with_reducible assumption | (with_reducible apply Box.new; simp; done) | with_reducible apply Box.gw | with_reducible apply Box.drewN | with_reducible apply Box.drew | with_reducible apply Box.alloc | with_reducible apply Box.set | (with_reducible apply Box.set_other; case hg => omega)))); rfl))⟩
            case measure => simp [intOf]; omega
          · have hv2 : (bits .and .u8 b.x f != 0) = true := by rw [bne_iff_ne]; exact hv
            rw [if_pos ⟨hv, hu⟩] at hS
            go_wp2_with fail
            go_quiet (fail)
            go_wp2_with ((at_builtin; refine wpList_app rfl _ _ 28 3 .i64 8 rfl Tryd.underlying28 elI (w.heap.size + 2) _ _ (([22] : List Int) ++ xs) [n] (Own.kept hown (by repeat (first | with_reducible exact Below.refl _ _ | with_reducible assumption | with_reducible exact GW.grow _ | with_reducible refine bl_alloc ?_ _ | with_reducible refine Below.drewN ?_ _ | with_reducible refine Below.drew ?_ | (with_reducible refine Below.setCell ?_ ?_ _; rotate_left; focus (simp; first | done | omega)) | with_reducible refine bl_trans ?_ (GW.grow _) | (with_reducible refine bl_trans ?_ (by assumption))))) (Rd.lit1 _ _ _ _ _ (by simp)) rfl rfl (by simp only [maxLen, List.length_append, List.length_cons, List.length_nil]; omega) (by simp only [List.length_append, List.length_cons, List.length_nil]; omega) (by simp; omega) ?_; intro v' w3 hown' hb3 hgr))
            have hb4 : Below w.heap.size w w3 := Below.trans (by repeat (first | with_reducible exact Below.refl _ _ | with_reducible assumption | with_reducible exact GW.grow _ | with_reducible refine bl_alloc ?_ _ | with_reducible refine Below.drewN ?_ _ | with_reducible refine Below.drew ?_ | (with_reducible refine Below.setCell ?_ ?_ _; rotate_left; focus (simp; first | done | omega)) | with_reducible refine bl_trans ?_ (GW.grow _) | (with_reducible refine bl_trans ?_ (by assumption)))) (hb3.mono (by omega))
            go_roundw
            case rel => exact ⟨k + 1, by omega, by go_num, (by rw [hS.out, ← List.append_assoc]; exact hown'), hb4, Own.box (by omega) hb3 (by first | with_reducible assumption | (apply Box.as; (focus (repeat (first | with_reducible assumption | (with_reducible apply Box.new; simp; done) | with_reducible apply Box.gw | with_reducible apply Box.drewN | with_reducible apply Box.drew | with_reducible apply Box.alloc | with_reducible apply Box.set | (with_reducible apply Box.set_other; case hg => omega)))); rfl)), Own.box (by omega) hb3 (by first | with_reducible assumption | (apply Box.as; (focus (repeat (first | with_reducible assumption | (with_reducible apply Box.new; simp; done) | with_reducible apply Box.gw | with_reducible apply Box.drewN | with_reducible apply Box.drew | with_reducible apply Box.alloc | with_reducible apply Box.set | (with_reducible apply Box.set_other; case hg => omega)))); rfl))⟩
            case measure => simp [intOf]; omega
        · have hu2 : (bits .and .u8 (bits .andNot .u8 a.x 3) f != 0) = true := by rw [bne_iff_ne]; exact hu
          by_cases hv : bits .and .u8 b.x f = 0
          · rw [if_neg (fun h => h.1 hv), if_pos ⟨hu, hv⟩] at hS
            go_wp2_with fail
            go_quiet (fail)
            go_wp2_with ((at_builtin; refine wpList_app rfl _ _ 28 3 .i64 8 rfl Tryd.underlying28 elI (w.heap.size + 2) _ _ (([22] : List Int) ++ xs) [n + 20] (Own.kept hown (by repeat (first | with_reducible exact Below.refl _ _ | with_reducible assumption | with_reducible exact GW.grow _ | with_reducible refine bl_alloc ?_ _ | with_reducible refine Below.drewN ?_ _ | with_reducible refine Below.drew ?_ | (with_reducible refine Below.setCell ?_ ?_ _; rotate_left; focus (simp; first | done | omega)) | with_reducible refine bl_trans ?_ (GW.grow _) | (with_reducible refine bl_trans ?_ (by assumption))))) (Rd.lit1 _ _ _ _ _ (by simp)) rfl rfl (by simp only [maxLen, List.length_append, List.length_cons, List.length_nil]; omega) (by simp only [List.length_append, List.length_cons, List.length_nil]; omega) (by simp; omega) ?_; intro v' w3 hown' hb3 hgr))
            have hb4 : Below w.heap.size w w3 := Below.trans (by repeat (first | with_reducible exact Below.refl _ _ | with_reducible assumption | with_reducible exact GW.grow _ | with_reducible refine bl_alloc ?_ _ | with_reducible refine Below.drewN ?_ _ | with_reducible refine Below.drew ?_ | (with_reducible refine Below.setCell ?_ ?_ _; rotate_left; focus (simp; first | done | omega)) | with_reducible refine bl_trans ?_ (GW.grow _) | (with_reducible refine bl_trans ?_ (by assumption)))) (hb3.mono (by omega))
            go_roundw
            case rel => exact ⟨k + 1, by omega, by go_num, (by rw [hS.out, ← List.append_assoc]; exact hown'), hb4, Own.box (by omega) hb3 (by first | with_reducible assumption | (apply Box.as; (focus (repeat (first | with_reducible assumption | (with_reducible apply Box.new; simp; done) | with_reducible apply Box.gw | with_reducible apply Box.drewN | with_reducible apply Box.drew | with_reducible apply Box.alloc | with_reducible apply Box.set | (with_reducible apply Box.set_other; case hg => omega)))); rfl)), Own.box (by omega) hb3 (by first | with_reducible assumption | (apply Box.as; (focus (repeat (first | with_reducible assumption | (with_reducible apply Box.new; simp; done) | with_reducible apply Box.gw | with_reducible apply Box.drewN | with_reducible apply Box.drew | with_reducible apply Box.alloc | with_reducible apply Box.set | (with_reducible apply Box.set_other; case hg => omega)))); rfl))⟩
            case measure => simp [intOf]; omega
          · have hv2 : (bits .and .u8 b.x f != 0) = true := by rw [bne_iff_ne]; exact hv
            rw [if_neg (fun h => hu h.2), if_neg (fun h => hv h.2)] at hS
            go_wp2_with fail
            go_quiet (fail)
            go_wp2_with fail
            go_roundw
            case rel => exact ⟨k + 1, by omega, by go_num, (by rw [hS.out, List.append_nil]; exact hown.kept (by repeat (first | with_reducible exact Below.refl _ _ | with_reducible assumption | with_reducible exact GW.grow _ | with_reducible refine bl_alloc ?_ _ | with_reducible refine Below.drewN ?_ _ | with_reducible refine Below.drew ?_ | (with_reducible refine Below.setCell ?_ ?_ _; rotate_left; focus (simp; first | done | omega)) | with_reducible refine bl_trans ?_ (GW.grow _) | (with_reducible refine bl_trans ?_ (by assumption))))), (by repeat (first | with_reducible exact Below.refl _ _ | with_reducible assumption | with_reducible exact GW.grow _ | with_reducible refine bl_alloc ?_ _ | with_reducible refine Below.drewN ?_ _ | with_reducible refine Below.drew ?_ | (with_reducible refine Below.setCell ?_ ?_ _; rotate_left; focus (simp; first | done | omega)) | with_reducible refine bl_trans ?_ (GW.grow _) | (with_reducible refine bl_trans ?_ (by assumption)))), (by first | with_reducible assumption | (apply Box.as; (focus (repeat (first | with_reducible assumption | (with_reducible apply Box.new; simp; done) | with_reducible apply Box.gw | with_reducible apply Box.drewN | with_reducible apply Box.drew | with_reducible apply Box.alloc | with_reducible apply Box.set | (with_reducible apply Box.set_other; case hg => omega)))); rfl)), (by first | with_reducible assumption | (apply Box.as; (focus (repeat (first | with_reducible assumption | (with_reducible apply Box.new; simp; done) | with_reducible apply Box.gw | with_reducible apply Box.drewN | with_reducible apply Box.drew | with_reducible apply Box.alloc | with_reducible apply Box.set | (with_reducible apply Box.set_other; case hg => omega)))); rfl))⟩
            case measure => simp [intOf]; omega
      · obtain rfl : k = 8 := by omega
        generalize chgK (bits .andNot .u8 a.x 3) b.x 8 = xs at *
        have yc := yA.cell
        have yl := yA.lt
        have zc := yB.cell
        have zl := yB.lt
        by_cases hf : a.f = b.f
        · have ef : ((a.f.k == b.f.k) && (a.f.i == b.f.i) && (a.f.r == b.f.r) && (a.f.g == b.f.g) && (a.f.b == b.f.b)) = true := by rw [hf]; simp
          rw [if_pos hf] at HQ
          by_cases hbb : a.b = b.b
          · have eb : ((a.b.k == b.b.k) && (a.b.i == b.b.i) && (a.b.r == b.b.r) && (a.b.g == b.b.g) && (a.b.b == b.b.b)) = true := by rw [hbb]; simp
            rw [if_pos hbb] at HQ
            clear hf hbb
            go_wp2_with fail
            go_ret
            exact ⟨_, rfl, (by rw [HQ.out]; simp only [List.append_nil] at hown ⊢; exact hown.weaken (by omega)), hbel⟩
          · have eb : ((a.b.k == b.b.k) && (a.b.i == b.b.i) && (a.b.r == b.b.r) && (a.b.g == b.b.g) && (a.b.b == b.b.b)) = false := co_ne hbb
            rw [if_neg hbb] at HQ
            clear hf hbb
            go_wp2_with (first | (go_at_call 36; (with_reducible refine (cB _).mono ?_); rintro e wb2 ⟨vb2, rfl, hob2, hbb2⟩; have hsb : wr.heap.size ≤ wb2.heap.size := hbb2.size) | (at_builtin; refine wpList_app rfl _ _ 28 3 .i64 8 rfl Tryd.underlying28 elI (w.heap.size + 2) _ _ (([22] : List Int) ++ xs) nb (hown.kept hbb2) hob2.rd rfl rfl (by simp only [maxLen, List.length_append, List.length_cons, List.length_nil]; omega) (by simp only [List.length_append, List.length_cons, List.length_nil]; omega) (by omega) ?_; intro vb3 wb3 hownb hbb3 hgrb; have zAb := Own.box (D := w.heap.size) (by omega) hbb3 (Box.past hbb2 yA); have zBb := Own.box (D := w.heap.size + 1) (by omega) hbb3 (Box.past hbb2 yB); have zcAb := zAb.cell; have zlAb := zAb.lt; have zcBb := zBb.cell; have zlBb := zBb.lt; have hbelb : Below w.heap.size w wb3 := Below.trans (bl_trans hbel hbb2) (hbb3.mono (by omega))))
            go_ret
            exact ⟨_, rfl, (by rw [HQ.out]; simp only [List.append_nil] at hownb ⊢; exact hownb.weaken (by omega)), hbelb⟩
        · have ef : ((a.f.k == b.f.k) && (a.f.i == b.f.i) && (a.f.r == b.f.r) && (a.f.g == b.f.g) && (a.f.b == b.f.b)) = false := co_ne hf
          rw [if_neg hf] at HQ
          by_cases hbb : a.b = b.b
          · have eb : ((a.b.k == b.b.k) && (a.b.i == b.b.i) && (a.b.r == b.b.r) && (a.b.g == b.b.g) && (a.b.b == b.b.b)) = true := by rw [hbb]; simp
            rw [if_pos hbb] at HQ
            clear hf hbb
            go_wp2_with (first | (go_at_call 36; (with_reducible refine (cF _).mono ?_); rintro e wf2 ⟨vf2, rfl, hof2, hbf2⟩; have hsf : wr.heap.size ≤ wf2.heap.size := hbf2.size) | (at_builtin; refine wpList_app rfl _ _ 28 3 .i64 8 rfl Tryd.underlying28 elI (w.heap.size + 2) _ _ (([22] : List Int) ++ xs) nf (hown.kept hbf2) hof2.rd rfl rfl (by simp only [maxLen, List.length_append, List.length_cons, List.length_nil]; omega) (by simp only [List.length_append, List.length_cons, List.length_nil]; omega) (by omega) ?_; intro vf3 wf3 hownf hbf3 hgrf; have zAf := Own.box (D := w.heap.size) (by omega) hbf3 (Box.past hbf2 yA); have zBf := Own.box (D := w.heap.size + 1) (by omega) hbf3 (Box.past hbf2 yB); have zcAf := zAf.cell; have zlAf := zAf.lt; have zcBf := zBf.cell; have zlBf := zBf.lt; have hbelf : Below w.heap.size w wf3 := Below.trans (bl_trans hbel hbf2) (hbf3.mono (by omega))))
            go_ret
            exact ⟨_, rfl, (by rw [HQ.out]; simp only [List.append_nil] at hownf ⊢; exact hownf.weaken (by omega)), hbelf⟩
          · have eb : ((a.b.k == b.b.k) && (a.b.i == b.b.i) && (a.b.r == b.b.r) && (a.b.g == b.b.g) && (a.b.b == b.b.b)) = false := co_ne hbb
            rw [if_neg hbb] at HQ
            clear hf hbb
            go_wp2_with (first | (go_at_call 36; (with_reducible refine (cF _).mono ?_); rintro e wf2 ⟨vf2, rfl, hof2, hbf2⟩; have hsf : wr.heap.size ≤ wf2.heap.size := hbf2.size) | (at_builtin; refine wpList_app rfl _ _ 28 3 .i64 8 rfl Tryd.underlying28 elI (w.heap.size + 2) _ _ (([22] : List Int) ++ xs) nf (hown.kept hbf2) hof2.rd rfl rfl (by simp only [maxLen, List.length_append, List.length_cons, List.length_nil]; omega) (by simp only [List.length_append, List.length_cons, List.length_nil]; omega) (by omega) ?_; intro vf3 wf3 hownf hbf3 hgrf; have zAf := Own.box (D := w.heap.size) (by omega) hbf3 (Box.past hbf2 yA); have zBf := Own.box (D := w.heap.size + 1) (by omega) hbf3 (Box.past hbf2 yB); have zcAf := zAf.cell; have zlAf := zAf.lt; have zcBf := zBf.cell; have zlBf := zBf.lt; have hbelf : Below w.heap.size w wf3 := Below.trans (bl_trans hbel hbf2) (hbf3.mono (by omega))) | (go_at_call 36; (with_reducible refine (cB _).mono ?_); rintro e wb2 ⟨vb2, rfl, hob2, hbb2⟩; have hsb : wf3.heap.size ≤ wb2.heap.size := hbb2.size) | (at_builtin; refine wpList_app rfl _ _ 28 3 .i64 8 rfl Tryd.underlying28 elI (w.heap.size + 2) _ _ (([22] : List Int) ++ xs ++ nf) nb (hownf.kept hbb2) hob2.rd rfl rfl (by simp only [maxLen, List.length_append, List.length_cons, List.length_nil]; omega) (by simp only [List.length_append, List.length_cons, List.length_nil]; omega) (by omega) ?_; intro vb3 wb3 hownb hbb3 hgrb; have zAb := Own.box (D := w.heap.size) (by omega) hbb3 (Box.past hbb2 zAf); have zBb := Own.box (D := w.heap.size + 1) (by omega) hbb3 (Box.past hbb2 zBf); have zcAb := zAb.cell; have zlAb := zAb.lt; have zcBb := zBb.cell; have zlBb := zBb.lt; have hbelb : Below w.heap.size w wb3 := Below.trans (bl_trans hbelf hbb2) (hbb3.mono (by omega))))
            go_ret
            exact ⟨_, rfl, (by rw [HQ.out]; simp only [List.append_nil] at hownb ⊢; exact hownb.weaken (by omega)), hbelb⟩

end Go.Proofs.YtdoeiaekimbecaaDoor
