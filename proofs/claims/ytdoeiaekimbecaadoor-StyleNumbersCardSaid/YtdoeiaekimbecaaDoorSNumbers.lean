/- style: StyleNumbers returns true for every input. No condition. -/
import Derived.Test.YtdoeiaekimbecaaDoorW
import Derived.Test.YtdoeiaekimbecaaDoorCards
import Derived.Test.YtdoeiaekimbecaaDoorTie
import Derived.SevenTiedAt
import Derived.Deep.CutBlock
import Derived.Deep.DeepCutAuto
import Derived.Outline
set_option linter.unusedSimpArgs false
set_option linter.unusedVariables false
set_option linter.unnecessarySimpa false
namespace Go.Proofs.YtdoeiaekimbecaaDoor
open Go.ChangeShapes Go.WideShapes Go.ChangeAt Go.RowKit

theorem Rd.box {w : World} {b c : Nat} {E : TypeId} {k : IntKind} {ys : List Int} (h : Box w b (ys.map (Value.int k)).toArray E) (hc : c = ys.length) (hm : ys.length ≤ maxLen) : Rd w k (.slice (some ⟨b, 0, none⟩) c c) ys := by
  subst hc
  refine ⟨_, _, rfl, Nat.le_refl _, hm, .inr ⟨b, 0, rfl, h.lt, fun i x hx => ?_⟩⟩
  rw [h.cell, Nat.zero_add]
  simp [hx]
set_option maxHeartbeats 8000000 in
set_option maxRecDepth 100000 in
theorem styleNumbers_any (p : Pn) (n a b : Int) (w : World) (hg : Gl w) (hp : wfP p) : Calls Tryd.prog 4 #[.agg p.a, .int .i64 n, .int .i64 a, .int .i64 b] w fun e w' => e = .returned (.bool true) ∧ Below w.heap.size w w' := by
  have hb0 : Below w.heap.size w (w.alloc (.cells p.a 27)) := bl_alloc (Below.refl _ _) _
  have hB := hg.below hb0
  have xP : Box (w.alloc (.cells p.a 27)) w.heap.size p.a 27 := Box.new _ _ _ rfl
  have cK : ∀ W, Below (w.alloc (.cells p.a 27)).heap.size (w.alloc (.cells p.a 27)) W → Calls Tryd.prog 8 #[] W fun e w' => e = .returned (.bool true) ∧ Below W.heap.size W w' := fun W hW => known_any W (hB.m.below hW) (hB.t.below hW)
  have cV := fun W => valid_any p W
  have cR : ∀ W n0, Rd W .i64 (.slice (some ⟨n0, 0, none⟩) 3 3) [n, a, b] → Calls Tryd.prog 10 #[.slice (some ⟨n0, 0, none⟩) 3 3] W fun e w' => e = .returned (.bool (rightN [n, a, b])) ∧ Below W.heap.size W w' := fun W n0 h => right_any _ _ W h
  cases hv : validP p
  · rw [hv] at cV
    clear cR hv
    go_enter Tryd.func4, Tryd.ntmps4
    go_wp2_with (first | (go_at_call 9; (with_reducible refine (cV _).mono ?_); rintro e w1 ⟨rfl, hb⟩; (first | obtain ⟨X, rfl⟩ := GW.of2 hb | obtain ⟨X, rfl⟩ := GW.of hb); clear hb) | (go_at_call 8; (with_reducible refine (cK _ (GW.grow _)).mono ?_); rintro e w1 ⟨rfl, hb⟩; (first | obtain ⟨X, rfl⟩ := GW.of2 hb | obtain ⟨X, rfl⟩ := GW.of hb); clear hb))
    go_ret
    exact ⟨rfl, bl_trans hb0 (GW.grow _)⟩
  rw [hv] at cV
  cases hr : rightN [n, a, b]
  · rw [hr] at cR
    clear hv hr
    go_enter Tryd.func4, Tryd.ntmps4
    go_wp2_with (first | (go_at_call 9; (with_reducible refine (cV _).mono ?_); rintro e w1 ⟨rfl, hb⟩; (first | obtain ⟨X, rfl⟩ := GW.of2 hb | obtain ⟨X, rfl⟩ := GW.of hb); clear hb) | (go_at_call 10; (with_reducible refine (cR _ _ ?rd).mono ?_); (focus (case rd => exact (Rd.new _ _ _ [n, a, b] _ _ rfl rfl (by simp [maxLen])))); rintro e w2 ⟨rfl, hb⟩; obtain ⟨X, rfl⟩ := GW.of (bl_trans (bl_alloc X.grow _) hb); clear hb) | (go_at_call 8; (with_reducible refine (cK _ (GW.grow _)).mono ?_); rintro e w1 ⟨rfl, hb⟩; (first | obtain ⟨X, rfl⟩ := GW.of2 hb | obtain ⟨X, rfl⟩ := GW.of hb); clear hb))
    go_ret
    exact ⟨rfl, bl_trans hb0 (GW.grow _)⟩
  · rw [hr] at cR
    have hnab : n ≤ 9999 ∧ a ≤ 9999 ∧ b ≤ 9999 := by simpa [rightN] using hr
    have HV := Lib.hid hv
    clear hv hr
    obtain ⟨hn1, ha1, hb1⟩ := hnab
    go_enter Tryd.func4, Tryd.ntmps4
    go_upto_region 4 with (first | (go_at_call 9; (with_reducible refine (cV _).mono ?_); rintro e w1 ⟨rfl, hb⟩; (first | obtain ⟨X, rfl⟩ := GW.of2 hb | obtain ⟨X, rfl⟩ := GW.of hb); clear hb) | (go_at_call 10; (with_reducible refine (cR _ _ ?rd).mono ?_); (focus (case rd => exact (Rd.new _ _ _ [n, a, b] _ _ rfl rfl (by simp [maxLen])))); rintro e w2 ⟨rfl, hb⟩; obtain ⟨X, rfl⟩ := GW.of (bl_trans (bl_alloc X.grow _) hb); clear hb))
    have xX := Box.gw (X := X) xP
    refine wp_name (fun Z => Below (w.alloc (.cells p.a 27)).heap.size (w.alloc (.cells p.a 27)) Z ∧ Box Z (X.world.heap.size) #[.int .i64 n] 3 ∧ Box Z (X.world.heap.size + 1) #[.int .i64 38, .int .i64 5, .int .i64 n] 3 ∧ Box Z (X.world.heap.size + 1 + 1) #[.int .i64 48, .int .i64 5, .int .i64 n] 3 ∧ Box Z (X.world.heap.size + 1 + 1 + 1) #[.int .i64 38, .int .i64 2, .int .i64 n, .int .i64 a, .int .i64 b] 3 ∧ Box Z (X.world.heap.size + 1 + 1 + 1 + 1) #[.int .i64 48, .int .i64 2, .int .i64 a, .int .i64 n, .int .i64 b] 3 ∧ Box Z (X.world.heap.size + 1 + 1 + 1 + 1 + 1) #[.int .i64 38, .int .i64 n, .int .i64 a, .int .i64 b] 3 ∧ Box Z (X.world.heap.size + 1 + 1 + 1 + 1 + 1 + 1) #[.int .i64 48, .int .i64 n, .int .i64 a] 3 ∧ Box Z (X.world.heap.size + 1 + 1 + 1 + 1 + 1 + 1 + 1) #[.int .i64 38, .int .i64 2, .int .i64 a, .int .i64 b] 3 ∧ Box Z (X.world.heap.size + 1 + 1 + 1 + 1 + 1 + 1 + 1 + 1) #[.int .i64 38, .int .i64 5, .int .i64 n, .int .i64 a, .int .i64 b] 3 ∧ Box Z (X.world.heap.size + 1 + 1 + 1 + 1 + 1 + 1 + 1 + 1 + 1) #[.int .i64 n, .int .i64 38] 3 ∧ Box Z (X.world.heap.size + 1 + 1 + 1 + 1 + 1 + 1 + 1 + 1 + 1 + 1) #[.int .i64 48, .int .i64 2] 3 ∧ Box Z (X.world.heap.size + 1 + 1 + 1 + 1 + 1 + 1 + 1 + 1 + 1 + 1 + 1) #[.slice (some ⟨X.world.heap.size, 0, none⟩) 1 1, .slice (some ⟨X.world.heap.size + 1, 0, none⟩) 3 3, .slice (some ⟨X.world.heap.size + 1 + 1, 0, none⟩) 3 3, .slice (some ⟨X.world.heap.size + 1 + 1 + 1, 0, none⟩) 5 5, .slice (some ⟨X.world.heap.size + 1 + 1 + 1 + 1, 0, none⟩) 5 5, .slice (some ⟨X.world.heap.size + 1 + 1 + 1 + 1 + 1, 0, none⟩) 4 4, .slice (some ⟨X.world.heap.size + 1 + 1 + 1 + 1 + 1 + 1, 0, none⟩) 3 3, .slice (some ⟨X.world.heap.size + 1 + 1 + 1 + 1 + 1 + 1 + 1, 0, none⟩) 4 4, .slice (some ⟨X.world.heap.size + 1 + 1 + 1 + 1 + 1 + 1 + 1 + 1, 0, none⟩) 5 5, .slice (some ⟨X.world.heap.size + 1 + 1 + 1 + 1 + 1 + 1 + 1 + 1 + 1, 0, none⟩) 2 2, .slice (some ⟨X.world.heap.size + 1 + 1 + 1 + 1 + 1 + 1 + 1 + 1 + 1 + 1, 0, none⟩) 2 2] 28) ⟨(by repeat (first | with_reducible exact Below.refl _ _ | with_reducible assumption | with_reducible exact GW.grow _ | with_reducible refine bl_alloc ?_ _ | with_reducible refine Below.drewN ?_ _ | with_reducible refine Below.drew ?_ | (with_reducible refine Below.setCell ?_ ?_ _; rotate_left; focus (simp; first | done | omega)) | with_reducible refine bl_trans ?_ (GW.grow _) | (with_reducible refine bl_trans ?_ (by assumption)))), (by first | with_reducible assumption | (apply Box.as; (focus (repeat (first | with_reducible assumption | (with_reducible apply Box.new; simp; done) | with_reducible apply Box.gw | with_reducible apply Box.drewN | with_reducible apply Box.drew | with_reducible apply Box.alloc | with_reducible apply Box.set | (with_reducible apply Box.set_other; case hg => omega)))); rfl)), (by first | with_reducible assumption | (apply Box.as; (focus (repeat (first | with_reducible assumption | (with_reducible apply Box.new; simp; done) | with_reducible apply Box.gw | with_reducible apply Box.drewN | with_reducible apply Box.drew | with_reducible apply Box.alloc | with_reducible apply Box.set | (with_reducible apply Box.set_other; case hg => omega)))); rfl)), (by first | with_reducible assumption | (apply Box.as; (focus (repeat (first | with_reducible assumption | (with_reducible apply Box.new; simp; done) | with_reducible apply Box.gw | with_reducible apply Box.drewN | with_reducible apply Box.drew | with_reducible apply Box.alloc | with_reducible apply Box.set | (with_reducible apply Box.set_other; case hg => omega)))); rfl)), (by first | with_reducible assumption | (apply Box.as; (focus (repeat (first | with_reducible assumption | (with_reducible apply Box.new; simp; done) | with_reducible apply Box.gw | with_reducible apply Box.drewN | with_reducible apply Box.drew | with_reducible apply Box.alloc | with_reducible apply Box.set | (with_reducible apply Box.set_other; case hg => omega)))); rfl)), (by first | with_reducible assumption | (apply Box.as; (focus (repeat (first | with_reducible assumption | (with_reducible apply Box.new; simp; done) | with_reducible apply Box.gw | with_reducible apply Box.drewN | with_reducible apply Box.drew | with_reducible apply Box.alloc | with_reducible apply Box.set | (with_reducible apply Box.set_other; case hg => omega)))); rfl)), (by first | with_reducible assumption | (apply Box.as; (focus (repeat (first | with_reducible assumption | (with_reducible apply Box.new; simp; done) | with_reducible apply Box.gw | with_reducible apply Box.drewN | with_reducible apply Box.drew | with_reducible apply Box.alloc | with_reducible apply Box.set | (with_reducible apply Box.set_other; case hg => omega)))); rfl)), (by first | with_reducible assumption | (apply Box.as; (focus (repeat (first | with_reducible assumption | (with_reducible apply Box.new; simp; done) | with_reducible apply Box.gw | with_reducible apply Box.drewN | with_reducible apply Box.drew | with_reducible apply Box.alloc | with_reducible apply Box.set | (with_reducible apply Box.set_other; case hg => omega)))); rfl)), (by first | with_reducible assumption | (apply Box.as; (focus (repeat (first | with_reducible assumption | (with_reducible apply Box.new; simp; done) | with_reducible apply Box.gw | with_reducible apply Box.drewN | with_reducible apply Box.drew | with_reducible apply Box.alloc | with_reducible apply Box.set | (with_reducible apply Box.set_other; case hg => omega)))); rfl)), (by first | with_reducible assumption | (apply Box.as; (focus (repeat (first | with_reducible assumption | (with_reducible apply Box.new; simp; done) | with_reducible apply Box.gw | with_reducible apply Box.drewN | with_reducible apply Box.drew | with_reducible apply Box.alloc | with_reducible apply Box.set | (with_reducible apply Box.set_other; case hg => omega)))); rfl)), (by first | with_reducible assumption | (apply Box.as; (focus (repeat (first | with_reducible assumption | (with_reducible apply Box.new; simp; done) | with_reducible apply Box.gw | with_reducible apply Box.drewN | with_reducible apply Box.drew | with_reducible apply Box.alloc | with_reducible apply Box.set | (with_reducible apply Box.set_other; case hg => omega)))); rfl)), (by first | with_reducible assumption | (apply Box.as; (focus (repeat (first | with_reducible assumption | (with_reducible apply Box.new; simp; done) | with_reducible apply Box.gw | with_reducible apply Box.drewN | with_reducible apply Box.drew | with_reducible apply Box.alloc | with_reducible apply Box.set | (with_reducible apply Box.set_other; case hg => omega)))); rfl)), (by first | with_reducible assumption | (apply Box.as; (focus (repeat (first | with_reducible assumption | (with_reducible apply Box.new; simp; done) | with_reducible apply Box.gw | with_reducible apply Box.drewN | with_reducible apply Box.drew | with_reducible apply Box.alloc | with_reducible apply Box.set | (with_reducible apply Box.set_other; case hg => omega)))); rfl))⟩ ?_
    rintro W6 ⟨hB6, y0, y1, y2, y3, y4, y5, y6, y7, y8, y9, y10, y11⟩
    have HC : ∀ k, k < 11 → ∃ v L, W6.cell? ⟨X.world.heap.size + 1 + 1 + 1 + 1 + 1 + 1 + 1 + 1 + 1 + 1 + 1, k, none⟩ = some v ∧ Rd W6 .i64 v L ∧ rightN L = true ∧ L.length ≤ 5 := by
      intro k hk
      match k, hk with
      | 0, _ => exact ⟨_, [n], (y11.cell 0).trans rfl, Rd.box y0 rfl (by simp [maxLen]), (by simp only [rightN, List.all_cons, List.all_nil, Bool.and_true, Bool.and_eq_true, decide_eq_true_eq]; omega), (by simp)⟩
      | 1, _ => exact ⟨_, [38, 5, n], (y11.cell 1).trans rfl, Rd.box y1 rfl (by simp [maxLen]), (by simp only [rightN, List.all_cons, List.all_nil, Bool.and_true, Bool.and_eq_true, decide_eq_true_eq]; omega), (by simp)⟩
      | 2, _ => exact ⟨_, [48, 5, n], (y11.cell 2).trans rfl, Rd.box y2 rfl (by simp [maxLen]), (by simp only [rightN, List.all_cons, List.all_nil, Bool.and_true, Bool.and_eq_true, decide_eq_true_eq]; omega), (by simp)⟩
      | 3, _ => exact ⟨_, [38, 2, n, a, b], (y11.cell 3).trans rfl, Rd.box y3 rfl (by simp [maxLen]), (by simp only [rightN, List.all_cons, List.all_nil, Bool.and_true, Bool.and_eq_true, decide_eq_true_eq]; omega), (by simp)⟩
      | 4, _ => exact ⟨_, [48, 2, a, n, b], (y11.cell 4).trans rfl, Rd.box y4 rfl (by simp [maxLen]), (by simp only [rightN, List.all_cons, List.all_nil, Bool.and_true, Bool.and_eq_true, decide_eq_true_eq]; omega), (by simp)⟩
      | 5, _ => exact ⟨_, [38, n, a, b], (y11.cell 5).trans rfl, Rd.box y5 rfl (by simp [maxLen]), (by simp only [rightN, List.all_cons, List.all_nil, Bool.and_true, Bool.and_eq_true, decide_eq_true_eq]; omega), (by simp)⟩
      | 6, _ => exact ⟨_, [48, n, a], (y11.cell 6).trans rfl, Rd.box y6 rfl (by simp [maxLen]), (by simp only [rightN, List.all_cons, List.all_nil, Bool.and_true, Bool.and_eq_true, decide_eq_true_eq]; omega), (by simp)⟩
      | 7, _ => exact ⟨_, [38, 2, a, b], (y11.cell 7).trans rfl, Rd.box y7 rfl (by simp [maxLen]), (by simp only [rightN, List.all_cons, List.all_nil, Bool.and_true, Bool.and_eq_true, decide_eq_true_eq]; omega), (by simp)⟩
      | 8, _ => exact ⟨_, [38, 5, n, a, b], (y11.cell 8).trans rfl, Rd.box y8 rfl (by simp [maxLen]), (by simp only [rightN, List.all_cons, List.all_nil, Bool.and_true, Bool.and_eq_true, decide_eq_true_eq]; omega), (by simp)⟩
      | 9, _ => exact ⟨_, [n, 38], (y11.cell 9).trans rfl, Rd.box y9 rfl (by simp [maxLen]), (by simp only [rightN, List.all_cons, List.all_nil, Bool.and_true, Bool.and_eq_true, decide_eq_true_eq]; omega), (by simp)⟩
      | 10, _ => exact ⟨_, [48, 2], (y11.cell 10).trans rfl, Rd.box y10 rfl (by simp [maxLen]), (by simp only [rightN, List.all_cons, List.all_nil, Bool.and_true, Bool.and_eq_true, decide_eq_true_eq]; omega), (by simp)⟩
    have hBB := y11.lt
    clear y0 y1 y2 y3 y4 y5 y6 y7 y8 y9 y10 y11
    have HC := Lib.hid HC
    generalize X.world.heap.size + 1 + 1 + 1 + 1 + 1 + 1 + 1 + 1 + 1 + 1 + 1 = BB at *
    have xW := Box.past hB6 xP
    go_loopw [56] (fun i wr => ∃ k : Nat, k ≤ 11 ∧ i = .int .i64 k ∧ Below W6.heap.size W6 wr) (fun i _ => 11 - (intOf i).toNat)
    case atStart => exact ⟨0, by omega, rfl, Below.refl _ _⟩
    case round =>
      obtain ⟨k, hk, rfl, hbel⟩ := hrel
      have hbw := bl_trans hB6 hbel
      by_cases hlt : k < 11
      · obtain ⟨v, L, hce, hrd, hrt, hln⟩ := HC.out k hlt
        have hrw := hrd.below hbel
        have hcw : wr.cell? ⟨BB, k, none⟩ = some v := (hbel.cell (p := ⟨BB, k, none⟩) hBB).trans hce
        obtain ⟨q0, c0, hvs⟩ : ∃ q c, v = .slice q L.length c := by
          obtain ⟨q, c, hv, _⟩ := hrd
          exact ⟨q, c, hv⟩
        subst hvs
        have cS : ∀ W, Below wr.heap.size wr W → Calls Tryd.prog 12 #[.agg p.a, .slice q0 L.length c0] W fun e w' => e = .returned (.agg (applyN p L).a) ∧ Below W.heap.size W w' := fun W hW => by rw [← applyR_eq]; exact rapply_any p _ L W (hrw.below hW) hrt
        have cA : ∀ W, Below wr.heap.size wr W → Calls Tryd.prog 11 #[.agg p.a, .slice q0 L.length c0, .agg (applyN p L).a, .int .i64 0] W fun e w' => e = .returned (.bool true) ∧ Below W.heap.size W w' := fun W hW => applies_ok p _ L W (hB.m.below (bl_trans hbw hW)) (hrw.below hW) (by omega) HV.out hrt _ rfl
        generalize applyN p L = q at *
        have yx := Box.past hbel xW
        have yc := yx.cell
        have yl := yx.lt
        have hBw : BB < wr.heap.size := Nat.lt_of_lt_of_le hBB hbel.size
        clear hrd hce hrw xX xW xP hrt
        go_wp2_with fail
        first | refine wp_grow2 (by kernel_rfl) (by kernel_rfl) ?_ | refine wp_grow (by kernel_rfl) (by kernel_rfl) ?_
        repeat (go_big_quiet_step (first | (go_at_call 12; with_reducible exact GW.call (cS _ (GW.grow _))) | (go_at_call 11; with_reducible exact GW.call (cA _ (GW.grow _)))))
        refine wpQuiet_nil ?_
        rintro _ ⟨X, rfl⟩
        go_wp2_with fail
        go_roundw
        case rel => exact ⟨k + 1, by omega, by go_num, (by repeat (first | with_reducible exact Below.refl _ _ | with_reducible assumption | with_reducible exact GW.grow _ | with_reducible refine bl_alloc ?_ _ | with_reducible refine Below.drewN ?_ _ | with_reducible refine Below.drew ?_ | (with_reducible refine Below.setCell ?_ ?_ _; rotate_left; focus (simp; first | done | omega)) | with_reducible refine bl_trans ?_ (GW.grow _) | (with_reducible refine bl_trans ?_ (by assumption))))⟩
        case measure => simp [intOf]; omega
      · obtain rfl : k = 11 := by omega
        have cK2 : ∀ W, Below wr.heap.size wr W → Calls Tryd.prog 8 #[] W fun e w' => e = .returned (.bool true) ∧ Below W.heap.size W w' := fun W hW => cK W (bl_trans hbw hW)
        go_wp2_with (first | (go_at_call 8; (with_reducible refine (cK2 _ (Below.refl _ _)).mono ?_); rintro e w1 ⟨rfl, hb⟩))
        go_ret
        exact ⟨rfl, bl_trans hb0 (bl_trans hbw hb)⟩

set_option maxRecDepth 100000 in
theorem styleNumbers_lifted (os : Os) (started : os.Started) (H : Type) (enc : TypeId × Value → H) :
    ReturnsInHanded {} Tryd.checked os 4 .any (fun w args => (Rows.styleNumbersSpec.pre enc Tryd.prog Tryd.f4 [] false w args ∧ laidMetH Tryd.prog laid4 w) ∧ sizedMet enc Tryd.prog Tryd.f4 (OpenSpec.ofChange Rows.styleNumbersSpec) false w args)
      (Rows.styleNumbersSpec.post enc Tryd.prog Tryd.f4 false true false false) := by
  refine returnsInHanded_of_change_and (C := Tryd.checked) (X := fun w _ => laidMetH Tryd.prog laid4 w) (fun _ _ _ hh h => h.of_heap hh) Tryd.own started (by kernel_rfl) Tryd.func4
    (ChangeSpec.witness_shaped (enc := enc) (C := Tryd.checked) (os := os) (X := fun w _ => laidMetH Tryd.prog laid4 w) false (World.doorLaid Tryd.prog 400 os) #[.agg #[.int .i64 0, .int .u8 0, .int .u8 0, .int .u8 0, .int .u8 0, .int .i64 0, .int .u8 0, .int .u8 0, .int .u8 0, .int .u8 0, .int .u8 0], .int .i64 0, .int .i64 0, .int .i64 0] 8 rfl (World.shaped_of_RefB (by kernel_rfl) (by kernel_rfl)) (by kernel_rfl) (by kernel_rfl) (by kernel_rfl) (door_met os _)) ?_
  intro W base args ds gs before hval0 hW _ _ hL _
  have hval : ∀ (j : Nat) t v, Tryd.f4.params[j]? = some t → args[j]? = some v → Value.okWide Tryd.prog W .any base t v := hval0
  have hW' := hW
  obtain ⟨p, q, hA0, hV, rfl, hfz, hnd⟩ := hW
  have hA : DataW.TrodAll enc Tryd.prog W 0 (fun _ => true) true Tryd.f4.params.toList args.toList ds p := hA0
  rw [Tryd.params4] at hA hval
  obtain ⟨v0, v1, v2, v3, d0, d1, d2, d3, p0, p1, p2, p3, rfl, rfl, rfl, h0, h1, h2, h3⟩ := trodAll_four hA
  obtain ⟨rfl, rfl⟩ := trodVars_none hV
  obtain ⟨pn0, rfl, hp0⟩ := open_pen (hval 0 27 v0 rfl rfl) h0
  obtain ⟨n1, rfl, hn1⟩ := open_num Tryd.underlying3 (hval 1 3 v1 rfl rfl) h1
  obtain ⟨n2, rfl, hn2⟩ := open_num Tryd.underlying3 (hval 2 3 v2 rfl rfl) h2
  obtain ⟨n3, rfl, hn3⟩ := open_num Tryd.underlying3 (hval 3 3 v3 rfl rfl) h3
  clear hA0 hval0
  have hT := gl_of_laid hL
  refine (styleNumbers_any pn0 n1 n2 n3 W hT hp0).mono fun e W' ⟨he, hw⟩ => ?_
  exact ⟨_, he, post_law Tryd.laidOut rfl hW' (by kernel_rfl) rfl Tryd.underlying4 rfl hw⟩

theorem styleNumbers_row : Rows.StyleNumbersSaid :=
  OpenClaim.holds_of_wide 4 Tryd.f4 rfl rfl rfl rfl rfl rfl rfl ⟨rfl, rfl, rfl, rfl, rfl⟩ rfl rfl rfl rfl rfl (by kernel_rfl) Tryd.func4 (by kernel_rfl)
    (of_decide_eq_true (by kernel_rfl)) (by unfold Func.isWrapper; first | (rw [if_pos (by decide +kernel)]; kernel_rfl) | (rw [if_neg (by decide +kernel)]; exact ⟨rfl, rfl⟩))
    (fun os started H enc _ => styleNumbers_lifted os started H enc)

set_option maxHeartbeats 8000000 in
set_option maxRecDepth 100000 in
/-- THE TIED CARD. -/
theorem styleNumbers_holds : Rows.StyleNumbersCardSaid :=
  Claim7.holds_tied_plain_at .later [] [.data, .data, .data, .data] true (true, "a3470dac668e4131d9f8441a592fc5b44021ebc5f310932b83913053633c592d") false
    styleNumbers_row (fun _ h => by cases h) (by kernel_rfl) (fun _ h => by cases h) styleNumbers_row_tie rfl ⟨rfl, rfl⟩ (by kernel_rfl) rfl
    (fun f fn hf hfn => by
      obtain rfl : f = 4 := Option.some.inj ((show Tryd.prog.funcNamed "scrollback/scrollbacklaw21.StyleNumbers" = some 4 by kernel_rfl).symm.trans hf) |>.symm
      obtain rfl : fn = Tryd.f4 := (Option.some.inj (Tryd.func4.symm.trans hfn)).symm
      exact ⟨by kernel_rfl, fun j t ht => by
        rw [Tryd.params4] at ht
        have hm : t ∈ [27, 3, 3, 3] := by simpa using Array.mem_of_getElem? ht
        have hall : ([27, 3, 3, 3].all fun u => !Tryd.prog.wantsStandIn u) = true := by kernel_rfl
        exact (show Tryd.prog.wantsStandIn t = false by simpa using List.all_eq_true.1 hall t hm)⟩)
    (by kernel_rfl)

end Go.Proofs.YtdoeiaekimbecaaDoor
