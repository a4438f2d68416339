/- style: a color out of a group. -/
import Derived.Test.YtdoeiaekimbecaaDoorB
import Derived.Test.YtdoeiaekimbecaaDoorLate3
import Derived.Outline
import Derived.LoopN
set_option linter.unusedSimpArgs false
set_option linter.unusedVariables false
set_option linter.unnecessarySimpa false
namespace Go.Proofs.YtdoeiaekimbecaaDoor
open Go.RowKit

/-- What a group that begins with 38 or 48 says. -/
def extB (l : List Int) : Bool := (decide (l.length = 3) && decide (l.getD 1 0 = 5) && decide (l.getD 2 0 ≤ 255)) || (decide (l.length = 5) && decide (l.getD 1 0 = 2) && decide (l.getD 2 0 ≤ 255) && decide (l.getD 3 0 ≤ 255) && decide (l.getD 4 0 ≤ 255))
def extC (l : List Int) : Co := if l.length = 3 then coI (max 0 (l.getD 2 0)) else coT (max 0 (l.getD 2 0)) (max 0 (l.getD 3 0)) (max 0 (l.getD 4 0))
def ExtE (l : List Int) (w : World) (e : Ending) (w' : World) : Prop := ∃ (c : Co) (is : Bool), e = .returned (.tuple #[.agg c.a, .bool is]) ∧ is = extB l ∧ (is = true → c = extC l) ∧ Below w.heap.size w w'
theorem cellsN {w : World} {v : Value} {l : List Int} (h : Rd w .i64 v l) (h0 : 0 < l.length) : ∃ b off cap, v = .slice (some ⟨b, off, none⟩) l.length cap ∧ b < w.heap.size ∧ l.length ≤ cap ∧ cap ≤ maxLen ∧ ∀ i, i < l.length → w.cell? ⟨b, off + i, none⟩ = some (.int .i64 (l.getD i 0)) := by
  obtain ⟨p, cap, rfl, h1, h2, h3⟩ := h
  rcases h3 with ⟨_, h⟩ | ⟨b, off, rfl, hlt, hc⟩
  · omega
  · refine ⟨b, off, cap, rfl, hlt, h1, h2, fun i hi => ?_⟩
    rw [hc i _ (List.getElem?_eq_getElem hi), List.getD_eq_getElem?_getD, List.getElem?_eq_getElem hi]; rfl
set_option maxHeartbeats 4000000 in
theorem ext_short (v : Value) (l : List Int) (w : World) (h : Rd w .i64 v l) (h0 : 0 < l.length) (h3 : l.length ≠ 3) (h5 : l.length ≠ 5) : Calls Tryd.prog 46 #[v] w (ExtE l w) := by
  obtain ⟨b, off, cap, rfl, hbl, hlc, hcm, hc⟩ := cellsN h h0
  have HB : Hid (extB l = false) := Lib.hid (by unfold extB; simp [h3, h5])
  have n3 : ((l.length : Int) != 3) = true := by rw [bne_iff_ne]; omega
  have n5 : ((l.length : Int) != 5) = true := by rw [bne_iff_ne]; omega
  clear hc h hcm h3 h5
  go_enter Tryd.func46, Tryd.ntmps46
  go_wp2_with fail
  refine ret_row_tmp (n := 5) rfl rfl Tryd.underlying24 rfl (by kernel_rfl) rfl ⟨_, by simp (maxDischargeDepth := 6) [go_sem] <;> rfl, rfl, ?_⟩
  exact ⟨coZ, false, rfl, HB.out.symm, (fun h => by cases h), (by repeat (first | with_reducible exact Below.refl _ _ | with_reducible assumption | with_reducible exact GW.grow _ | with_reducible refine bl_alloc ?_ _ | with_reducible refine Below.drew ?_ | (with_reducible refine Below.setCell ?_ ?_ _; rotate_left; focus (simp; first | done | omega)) | with_reducible refine bl_trans ?_ (GW.grow _) | (with_reducible refine bl_trans ?_ (by assumption))))⟩
theorem Bar5 (D : Nat) (w : World) (a b c d e : Value) : Bar D w (((((w.setCell ⟨D, 0, none⟩ a).setCell ⟨D, 1, none⟩ b).setCell ⟨D, 2, none⟩ c).setCell ⟨D, 3, none⟩ d).setCell ⟨D, 4, none⟩ e) := (((((Bar.refl D w).set 0 _).set 1 _).set 2 _).set 3 _).set 4 _
theorem set5 {w : World} {D : Nat} {v0 v1 v2 v3 v4 : Value} {t : TypeId} (h : Box w D #[v0, v1, v2, v3, v4] t) (a b c d e : Value) : Box (((((w.setCell ⟨D, 0, none⟩ a).setCell ⟨D, 1, none⟩ b).setCell ⟨D, 2, none⟩ c).setCell ⟨D, 3, none⟩ d).setCell ⟨D, 4, none⟩ e) D #[a, b, c, d, e] t := ((((h.set 0 a).set 1 b).set 2 c).set 3 d).set 4 e
theorem Below.bar {w w' : World} (D : Nat) (h : Below w.heap.size w w') : Bar D w w' := (Bar.refl D w).below h
theorem Box.bar {w w' : World} {b D : Nat} {cs : Array Value} {t : TypeId} (h : Box w b cs t) (hb : Bar D w w') (hne : b ≠ D) : Box w' b cs t := (hb.block b hne h.lt).trans h
theorem ret_two {a : Value} {x y : Bool} (h : x = y) : Ending.returned (.tuple #[a, .bool x]) = .returned (.tuple #[a, .bool y]) := by rw [h]
/-- A group of 3 numbers. -/
def Ext3 (a1 a2 : Int) (w : World) (e : Ending) (w' : World) : Prop := ∃ c : Co, e = .returned (.tuple #[.agg c.a, .bool (decide (a1 = 5) && (decide (a2 ≤ 255)))]) ∧ (a1 = 5 ∧ a2 ≤ 255 → c = coI (max 0 a2)) ∧ Below w.heap.size w w'
set_option maxHeartbeats 4000000 in
set_option maxRecDepth 100000 in
theorem ext_3 (v : Value) (a0 a1 a2 : Int) (w : World) (h : Rd w .i64 v [a0, a1, a2]) : Calls Tryd.prog 46 #[v] w (Ext3 a1 a2 w) := by
  obtain ⟨b, off, cap, rfl, hbl, hlc, hcm, hc⟩ := cellsN h (by simp)
  have c1 := hc 1 (by simp)
  simp only [List.getD_cons_succ, List.getD_cons_zero] at c1
  have HP : Hid ((([a0, a1, a2] : List Int).take 3).drop 2 = [a2]) := Lib.hid rfl
  clear hc
  have cI := fun W => index_any (max 0 a2) W
  go_enter Tryd.func46, Tryd.ntmps46
  go_wp2_with (first | (refine wpList_part rfl 28 .i64 Tryd.underlying28 Tryd.sizeOf3 (.tmp 16) (some (.const (.int .i64 2))) none rfl _ cap [a0, a1, a2] rfl (h.below (bl_alloc (bl_alloc (Below.refl _ _) _) _)) 2 3 (.inr rfl) (.inl ⟨rfl, rfl⟩) (by omega) (by simp) ?_; intro v' hv' hvb'; rw [HP.out] at hv'; obtain ⟨b', off', cap', hve', hbl', hlc', hcm', hc'⟩ := cellsN hv' (by simp); subst hve'; have hbb : b' = b := (by simpa [Value.ownBlock] using hvb'); subst hbb; have hbn : b' ≠ w.heap.size + 1 := (by omega); have hbn0 : b' ≠ w.heap.size := (by omega); have d0 := ((bl_alloc (bl_alloc (Below.refl _ _) _) _ : Below w.heap.size w _).cell (p := ⟨b', off' + 0, none⟩) hbl).symm.trans (hc' 0 (by simp)); simp only [List.getD_cons_succ, List.getD_cons_zero, Nat.add_zero] at d0; clear hc' hv'))
  clear h
  refine wp_loop_rounds 2 ?_
  rw [rounds_succ]
  by_cases hx0 : a2 ≤ 255
  · go_wp2_with fail
    rw [rounds_succ]
    go_wp2_with fail
    refine wp_name (fun Z => Below w.heap.size w Z ∧ Box Z w.heap.size coZ.a 24 ∧ Box Z (w.heap.size + 1) #[.int .u8 (max 0 a2), .int .u8 0, .int .u8 0] 80) ⟨(by repeat (first | with_reducible exact Below.refl _ _ | with_reducible assumption | with_reducible exact GW.grow _ | with_reducible refine bl_alloc ?_ _ | with_reducible refine Below.drew ?_ | (with_reducible refine Below.setCell ?_ ?_ _; rotate_left; focus (simp; first | done | omega)) | with_reducible refine bl_trans ?_ (GW.grow _) | (with_reducible refine bl_trans ?_ (by assumption)))), (by first | with_reducible assumption | (apply Box.as; (focus (repeat (first | with_reducible assumption | (with_reducible apply Box.new; simp; done) | with_reducible apply Box.gw | with_reducible apply Box.drew | with_reducible apply Box.alloc | with_reducible apply Box.set | (with_reducible apply Box.set_other; case hg => omega)))); rfl)), (by first | with_reducible assumption | (apply Box.as; (focus (repeat (first | with_reducible assumption | (with_reducible apply Box.new; simp; done) | with_reducible apply Box.gw | with_reducible apply Box.drew | with_reducible apply Box.alloc | with_reducible apply Box.set | (with_reducible apply Box.set_other; case hg => omega)))); rfl))⟩ ?_
    rintro W0 ⟨hW0, xD, xA⟩
    have hC : ∀ W : World, Bar w.heap.size W0 W → W.cell? ⟨b', off + 1, none⟩ = some (.int .i64 a1) := fun W hW => by
      rw [World.cell?_of_block ((hW.block b' (by omega) (Nat.lt_of_lt_of_le hbl hW0.size)).trans (hW0.block b' hbl))]; exact c1
    have hdr : Below W0.heap.size W0 W0.drew := (Below.refl _ _).drew
    have hTr : ∀ u1 u2 u3 : World, Bar w.heap.size u1 u2 → Bar w.heap.size u2 u3 → Bar w.heap.size u1 u3 := fun _ _ _ h1 h2 => Bar.trans h1 h2
    have hGr : ∀ u1 u2 : World, Gr u1 u2 → Bar w.heap.size u1 u2 := fun _ _ h1 => Below.bar _ h1
    refine wp_region_V (fun u1 u2 => Bar w.heap.size u1 u2) (by kernel_rfl) ?_
    refine wpAnyV_takeS hTr hGr (A := ?A0) 0 rfl (by kernel_rfl) (by kernel_rfl) (by kernel_rfl) (fun _ _ _ _ h => h) ?q0 ?r0
    case q0 =>
      intro W hW
      try simp only [List.getElem_toArray, List.getElem_cons_zero, List.getElem_cons_succ]
      go_big_quiet_step (fail)
      refine wpQuiet_nil ?_
      rfl
    refine wpAnyV_takeS hTr hGr (A := ?A1) 1 rfl (by kernel_rfl) (by kernel_rfl) (by kernel_rfl) (fun _ _ _ _ h => h) ?q1 ?r1
    case q1 =>
      intro W hW
      have xa := (xA.bar (Bar.trans (Bar.drew (Bar.refl w.heap.size W0)) hW) (by omega)); have xc := xa.cell; have xl := xa.lt
      try simp only [List.getElem_toArray, List.getElem_cons_zero, List.getElem_cons_succ]
      go_big_quiet_step (fail)
      refine wpQuiet_nil ?_
      rfl
    refine wpAnyV_takeS hTr hGr (A := ?A2) 2 rfl (by kernel_rfl) (by kernel_rfl) (by kernel_rfl) (fun _ _ _ _ h => h) ?q2 ?r2
    case q2 =>
      intro W hW
      try simp only [List.getElem_toArray, List.getElem_cons_zero, List.getElem_cons_succ]
      go_big_quiet_step ((first | (go_at_call 33; with_reducible exact GW.call (cI _))))
      refine wpQuiet_nil ?_
      rfl
    refine wpAnyV_takeS hTr hGr (A := ?A3) 3 rfl (by kernel_rfl) (by kernel_rfl) (by kernel_rfl) (fun _ _ _ _ h => h) ?q3 ?r3
    case q3 =>
      intro W hW
      try simp only [List.getElem_toArray, List.getElem_cons_zero, List.getElem_cons_succ]
      go_big_quiet_step (fail)
      refine wpQuiet_nil ?_
      rfl
    refine wpAnyV_takeS hTr hGr (A := ?A4) 4 rfl (by kernel_rfl) (by kernel_rfl) (by kernel_rfl) (fun _ _ _ _ h => h) ?q4 ?r4
    case q4 =>
      intro W hW
      try simp only [List.getElem_toArray, List.getElem_cons_zero, List.getElem_cons_succ]
      go_big_quiet_step (fail)
      refine wpQuiet_nil ?_
      rfl
    refine wpAnyV_takeS hTr hGr (A := ?A5) 5 rfl (by kernel_rfl) (by kernel_rfl) (by kernel_rfl) (fun _ _ _ _ h => h) ?q5 ?r5
    case q5 =>
      intro W hW
      have d1 := hC W (Bar.trans (Bar.drew (Bar.refl w.heap.size W0)) hW); have d2 : b' < W.heap.size := Nat.lt_of_lt_of_le hbl (Nat.le_trans hW0.size hW.size)
      try simp only [List.getElem_toArray, List.getElem_cons_zero, List.getElem_cons_succ]
      go_big_quiet_step (fail)
      refine wpQuiet_nil ?_
      rfl
    refine wpAnyV_takeS hTr hGr (A := ?A6) 6 rfl (by kernel_rfl) (by kernel_rfl) (by kernel_rfl) (fun _ _ _ _ h => h) ?q6 ?r6
    case q6 =>
      intro W hW
      try simp only [List.getElem_toArray, List.getElem_cons_zero, List.getElem_cons_succ]
      go_big_quiet_step (fail)
      refine wpQuiet_nil ?_
      rfl
    have xc := xD.cell; have xl := xD.lt; have xf := xD.free
    refine wpAnyV_one 7 (by kernel_rfl) ?_
    intro W hW
    obtain ⟨X, rfl⟩ := GW.of (bl_trans hdr hW)
    refine wpOp_step rfl (fun K hK => ?_)
    go_simp
    refine hK _ _ ⟨Bar5 _ _ _ _ _ _ _, ?_⟩
    clear hK K
    try simp only [Act.put, List.getElem_toArray, List.getElem_cons_zero, List.getElem_cons_succ, List.setIfInBounds_toArray, List.set_cons_zero, List.set_cons_succ]
    clear hdr xc xl xf
    refine wpAnyV_takeS hTr hGr (A := ?A8) 8 rfl (by kernel_rfl) (by kernel_rfl) (by kernel_rfl) (fun _ _ _ _ h => h) ?q8 ?r8
    case q8 =>
      intro W hW
      try simp only [List.getElem_toArray, List.getElem_cons_zero, List.getElem_cons_succ]
      go_big_quiet_step (fail)
      refine wpQuiet_nil ?_
      rfl
    refine wpAnyV_done (by kernel_rfl) ?_ _
    intro W hW
    obtain ⟨Y, rfl⟩ := GW.of hW
    clear hW
    go_wp2_with fail
    have xE := Box.gw (X := Y) (set5 (Box.gw (X := X) xD) _ _ _ _ _)
    have xl := xE.lt
    refine ret_row_tmp (n := 5) rfl rfl Tryd.underlying24 rfl (by kernel_rfl) rfl ⟨_, by simp (maxDischargeDepth := 6) [go_sem, Box.row xE, xl] <;> rfl, rfl, ?_⟩
    exact ⟨coI (max 0 a2), ret_two (by rw [decide_eq_true hx0, Bool.and_true]; rfl), fun _ => rfl, bl_trans (Bar.to_below (bl_trans hW0 X.grow) (Bar5 _ _ _ _ _ _ _) (Nat.le_refl _)) Y.grow⟩
  · go_wp2_with fail
    refine ret_row_tmp (n := 5) rfl rfl Tryd.underlying24 rfl (by kernel_rfl) rfl ⟨_, by simp (maxDischargeDepth := 6) [go_sem] <;> rfl, rfl, ?_⟩
    exact ⟨coZ, ret_two (by rw [decide_eq_false (Int.not_le.2 hx0)]; simp), fun h => absurd hx0 (by omega), (by repeat (first | with_reducible exact Below.refl _ _ | with_reducible assumption | with_reducible exact GW.grow _ | with_reducible refine bl_alloc ?_ _ | with_reducible refine Below.drew ?_ | (with_reducible refine Below.setCell ?_ ?_ _; rotate_left; focus (simp; first | done | omega)) | with_reducible refine bl_trans ?_ (GW.grow _) | (with_reducible refine bl_trans ?_ (by assumption))))⟩
/-- A group of 5 numbers. -/
def Ext5 (a1 a2 a3 a4 : Int) (w : World) (e : Ending) (w' : World) : Prop := ∃ c : Co, e = .returned (.tuple #[.agg c.a, .bool (decide (a1 = 2) && (decide (a2 ≤ 255) && decide (a3 ≤ 255) && decide (a4 ≤ 255)))]) ∧ (a1 = 2 ∧ a2 ≤ 255 ∧ a3 ≤ 255 ∧ a4 ≤ 255 → c = coT (max 0 a2) (max 0 a3) (max 0 a4)) ∧ Below w.heap.size w w'
set_option maxHeartbeats 4000000 in
set_option maxRecDepth 100000 in
theorem ext_5 (v : Value) (a0 a1 a2 a3 a4 : Int) (w : World) (h : Rd w .i64 v [a0, a1, a2, a3, a4]) : Calls Tryd.prog 46 #[v] w (Ext5 a1 a2 a3 a4 w) := by
  obtain ⟨b, off, cap, rfl, hbl, hlc, hcm, hc⟩ := cellsN h (by simp)
  have c1 := hc 1 (by simp)
  simp only [List.getD_cons_succ, List.getD_cons_zero] at c1
  have HP : Hid ((([a0, a1, a2, a3, a4] : List Int).take 5).drop 2 = [a2, a3, a4]) := Lib.hid rfl
  clear hc
  have cI := fun W => true_any (max 0 a2) (max 0 a3) (max 0 a4) W
  go_enter Tryd.func46, Tryd.ntmps46
  go_wp2_with (first | (refine wpList_part rfl 28 .i64 Tryd.underlying28 Tryd.sizeOf3 (.tmp 16) (some (.const (.int .i64 2))) none rfl _ cap [a0, a1, a2, a3, a4] rfl (h.below (bl_alloc (bl_alloc (Below.refl _ _) _) _)) 2 5 (.inr rfl) (.inl ⟨rfl, rfl⟩) (by omega) (by simp) ?_; intro v' hv' hvb'; rw [HP.out] at hv'; obtain ⟨b', off', cap', hve', hbl', hlc', hcm', hc'⟩ := cellsN hv' (by simp); subst hve'; have hbb : b' = b := (by simpa [Value.ownBlock] using hvb'); subst hbb; have hbn : b' ≠ w.heap.size + 1 := (by omega); have hbn0 : b' ≠ w.heap.size := (by omega); have d0 := ((bl_alloc (bl_alloc (Below.refl _ _) _) _ : Below w.heap.size w _).cell (p := ⟨b', off' + 0, none⟩) hbl).symm.trans (hc' 0 (by simp)); have d1 := ((bl_alloc (bl_alloc (Below.refl _ _) _) _ : Below w.heap.size w _).cell (p := ⟨b', off' + 1, none⟩) hbl).symm.trans (hc' 1 (by simp)); have d2 := ((bl_alloc (bl_alloc (Below.refl _ _) _) _ : Below w.heap.size w _).cell (p := ⟨b', off' + 2, none⟩) hbl).symm.trans (hc' 2 (by simp)); simp only [List.getD_cons_succ, List.getD_cons_zero, Nat.add_zero] at d0 d1 d2; clear hc' hv'))
  clear h
  refine wp_loop_rounds 4 ?_
  rw [rounds_succ]
  by_cases hx0 : a2 ≤ 255
  · go_wp2_with fail
    rw [rounds_succ]
    by_cases hx1 : a3 ≤ 255
    · go_wp2_with fail
      rw [rounds_succ]
      by_cases hx2 : a4 ≤ 255
      · go_wp2_with fail
        rw [rounds_succ]
        go_wp2_with fail
        refine wp_name (fun Z => Below w.heap.size w Z ∧ Box Z w.heap.size coZ.a 24 ∧ Box Z (w.heap.size + 1) #[.int .u8 (max 0 a2), .int .u8 (max 0 a3), .int .u8 (max 0 a4)] 80) ⟨(by repeat (first | with_reducible exact Below.refl _ _ | with_reducible assumption | with_reducible exact GW.grow _ | with_reducible refine bl_alloc ?_ _ | with_reducible refine Below.drew ?_ | (with_reducible refine Below.setCell ?_ ?_ _; rotate_left; focus (simp; first | done | omega)) | with_reducible refine bl_trans ?_ (GW.grow _) | (with_reducible refine bl_trans ?_ (by assumption)))), (by first | with_reducible assumption | (apply Box.as; (focus (repeat (first | with_reducible assumption | (with_reducible apply Box.new; simp; done) | with_reducible apply Box.gw | with_reducible apply Box.drew | with_reducible apply Box.alloc | with_reducible apply Box.set | (with_reducible apply Box.set_other; case hg => omega)))); rfl)), (by first | with_reducible assumption | (apply Box.as; (focus (repeat (first | with_reducible assumption | (with_reducible apply Box.new; simp; done) | with_reducible apply Box.gw | with_reducible apply Box.drew | with_reducible apply Box.alloc | with_reducible apply Box.set | (with_reducible apply Box.set_other; case hg => omega)))); rfl))⟩ ?_
        rintro W0 ⟨hW0, xD, xA⟩
        have hC : ∀ W : World, Bar w.heap.size W0 W → W.cell? ⟨b', off + 1, none⟩ = some (.int .i64 a1) := fun W hW => by
          rw [World.cell?_of_block ((hW.block b' (by omega) (Nat.lt_of_lt_of_le hbl hW0.size)).trans (hW0.block b' hbl))]; exact c1
        have hdr : Below W0.heap.size W0 W0.drew := (Below.refl _ _).drew
        have hTr : ∀ u1 u2 u3 : World, Bar w.heap.size u1 u2 → Bar w.heap.size u2 u3 → Bar w.heap.size u1 u3 := fun _ _ _ h1 h2 => Bar.trans h1 h2
        have hGr : ∀ u1 u2 : World, Gr u1 u2 → Bar w.heap.size u1 u2 := fun _ _ h1 => Below.bar _ h1
        refine wp_region_V (fun u1 u2 => Bar w.heap.size u1 u2) (by kernel_rfl) ?_
        refine wpAnyV_takeS hTr hGr (A := ?A0) 0 rfl (by kernel_rfl) (by kernel_rfl) (by kernel_rfl) (fun _ _ _ _ h => h) ?q0 ?r0
        case q0 =>
          intro W hW
          try simp only [List.getElem_toArray, List.getElem_cons_zero, List.getElem_cons_succ]
          go_big_quiet_step (fail)
          refine wpQuiet_nil ?_
          rfl
        refine wpAnyV_takeS hTr hGr (A := ?A1) 1 rfl (by kernel_rfl) (by kernel_rfl) (by kernel_rfl) (fun _ _ _ _ h => h) ?q1 ?r1
        case q1 =>
          intro W hW
          have xa := (xA.bar (Bar.trans (Bar.drew (Bar.refl w.heap.size W0)) hW) (by omega)); have xc := xa.cell; have xl := xa.lt
          try simp only [List.getElem_toArray, List.getElem_cons_zero, List.getElem_cons_succ]
          go_big_quiet_step (fail)
          refine wpQuiet_nil ?_
          rfl
        refine wpAnyV_takeS hTr hGr (A := ?A2) 2 rfl (by kernel_rfl) (by kernel_rfl) (by kernel_rfl) (fun _ _ _ _ h => h) ?q2 ?r2
        case q2 =>
          intro W hW
          try simp only [List.getElem_toArray, List.getElem_cons_zero, List.getElem_cons_succ]
          go_big_quiet_step (fail)
          refine wpQuiet_nil ?_
          rfl
        refine wpAnyV_takeS hTr hGr (A := ?A3) 3 rfl (by kernel_rfl) (by kernel_rfl) (by kernel_rfl) (fun _ _ _ _ h => h) ?q3 ?r3
        case q3 =>
          intro W hW
          have xa := (xA.bar (Bar.trans (Bar.drew (Bar.refl w.heap.size W0)) hW) (by omega)); have xc := xa.cell; have xl := xa.lt
          try simp only [List.getElem_toArray, List.getElem_cons_zero, List.getElem_cons_succ]
          go_big_quiet_step (fail)
          refine wpQuiet_nil ?_
          rfl
        refine wpAnyV_takeS hTr hGr (A := ?A4) 4 rfl (by kernel_rfl) (by kernel_rfl) (by kernel_rfl) (fun _ _ _ _ h => h) ?q4 ?r4
        case q4 =>
          intro W hW
          try simp only [List.getElem_toArray, List.getElem_cons_zero, List.getElem_cons_succ]
          go_big_quiet_step (fail)
          refine wpQuiet_nil ?_
          rfl
        refine wpAnyV_takeS hTr hGr (A := ?A5) 5 rfl (by kernel_rfl) (by kernel_rfl) (by kernel_rfl) (fun _ _ _ _ h => h) ?q5 ?r5
        case q5 =>
          intro W hW
          have xa := (xA.bar (Bar.trans (Bar.drew (Bar.refl w.heap.size W0)) hW) (by omega)); have xc := xa.cell; have xl := xa.lt
          try simp only [List.getElem_toArray, List.getElem_cons_zero, List.getElem_cons_succ]
          go_big_quiet_step (fail)
          refine wpQuiet_nil ?_
          rfl
        refine wpAnyV_takeS hTr hGr (A := ?A6) 6 rfl (by kernel_rfl) (by kernel_rfl) (by kernel_rfl) (fun _ _ _ _ h => h) ?q6 ?r6
        case q6 =>
          intro W hW
          try simp only [List.getElem_toArray, List.getElem_cons_zero, List.getElem_cons_succ]
          go_big_quiet_step ((first | (go_at_call 34; with_reducible exact GW.call (cI _))))
          refine wpQuiet_nil ?_
          rfl
        refine wpAnyV_takeS hTr hGr (A := ?A7) 7 rfl (by kernel_rfl) (by kernel_rfl) (by kernel_rfl) (fun _ _ _ _ h => h) ?q7 ?r7
        case q7 =>
          intro W hW
          try simp only [List.getElem_toArray, List.getElem_cons_zero, List.getElem_cons_succ]
          go_big_quiet_step (fail)
          refine wpQuiet_nil ?_
          rfl
        refine wpAnyV_takeS hTr hGr (A := ?A8) 8 rfl (by kernel_rfl) (by kernel_rfl) (by kernel_rfl) (fun _ _ _ _ h => h) ?q8 ?r8
        case q8 =>
          intro W hW
          try simp only [List.getElem_toArray, List.getElem_cons_zero, List.getElem_cons_succ]
          go_big_quiet_step (fail)
          refine wpQuiet_nil ?_
          rfl
        refine wpAnyV_takeS hTr hGr (A := ?A9) 9 rfl (by kernel_rfl) (by kernel_rfl) (by kernel_rfl) (fun _ _ _ _ h => h) ?q9 ?r9
        case q9 =>
          intro W hW
          have d1 := hC W (Bar.trans (Bar.drew (Bar.refl w.heap.size W0)) hW); have d2 : b' < W.heap.size := Nat.lt_of_lt_of_le hbl (Nat.le_trans hW0.size hW.size)
          try simp only [List.getElem_toArray, List.getElem_cons_zero, List.getElem_cons_succ]
          go_big_quiet_step (fail)
          refine wpQuiet_nil ?_
          rfl
        refine wpAnyV_takeS hTr hGr (A := ?A10) 10 rfl (by kernel_rfl) (by kernel_rfl) (by kernel_rfl) (fun _ _ _ _ h => h) ?q10 ?r10
        case q10 =>
          intro W hW
          try simp only [List.getElem_toArray, List.getElem_cons_zero, List.getElem_cons_succ]
          go_big_quiet_step (fail)
          refine wpQuiet_nil ?_
          rfl
        have xc := xD.cell; have xl := xD.lt; have xf := xD.free
        refine wpAnyV_one 11 (by kernel_rfl) ?_
        intro W hW
        obtain ⟨X, rfl⟩ := GW.of (bl_trans hdr hW)
        refine wpOp_step rfl (fun K hK => ?_)
        go_simp
        refine hK _ _ ⟨Bar5 _ _ _ _ _ _ _, ?_⟩
        clear hK K
        try simp only [Act.put, List.getElem_toArray, List.getElem_cons_zero, List.getElem_cons_succ, List.setIfInBounds_toArray, List.set_cons_zero, List.set_cons_succ]
        clear hdr xc xl xf
        refine wpAnyV_takeS hTr hGr (A := ?A12) 12 rfl (by kernel_rfl) (by kernel_rfl) (by kernel_rfl) (fun _ _ _ _ h => h) ?q12 ?r12
        case q12 =>
          intro W hW
          try simp only [List.getElem_toArray, List.getElem_cons_zero, List.getElem_cons_succ]
          go_big_quiet_step (fail)
          refine wpQuiet_nil ?_
          rfl
        refine wpAnyV_done (by kernel_rfl) ?_ _
        intro W hW
        obtain ⟨Y, rfl⟩ := GW.of hW
        clear hW
        go_wp2_with fail
        have xE := Box.gw (X := Y) (set5 (Box.gw (X := X) xD) _ _ _ _ _)
        have xl := xE.lt
        refine ret_row_tmp (n := 5) rfl rfl Tryd.underlying24 rfl (by kernel_rfl) rfl ⟨_, by simp (maxDischargeDepth := 6) [go_sem, Box.row xE, xl] <;> rfl, rfl, ?_⟩
        exact ⟨coT (max 0 a2) (max 0 a3) (max 0 a4), ret_two (by rw [decide_eq_true hx0, decide_eq_true hx1, decide_eq_true hx2, Bool.and_self, Bool.and_self, Bool.and_true]; rfl), fun _ => rfl, bl_trans (Bar.to_below (bl_trans hW0 X.grow) (Bar5 _ _ _ _ _ _ _) (Nat.le_refl _)) Y.grow⟩
      · go_wp2_with fail
        refine ret_row_tmp (n := 5) rfl rfl Tryd.underlying24 rfl (by kernel_rfl) rfl ⟨_, by simp (maxDischargeDepth := 6) [go_sem] <;> rfl, rfl, ?_⟩
        exact ⟨coZ, ret_two (by rw [decide_eq_false (Int.not_le.2 hx2)]; simp), fun h => absurd hx2 (by omega), (by repeat (first | with_reducible exact Below.refl _ _ | with_reducible assumption | with_reducible exact GW.grow _ | with_reducible refine bl_alloc ?_ _ | with_reducible refine Below.drew ?_ | (with_reducible refine Below.setCell ?_ ?_ _; rotate_left; focus (simp; first | done | omega)) | with_reducible refine bl_trans ?_ (GW.grow _) | (with_reducible refine bl_trans ?_ (by assumption))))⟩
    · go_wp2_with fail
      refine ret_row_tmp (n := 5) rfl rfl Tryd.underlying24 rfl (by kernel_rfl) rfl ⟨_, by simp (maxDischargeDepth := 6) [go_sem] <;> rfl, rfl, ?_⟩
      exact ⟨coZ, ret_two (by rw [decide_eq_false (Int.not_le.2 hx1)]; simp), fun h => absurd hx1 (by omega), (by repeat (first | with_reducible exact Below.refl _ _ | with_reducible assumption | with_reducible exact GW.grow _ | with_reducible refine bl_alloc ?_ _ | with_reducible refine Below.drew ?_ | (with_reducible refine Below.setCell ?_ ?_ _; rotate_left; focus (simp; first | done | omega)) | with_reducible refine bl_trans ?_ (GW.grow _) | (with_reducible refine bl_trans ?_ (by assumption))))⟩
  · go_wp2_with fail
    refine ret_row_tmp (n := 5) rfl rfl Tryd.underlying24 rfl (by kernel_rfl) rfl ⟨_, by simp (maxDischargeDepth := 6) [go_sem] <;> rfl, rfl, ?_⟩
    exact ⟨coZ, ret_two (by rw [decide_eq_false (Int.not_le.2 hx0)]; simp), fun h => absurd hx0 (by omega), (by repeat (first | with_reducible exact Below.refl _ _ | with_reducible assumption | with_reducible exact GW.grow _ | with_reducible refine bl_alloc ?_ _ | with_reducible refine Below.drew ?_ | (with_reducible refine Below.setCell ?_ ?_ _; rotate_left; focus (simp; first | done | omega)) | with_reducible refine bl_trans ?_ (GW.grow _) | (with_reducible refine bl_trans ?_ (by assumption))))⟩

end Go.Proofs.YtdoeiaekimbecaaDoor
