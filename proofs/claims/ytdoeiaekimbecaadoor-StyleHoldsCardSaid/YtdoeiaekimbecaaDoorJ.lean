/- style: Codes, Between. Printed by mk_j.py. -/
import Derived.Test.YtdoeiaekimbecaaDoorI
import Derived.Outline
set_option linter.unusedSimpArgs false
set_option linter.unusedVariables false
set_option linter.unnecessarySimpa false
namespace Go.Proofs.YtdoeiaekimbecaaDoor
open Go.RowKit

def pnZ : Pn := ⟨coZ, coZ, 0⟩
theorem wfZ : wfP pnZ := by unfold wfP wfC pnZ coZ; simp
def codesN (p : Pn) : List Int := [0] ++ chgN pnZ p
theorem codesN_len (p : Pn) : (codesN p).length ≤ 20 := by
  have := chgN_len pnZ p
  unfold codesN; simp only [List.length_append, List.length_cons, List.length_nil]; omega
def betweenN (a b : Pn) : List Int := if (codesN b).length < (chgN a b).length then codesN b else chgN a b
set_option maxHeartbeats 2000000 in
theorem codes_no (p : Pn) (w : World) (hv : validP p = false) : Calls Tryd.prog 14 #[.agg p.a] w fun e w' => e = .returned (.slice none 0 0) ∧ Below w.heap.size w w' := by
  have cV := fun W => valid_any p W
  rw [hv] at cV
  go_enter Tryd.func14, Tryd.ntmps14
  go_wp2_with (first | (go_at_call 9; (with_reducible refine (cV _).mono ?_); rintro e w1 ⟨rfl, hb⟩; (first | obtain ⟨X, rfl⟩ := GW.of2 hb | obtain ⟨X, rfl⟩ := GW.of hb); clear hb))
  go_ret
  exact ⟨rfl, (by repeat (first | with_reducible exact Below.refl _ _ | with_reducible assumption | with_reducible exact GW.grow _ | with_reducible refine bl_alloc ?_ _ | with_reducible refine Below.drew ?_ | (with_reducible refine Below.setCell ?_ ?_ _; rotate_left; focus (simp; first | done | omega)) | with_reducible refine bl_trans ?_ (GW.grow _) | (with_reducible refine bl_trans ?_ (by assumption))))⟩
set_option maxHeartbeats 2000000 in
set_option maxRecDepth 100000 in
theorem codes_ok (p : Pn) (w : World) (hm : Mk w) (hp : wfP p) (hv : validP p = true) : Calls Tryd.prog 14 #[.agg p.a] w (RetOwn w 3 .i64 (codesN p)) := by
  have cV := fun W => valid_any p W
  rw [hv] at cV
  have cC : ∀ W, Below w.heap.size w W → Calls Tryd.prog 24 #[.agg #[.int .i64 0, .int .u8 0, .int .u8 0, .int .u8 0, .int .u8 0, .int .i64 0, .int .u8 0, .int .u8 0, .int .u8 0, .int .u8 0, .int .u8 0], .agg p.a] W (fun e w' => RetOwn W 3 .i64 (chgN pnZ p) e w') := fun W hW => changes_any pnZ p W (hm.below hW) wfZ hp
  have HQ := Lib.hid (show codesN p = [0] ++ chgN pnZ p from rfl)
  have hl := chgN_len pnZ p
  generalize codesN p = q at *
  generalize chgN pnZ p = ch at *
  go_enter Tryd.func14, Tryd.ntmps14
  go_wp2_with (first | (go_at_call 9; (with_reducible refine (cV _).mono ?_); rintro e w1 ⟨rfl, hb⟩; (first | obtain ⟨X, rfl⟩ := GW.of2 hb | obtain ⟨X, rfl⟩ := GW.of hb); clear hb) | (go_at_call 24; (with_reducible refine (cC _ ?hbel).mono ?_); rotate_left; rintro e w2 ⟨v2, rfl, ho2, hb2⟩; have hs0 : w.heap.size ≤ X.world.heap.size := Nat.le_trans (by simp) X.grow.size; have hs2 : w.heap.size ≤ w2.heap.size := Nat.le_trans (Nat.le_trans hs0 (by simp)) hb2.size; have hown0 : Own w2 w.heap.size 3 .i64 (.slice (some ⟨X.world.heap.size, 0, none⟩) 1 1) [0] := (Own.lit1 _ _ _ _ w.heap.size _ rfl hs0).kept hb2) | (at_builtin; refine wpList_app rfl _ _ 28 3 .i64 8 rfl Tryd.underlying28 elI w.heap.size _ _ ([0]) ch (hown0) ho2.rd rfl rfl (by simp only [maxLen, List.length_append, List.length_cons, List.length_nil]; omega) (by simp only [List.length_append, List.length_cons, List.length_nil]; omega) hs2 ?_; intro v3 w3 hown' hb3 hgr))
  go_ret
  exact ⟨_, rfl, (by rw [HQ.out]; exact hown'), Below.trans (bl_trans (by repeat (first | with_reducible exact Below.refl _ _ | with_reducible assumption | with_reducible exact GW.grow _ | with_reducible refine bl_alloc ?_ _ | with_reducible refine Below.drewN ?_ _ | with_reducible refine Below.drew ?_ | (with_reducible refine Below.setCell ?_ ?_ _; rotate_left; focus (simp; first | done | omega)) | with_reducible refine bl_trans ?_ (GW.grow _) | (with_reducible refine bl_trans ?_ (by assumption)))) hb2) hb3⟩
  case hbel => exact (by repeat (first | with_reducible exact Below.refl _ _ | with_reducible assumption | with_reducible exact GW.grow _ | with_reducible refine bl_alloc ?_ _ | with_reducible refine Below.drewN ?_ _ | with_reducible refine Below.drew ?_ | (with_reducible refine Below.setCell ?_ ?_ _; rotate_left; focus (simp; first | done | omega)) | with_reducible refine bl_trans ?_ (GW.grow _) | (with_reducible refine bl_trans ?_ (by assumption))))
set_option maxHeartbeats 2000000 in
theorem between_no (a b : Pn) (w : World) (hv : validP a = false ∨ validP b = false) : Calls Tryd.prog 16 #[.agg a.a, .agg b.a] w fun e w' => e = .returned (.slice none 0 0) ∧ Below w.heap.size w w' := by
  have cV := fun W => valid_any a W
  have cB := fun W => valid_any b W
  cases ha : validP a
  · rw [ha] at cV
    clear cB hv
    go_enter Tryd.func16, Tryd.ntmps16
    go_wp2_with (first | (go_at_call 9; (with_reducible refine (cV _).mono ?_); rintro e w1 ⟨rfl, hb⟩; (first | obtain ⟨X, rfl⟩ := GW.of2 hb | obtain ⟨X, rfl⟩ := GW.of hb); clear hb))
    go_ret
    exact ⟨rfl, (by repeat (first | with_reducible exact Below.refl _ _ | with_reducible assumption | with_reducible exact GW.grow _ | with_reducible refine bl_alloc ?_ _ | with_reducible refine Below.drew ?_ | (with_reducible refine Below.setCell ?_ ?_ _; rotate_left; focus (simp; first | done | omega)) | with_reducible refine bl_trans ?_ (GW.grow _) | (with_reducible refine bl_trans ?_ (by assumption))))⟩
  · rw [ha] at cV
    have hb : validP b = false := hv.resolve_left (by simp [ha])
    rw [hb] at cB
    have ya : Box ((w.alloc (.cells a.a 27)).alloc (.cells b.a 27)) (w.heap.size + 1) b.a 27 := Box.new _ _ _ (by simp)
    go_enter Tryd.func16, Tryd.ntmps16
    go_wp2_with (first | (go_at_call 9; (with_reducible refine (cV _).mono ?_); rintro e w1 ⟨rfl, hbx⟩; obtain ⟨X, rfl⟩ := GW.of hbx; clear hbx cV; have yb := Box.gw (X := X) ya; have ybc := yb.cell; have ybl := yb.lt) | (go_at_call 9; (with_reducible refine (cB _).mono ?_); rintro e w2 ⟨rfl, hb⟩; (first | obtain ⟨Y, rfl⟩ := GW.of2 hb | obtain ⟨Y, rfl⟩ := GW.of hb); clear hb))
    go_ret
    exact ⟨rfl, (by repeat (first | with_reducible exact Below.refl _ _ | with_reducible assumption | with_reducible exact GW.grow _ | with_reducible refine bl_alloc ?_ _ | with_reducible refine Below.drew ?_ | (with_reducible refine Below.setCell ?_ ?_ _; rotate_left; focus (simp; first | done | omega)) | with_reducible refine bl_trans ?_ (GW.grow _) | (with_reducible refine bl_trans ?_ (by assumption))))⟩
set_option maxHeartbeats 4000000 in
set_option maxRecDepth 100000 in
theorem between_ok (a b : Pn) (w : World) (hm : Mk w) (ha : wfP a) (hb : wfP b) (hva : validP a = true) (hvb : validP b = true) : Calls Tryd.prog 16 #[.agg a.a, .agg b.a] w (RetOwn w 3 .i64 (betweenN a b)) := by
  have cV := fun W => valid_any a W
  rw [hva] at cV
  have cB := fun W => valid_any b W
  rw [hvb] at cB
  have cH : ∀ W, Below w.heap.size w W → Calls Tryd.prog 24 #[.agg a.a, .agg b.a] W (fun e w' => RetOwn W 3 .i64 (chgN a b) e w') := fun W hW => changes_any a b W (hm.below hW) ha hb
  have cC : ∀ W, Below w.heap.size w W → Calls Tryd.prog 14 #[.agg b.a] W (fun e w' => RetOwn W 3 .i64 (codesN b) e w') := fun W hW => codes_ok b W (hm.below hW) hb hvb
  have HQ := Lib.hid (show betweenN a b = if (codesN b).length < (chgN a b).length then codesN b else chgN a b from rfl)
  generalize betweenN a b = q at *
  generalize chgN a b = ch at *
  generalize codesN b = co at *
  clear ha hb hva hvb hm
  have ya : Box ((w.alloc (.cells a.a 27)).alloc (.cells b.a 27)) (w.heap.size + 1) b.a 27 := Box.new _ _ _ (by simp)
  have yp : Box ((w.alloc (.cells a.a 27)).alloc (.cells b.a 27)) w.heap.size a.a 27 := Box.alloc (Box.new _ _ _ rfl) _
  have h0 : Below w.heap.size w ((w.alloc (.cells a.a 27)).alloc (.cells b.a 27)) := bl_alloc (bl_alloc (Below.refl _ _) _) _
  go_enter Tryd.func16, Tryd.ntmps16
  go_wp2_with (first | (go_at_call 9; (with_reducible refine (cV _).mono ?_); rintro e w1 ⟨rfl, hb1⟩; have yb := Box.past hb1 ya; have yq := Box.past hb1 yp; have ybc := yb.cell; have ybl := yb.lt; have yqc := yq.cell; have yql := yq.lt; have h1 := bl_trans h0 hb1; clear cV) | (go_at_call 9; (with_reducible refine (cB _).mono ?_); rintro e w2 ⟨rfl, hb2⟩; clear ybc ybl yqc yql; have yb := Box.past hb2 yb; have yq := Box.past hb2 yq; have ybc := yb.cell; have ybl := yb.lt; have yqc := yq.cell; have yql := yq.lt; have h2 := bl_trans h1 hb2) | (go_at_call 24; (with_reducible refine (cH _ h2).mono ?_); rintro e w3 ⟨v3, rfl, ho3, hb3⟩; clear ybc ybl yqc yql; have yb := Box.past hb3 yb; have ybc := yb.cell; have ybl := yb.lt; have h3 := bl_trans h2 hb3) | (go_at_call 14; (with_reducible refine (cC _ h3).mono ?_); rintro e w4 ⟨v4, rfl, ho4, hb4⟩; have h4 := bl_trans h3 hb4; have ho3 := ho3.kept hb4; obtain ⟨p3, c3, hv3, hx3⟩ := ho3.rd; obtain ⟨p4, c4, hv4, hx4⟩ := ho4.rd; subst hv3 hv4; clear hx3 hx4; by_cases hlt : co.length < ch.length))
  · go_ret
    exact ⟨_, rfl, (by rw [HQ.out, if_pos hlt]; exact ho4.weaken h3.size), h4⟩
  · go_ret
    exact ⟨_, rfl, (by rw [HQ.out, if_neg hlt]; exact ho3.weaken h2.size), h4⟩

end Go.Proofs.YtdoeiaekimbecaaDoor
