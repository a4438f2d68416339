/- MotionHolds returns true for every area, cursor and two numbers, and changes nothing that was there. No condition. -/
import Derived.Test.YtfcogdpkelcfbaaHolds
import Derived.DataShut
namespace Go.Proofs.Ytfcogdpkelcfbaa
open Go.ChangeShapes Go.WideShapes Go.ChangeAt Go.RowKit

set_option maxRecDepth 100000 in
set_option maxHeartbeats 4000000 in
theorem motionHolds_bigm (rows cols top bottom : Int) (o : Bool) (r c : Int) (p : Bool) (m n : Int) (w : World) (hm : 2000 < m) :
    Calls Try.prog 7 #[.agg #[.int .i64 rows, .int .i64 cols, .int .i64 top, .int .i64 bottom, .bool o], .agg #[.int .i64 r, .int .i64 c, .bool p], .int .u16 m, .int .u16 n] w fun e w' => e = .returned (.bool true) ∧ Below w.heap.size w w' := by
  go_enter Try.func7, Try.ntmps7
  go_wp2_with (go_at_call 12; refine (known_any _).mono ?_; rintro e w1 ⟨rfl, hb⟩; (first | obtain ⟨X, rfl⟩ := GW.of2 hb | obtain ⟨X, rfl⟩ := GW.of hb); clear hb)
  go_ret
  exact ⟨rfl, (by repeat (first | with_reducible exact Below.refl _ _ | with_reducible assumption | with_reducible exact GW.grow _ | with_reducible refine bl_alloc ?_ _ | with_reducible refine Below.drew ?_ | (with_reducible refine Below.setCell ?_ ?_ _; rotate_left; focus (simp; first | done | omega)) | with_reducible refine bl_trans ?_ (GW.grow _) | (with_reducible refine bl_trans ?_ (by assumption))))⟩

set_option maxRecDepth 100000 in
set_option maxHeartbeats 4000000 in
theorem motionHolds_bign (rows cols top bottom : Int) (o : Bool) (r c : Int) (p : Bool) (m n : Int) (w : World) (hm : m ≤ 2000) (hn : 2000 < n) :
    Calls Try.prog 7 #[.agg #[.int .i64 rows, .int .i64 cols, .int .i64 top, .int .i64 bottom, .bool o], .agg #[.int .i64 r, .int .i64 c, .bool p], .int .u16 m, .int .u16 n] w fun e w' => e = .returned (.bool true) ∧ Below w.heap.size w w' := by
  go_enter Try.func7, Try.ntmps7
  go_wp2_with (go_at_call 12; refine (known_any _).mono ?_; rintro e w1 ⟨rfl, hb⟩; (first | obtain ⟨X, rfl⟩ := GW.of2 hb | obtain ⟨X, rfl⟩ := GW.of hb); clear hb)
  go_ret
  exact ⟨rfl, (by repeat (first | with_reducible exact Below.refl _ _ | with_reducible assumption | with_reducible exact GW.grow _ | with_reducible refine bl_alloc ?_ _ | with_reducible refine Below.drew ?_ | (with_reducible refine Below.setCell ?_ ?_ _; rotate_left; focus (simp; first | done | omega)) | with_reducible refine bl_trans ?_ (GW.grow _) | (with_reducible refine bl_trans ?_ (by assumption))))⟩

set_option maxRecDepth 100000 in
set_option maxHeartbeats 4000000 in
theorem motionHolds_inv (rows cols top bottom : Int) (o : Bool) (r c : Int) (p : Bool) (m n : Int) (w : World) (hm : m ≤ 2000) (hn : n ≤ 2000) (hv : validB rows cols top bottom r c p = false) :
    Calls Try.prog 7 #[.agg #[.int .i64 rows, .int .i64 cols, .int .i64 top, .int .i64 bottom, .bool o], .agg #[.int .i64 r, .int .i64 c, .bool p], .int .u16 m, .int .u16 n] w fun e w' => e = .returned (.bool true) ∧ Below w.heap.size w w' := by
  go_enter Try.func7, Try.ntmps7
  go_wp2_with (first | (go_at_call 8; refine (valid_false _ _ _ _ _ _ _ _ _ hv).mono ?_; rintro e w1 ⟨rfl, hb⟩; (first | obtain ⟨X, rfl⟩ := GW.of2 hb | obtain ⟨X, rfl⟩ := GW.of hb); clear hb) | (go_at_call 12; refine (known_any _).mono ?_; rintro e w1 ⟨rfl, hb⟩; (first | obtain ⟨X, rfl⟩ := GW.of2 hb | obtain ⟨X, rfl⟩ := GW.of hb); clear hb))
  go_ret
  exact ⟨rfl, (by repeat (first | with_reducible exact Below.refl _ _ | with_reducible assumption | with_reducible exact GW.grow _ | with_reducible refine bl_alloc ?_ _ | with_reducible refine Below.drew ?_ | (with_reducible refine Below.setCell ?_ ?_ _; rotate_left; focus (simp; first | done | omega)) | with_reducible refine bl_trans ?_ (GW.grow _) | (with_reducible refine bl_trans ?_ (by assumption))))⟩

theorem motionHolds_any (rows cols top bottom : Int) (o : Bool) (r c : Int) (p : Bool) (m n : Int) (w : World) (hm : 0 ≤ m) (hn : 0 ≤ n) :
    Calls Try.prog 7 #[.agg #[.int .i64 rows, .int .i64 cols, .int .i64 top, .int .i64 bottom, .bool o], .agg #[.int .i64 r, .int .i64 c, .bool p], .int .u16 m, .int .u16 n] w fun e w' => e = .returned (.bool true) ∧ Below w.heap.size w w' := by
  by_cases h1 : m ≤ 2000
  · by_cases h2 : n ≤ 2000
    · cases hv : validB rows cols top bottom r c p
      · exact motionHolds_inv rows cols top bottom o r c p m n w h1 h2 hv
      · exact motionHolds_some rows cols top bottom o r c p m n w hv ⟨hm, h1⟩ ⟨hn, h2⟩
    · exact motionHolds_bign rows cols top bottom o r c p m n w h1 (by omega)
  · exact motionHolds_bigm rows cols top bottom o r c p m n w (by omega)

theorem wf_u16 {n : Int} (h : (Lit.int .u16 n).wf = true) : 0 ≤ n := by
  have h1 := ((Lit.wf_int_iff _ _).1 h).1
  have h2 : IntKind.u16.min = 0 := rfl
  omega

set_option maxRecDepth 100000 in
theorem motionHolds_lifted (os : Os) (started : os.Started) (H : Type) (enc : TypeId × Value → H) :
    ReturnsInHanded {} Try.checked os 7 .any (Rows.motionHoldsSpec.pre6 enc Try.prog Try.f7 Rows.motionHoldsRow.domain false) (Rows.motionHoldsSpec.post enc Try.prog Try.f7 false true false false) := by
  refine returnsInHanded_of_change (C := Try.checked) Try.own started (by kernel_rfl) Try.func7
    (ChangeSpec.witness6 (enc := enc) (C := Try.checked) false ⟨#[], #[.agg #[.int .i64 0, .int .i64 0, .int .i64 0, .int .i64 0, .bool false], .agg #[.int .i64 0, .int .i64 0, .bool false], .int .u16 0, .int .u16 0], []⟩ 8 (by kernel_rfl) (by kernel_rfl) (by kernel_rfl) (by kernel_rfl)) ?_
  intro W base args ds gs before hval0 hW hcnd _
  have hval : ∀ (j : Nat) t v, Try.f7.params[j]? = some t → args[j]? = some v → Value.okWide Try.prog W .any base t v := hval0
  have hW' := hW
  obtain ⟨p, q, hA0, hV, rfl, hfz, hnd⟩ := hW
  have hA : DataW.TrodAll enc Try.prog W 0 (fun _ => true) true Try.f7.params.toList args.toList ds p := hA0
  rw [Try.params7] at hA hval
  obtain ⟨v0, v1, v2, v3, d0, d1, d2, d3, p0, p1, p2, p3, rfl, rfl, rfl, h0, h1, h2, h3⟩ := trodAll_four hA
  obtain ⟨rfl, rfl⟩ := trodVars_none hV
  obtain ⟨rows, cols, top, bottom, o, rfl⟩ := open_area (hval 0 _ v0 rfl rfl) h0
  obtain ⟨r, c, pe, rfl⟩ := open_cursor (hval 1 _ v1 rfl rfl) h1
  obtain ⟨m, rfl, rfl, rfl, wm⟩ := open_int Try.underlying49 (hval 2 _ v2 rfl rfl) h2
  obtain ⟨n, rfl, rfl, rfl, wn⟩ := open_int Try.underlying49 (hval 3 _ v3 rfl rfl) h3
  clear hA0 hval0
  refine (motionHolds_any rows cols top bottom o r c pe m n W (wf_u16 wm) (wf_u16 wn)).mono fun e W' ⟨he, hw⟩ => ?_
  exact ⟨_, he, post_law Try.laidOut rfl hW' (by kernel_rfl) rfl Try.underlying4 rfl hw⟩

theorem motionHolds_holds : Rows.MotionHoldsSaid :=
  OpenClaim.holds_of_wide 7 Try.f7 rfl rfl rfl rfl rfl rfl rfl ⟨rfl, rfl, rfl, rfl, rfl⟩ rfl rfl rfl rfl rfl (by kernel_rfl) Try.func7 (by kernel_rfl)
    (of_decide_eq_true (by kernel_rfl)) (by unfold Func.isWrapper; rw [if_neg (of_decide_eq_false (by kernel_rfl))]; exact ⟨rfl, rfl⟩)
    (fun os started H enc _ => motionHolds_lifted os started H enc)

end Go.Proofs.Ytfcogdpkelcfbaa
