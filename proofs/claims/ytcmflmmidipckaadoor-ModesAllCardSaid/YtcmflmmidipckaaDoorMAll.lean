/- modes: ModesAll returns true for every input. No condition. -/
import Derived.Test.YtcmflmmidipckaaDoorQ
import Derived.Test.YtcmflmmidipckaaDoorCards
import Derived.Test.YtcmflmmidipckaaDoorTie
import Derived.SevenTiedAt
import Derived.ChangeMaps5
import Derived.Outline
set_option linter.unusedSimpArgs false
set_option linter.unusedVariables false
set_option linter.unnecessarySimpa false
namespace Go.Proofs.YtcmflmmidipckaaDoor
open Go.ChangeShapes Go.WideShapes Go.ChangeAt Go.RowKit

def prefL : List Int := [0, 63, 62, 60, 61, -1]
def numL : List Int := [-1, 0, 1, 2, 3, 4, 5, 6, 7, 8, 9, 24, 25, 26, 46, 47, 48, 999, 1000, 1001, 1002, 1003, 1004, 1005, 1006, 1007, 1046, 1047, 1048, 1049, 1050, 2003, 2004, 2005, 9999]
def onL : List Bool := [true, false]
def prefC : Array Value := #[.int .i32 0, .int .i32 63, .int .i32 62, .int .i32 60, .int .i32 61, .int .i32 (-1)]
def numC : Array Value := #[.int .i64 (-1), .int .i64 0, .int .i64 1, .int .i64 2, .int .i64 3, .int .i64 4, .int .i64 5, .int .i64 6, .int .i64 7, .int .i64 8, .int .i64 9, .int .i64 24, .int .i64 25, .int .i64 26, .int .i64 46, .int .i64 47, .int .i64 48, .int .i64 999, .int .i64 1000, .int .i64 1001, .int .i64 1002, .int .i64 1003, .int .i64 1004, .int .i64 1005, .int .i64 1006, .int .i64 1007, .int .i64 1046, .int .i64 1047, .int .i64 1048, .int .i64 1049, .int .i64 1050, .int .i64 2003, .int .i64 2004, .int .i64 2005, .int .i64 9999]
def onC : Array Value := #[.bool true, .bool false]
theorem pref_at (k : Nat) (h : k < 6) : prefC[k]? = some (.int .i32 (prefL.getD k 0)) := by
  match k, h with
  | 0, _ => rfl
  | 1, _ => rfl
  | 2, _ => rfl
  | 3, _ => rfl
  | 4, _ => rfl
  | 5, _ => rfl
theorem num_at (k : Nat) (h : k < 35) : numC[k]? = some (.int .i64 (numL.getD k 0)) := by
  have e : numC = (numL.map (Value.int .i64)).toArray := rfl
  have hl : k < numL.length := h
  rw [e]
  simp [List.getElem?_eq_getElem hl, List.getD_eq_getElem?_getD]
theorem on_at (k : Nat) (h : k < 2) : onC[k]? = some (.bool (onL.getD k false)) := by
  match k, h with
  | 0, _ => rfl
  | 1, _ => rfl
set_option maxHeartbeats 4000000 in
set_option maxRecDepth 100000 in
theorem modesAll_any (m : Md) (w : World) (h : Gl w) : Calls Tryd.prog 6 #[.agg #[.bool m.aw, .bool m.ori, .bool m.ins, .bool m.vis, .bool m.app, .bool m.pas, .bool m.sgr, .int .i64 m.ptr, .int .i64 m.alt]] w fun e w' => e = .returned (.bool true) ∧ Below w.heap.size w w' := by
  have hB := h.below (bl_alloc (Below.refl _ w) (.cells #[.bool m.aw, .bool m.ori, .bool m.ins, .bool m.vis, .bool m.app, .bool m.pas, .bool m.sgr, .int .i64 m.ptr, .int .i64 m.alt] 23))
  have cV := fun W => rvalid_any m W
  cases hv : validM m
  · rw [hv] at cV
    go_enter Tryd.func6, Tryd.ntmps6
    go_wp2_with (first | (go_at_call 11; (with_reducible refine (cV _).mono ?_); rintro e w1 ⟨rfl, hb⟩; (first | obtain ⟨X, rfl⟩ := GW.of2 hb | obtain ⟨X, rfl⟩ := GW.of hb); clear hb) | (go_at_call 14; (with_reducible refine (known_any _ (hB.below (GW.grow _))).mono ?_); rintro e w1 ⟨rfl, hb⟩; (first | obtain ⟨X, rfl⟩ := GW.of2 hb | obtain ⟨X, rfl⟩ := GW.of hb); clear hb))
    go_ret
    exact ⟨rfl, (by repeat (first | with_reducible exact Below.refl _ _ | with_reducible assumption | with_reducible exact GW.grow _ | with_reducible refine bl_alloc ?_ _ | with_reducible refine Below.drew ?_ | (with_reducible refine Below.setCell ?_ ?_ _; rotate_left; focus (simp; first | done | omega)) | with_reducible refine bl_trans ?_ (GW.grow _) | (with_reducible refine bl_trans ?_ (by assumption))))⟩
  · rw [hv] at cV
    clear hB
    go_enter Tryd.func6, Tryd.ntmps6
    go_wp2_with (first | (go_at_call 11; (with_reducible refine (cV _).mono ?_); rintro e w1 ⟨rfl, hb⟩; have hl1 : Below w.heap.size w w1 := bl_trans (bl_alloc (Below.refl _ _) _) hb; have hm1 : Box w1 w.heap.size _ _ := (hb.block w.heap.size (by simp)).trans (Box.new w #[.bool m.aw, .bool m.ori, .bool m.ins, .bool m.vis, .bool m.app, .bool m.pas, .bool m.sgr, .int .i64 m.ptr, .int .i64 m.alt] 23 rfl); clear hb))
    have hl2 : Below w.heap.size w (w1.alloc (.cells #[.int .i32 0, .int .i32 63, .int .i32 62, .int .i32 60, .int .i32 61, .int .i32 (-1)] 21)) := bl_alloc hl1 _
    have hm2 : Box (w1.alloc (.cells #[.int .i32 0, .int .i32 63, .int .i32 62, .int .i32 60, .int .i32 61, .int .i32 (-1)] 21)) w.heap.size _ _ := hm1.alloc _
    have hp2 : Box (w1.alloc (.cells #[.int .i32 0, .int .i32 63, .int .i32 62, .int .i32 60, .int .i32 61, .int .i32 (-1)] 21)) w1.heap.size prefC 21 := Box.new w1 _ _ rfl
    obtain ⟨b1, hb1⟩ : ∃ b1, w1.heap.size = b1 := ⟨_, rfl⟩
    generalize w1.alloc (.cells #[.int .i32 0, .int .i32 63, .int .i32 62, .int .i32 60, .int .i32 61, .int .i32 (-1)] 21) = W2 at *
    rw [hb1] at hp2 ⊢
    clear hb1
    have hG2 := h.below hl2
    go_loopw [15] (fun i wr => ∃ (k : Nat), k ≤ 6 ∧ i = .int .i64 k ∧ Below W2.heap.size W2 wr) (fun i _ => 6 - (intOf i).toNat)
    case atStart => exact ⟨0, by omega, rfl, Below.refl _ _⟩
    case round =>
      obtain ⟨k, hk, rfl, hbel⟩ := hrel
      obtain ⟨wo, hwo⟩ : ∃ wo : World, wo = wr := ⟨_, rfl⟩
      rw [← hwo] at hbel ⊢
      clear hwo
      have hm3 := (hbel.block _ hm2.lt).trans hm2
      have hp3 := (hbel.block _ hp2.lt).trans hp2
      have hG3 := hG2.below hbel
      by_cases hlt : k < 6
      · have d1 : wo.cell? ⟨b1, k, none⟩ = some (.int .i32 (prefL.getD k 0)) := by
          have := Box.cell hp3 k
          rw [this]; exact pref_at k hlt
        have y1 : b1 < wo.heap.size := Box.lt hp3
        generalize prefL.getD k 0 = p at *
        have r1 : (0 : Int) ≤ (k : Int) := by omega
        have r2 : (k : Int) < 6 := by omega
        go_wp2_with fail
        have hl4 : Below wo.heap.size wo (wo.alloc (.cells #[.int .i64 (-1), .int .i64 0, .int .i64 1, .int .i64 2, .int .i64 3, .int .i64 4, .int .i64 5, .int .i64 6, .int .i64 7, .int .i64 8, .int .i64 9, .int .i64 24, .int .i64 25, .int .i64 26, .int .i64 46, .int .i64 47, .int .i64 48, .int .i64 999, .int .i64 1000, .int .i64 1001, .int .i64 1002, .int .i64 1003, .int .i64 1004, .int .i64 1005, .int .i64 1006, .int .i64 1007, .int .i64 1046, .int .i64 1047, .int .i64 1048, .int .i64 1049, .int .i64 1050, .int .i64 2003, .int .i64 2004, .int .i64 2005, .int .i64 9999] 3)) := bl_alloc (Below.refl _ _) _
        have hm4 : Box (wo.alloc (.cells #[.int .i64 (-1), .int .i64 0, .int .i64 1, .int .i64 2, .int .i64 3, .int .i64 4, .int .i64 5, .int .i64 6, .int .i64 7, .int .i64 8, .int .i64 9, .int .i64 24, .int .i64 25, .int .i64 26, .int .i64 46, .int .i64 47, .int .i64 48, .int .i64 999, .int .i64 1000, .int .i64 1001, .int .i64 1002, .int .i64 1003, .int .i64 1004, .int .i64 1005, .int .i64 1006, .int .i64 1007, .int .i64 1046, .int .i64 1047, .int .i64 1048, .int .i64 1049, .int .i64 1050, .int .i64 2003, .int .i64 2004, .int .i64 2005, .int .i64 9999] 3)) w.heap.size _ _ := Box.alloc hm3 _
        have hn4 : Box (wo.alloc (.cells #[.int .i64 (-1), .int .i64 0, .int .i64 1, .int .i64 2, .int .i64 3, .int .i64 4, .int .i64 5, .int .i64 6, .int .i64 7, .int .i64 8, .int .i64 9, .int .i64 24, .int .i64 25, .int .i64 26, .int .i64 46, .int .i64 47, .int .i64 48, .int .i64 999, .int .i64 1000, .int .i64 1001, .int .i64 1002, .int .i64 1003, .int .i64 1004, .int .i64 1005, .int .i64 1006, .int .i64 1007, .int .i64 1046, .int .i64 1047, .int .i64 1048, .int .i64 1049, .int .i64 1050, .int .i64 2003, .int .i64 2004, .int .i64 2005, .int .i64 9999] 3)) wo.heap.size numC 3 := Box.new wo _ _ rfl
        obtain ⟨b2, hb2⟩ : ∃ b2, wo.heap.size = b2 := ⟨_, rfl⟩
        generalize wo.alloc (.cells #[.int .i64 (-1), .int .i64 0, .int .i64 1, .int .i64 2, .int .i64 3, .int .i64 4, .int .i64 5, .int .i64 6, .int .i64 7, .int .i64 8, .int .i64 9, .int .i64 24, .int .i64 25, .int .i64 26, .int .i64 46, .int .i64 47, .int .i64 48, .int .i64 999, .int .i64 1000, .int .i64 1001, .int .i64 1002, .int .i64 1003, .int .i64 1004, .int .i64 1005, .int .i64 1006, .int .i64 1007, .int .i64 1046, .int .i64 1047, .int .i64 1048, .int .i64 1049, .int .i64 1050, .int .i64 2003, .int .i64 2004, .int .i64 2005, .int .i64 9999] 3) = W4 at *
        rw [hb2] at hn4 ⊢
        clear hb2 d1
        have hG4 := hG3.below hl4
        go_loopw [21] (fun i wr => ∃ (k : Nat), k ≤ 35 ∧ i = .int .i64 k ∧ Below W4.heap.size W4 wr) (fun i _ => 35 - (intOf i).toNat)
        case atStart => exact ⟨0, by omega, rfl, Below.refl _ _⟩
        case round =>
          obtain ⟨k2, hk2, rfl, hbel2⟩ := hrel
          obtain ⟨wm, hwm⟩ : ∃ wm : World, wm = wr := ⟨_, rfl⟩
          rw [← hwm] at hbel2 ⊢
          clear hwm
          have hm5 := (hbel2.block _ hm4.lt).trans hm4
          have hn5 := (hbel2.block _ hn4.lt).trans hn4
          have hG5 := hG4.below hbel2
          by_cases hlt2 : k2 < 35
          · have d2 : wm.cell? ⟨b2, k2, none⟩ = some (.int .i64 (numL.getD k2 0)) := by
              have := Box.cell hn5 k2
              rw [this]; exact num_at k2 hlt2
            have y2 : b2 < wm.heap.size := Box.lt hn5
            generalize numL.getD k2 0 = n at *
            have s1 : (0 : Int) ≤ (k2 : Int) := by omega
            have s2 : (k2 : Int) < 35 := by omega
            go_wp2_with fail
            have hl6 : Below wm.heap.size wm (wm.alloc (.cells #[.bool true, .bool false] 4)) := bl_alloc (Below.refl _ _) _
            have hm6 : Box (wm.alloc (.cells #[.bool true, .bool false] 4)) w.heap.size _ _ := Box.alloc hm5 _
            have ho6 : Box (wm.alloc (.cells #[.bool true, .bool false] 4)) wm.heap.size onC 4 := Box.new wm _ _ rfl
            obtain ⟨b3, hb3⟩ : ∃ b3, wm.heap.size = b3 := ⟨_, rfl⟩
            generalize wm.alloc (.cells #[.bool true, .bool false] 4) = W6 at *
            rw [hb3] at ho6 ⊢
            clear hb3 d2
            have hG6 := hG5.below hl6
            go_loopw [27] (fun i wr => ∃ (k : Nat), k ≤ 2 ∧ i = .int .i64 k ∧ Below W6.heap.size W6 wr) (fun i _ => 2 - (intOf i).toNat)
            case atStart => exact ⟨0, by omega, rfl, Below.refl _ _⟩
            case round =>
              obtain ⟨k3, hk3, rfl, hbel3⟩ := hrel
              have hm7 : Box wr w.heap.size _ _ := (hbel3.block _ hm6.lt).trans hm6
              have ho7 := (hbel3.block _ ho6.lt).trans ho6
              have hG7 := hG6.below hbel3
              by_cases hlt3 : k3 < 2
              · have d3 : wr.cell? ⟨b3, k3, none⟩ = some (.bool (onL.getD k3 false)) := by
                  have := Box.cell ho7 k3
                  rw [this]; exact on_at k3 hlt3
                have y3 : b3 < wr.heap.size := Box.lt ho7
                generalize onL.getD k3 false = on at *
                have u1 : (0 : Int) ≤ (k3 : Int) := by omega
                have u2 : (k3 : Int) < 2 := by omega
                have hcm := hm7.cell
                have hlm := hm7.lt
                have cI := fun W => is_any p n W
                have t4 : getE m = 0 := by unfold getE; rw [hv]; rfl
                cases hmm : isM p n
                · rw [hmm] at cI
                  have t1 : setR m p n on = zeroM := by unfold setR; rw [hv, hmm]; rfl
                  have t2 : setE m p n = 9 := by unfold setE; rw [hv, hmm]; rfl
                  have t3 : getR m p n = 0 := by unfold getR; rw [hv, hmm]; rfl
                  have cA : ∀ W, Glob W → Calls Tryd.prog 12 #[.agg #[.bool m.aw, .bool m.ori, .bool m.ins, .bool m.vis, .bool m.app, .bool m.pas, .bool m.sgr, .int .i64 m.ptr, .int .i64 m.alt], .int .i32 p, .int .i64 n, .bool on, .agg #[.bool false, .bool false, .bool false, .bool false, .bool false, .bool false, .bool false, .int .i64 0, .int .i64 0], .int .i64 9] W fun e w' => e = .returned (.bool true) ∧ Below W.heap.size W w' := fun W hg => sets_t m p n on zeroM 9 W hg t1 t2
                  go_wp2_with (first | (go_at_call 15; (with_reducible refine (cI _).mono ?_); rintro e w1 ⟨rfl, hb⟩; (first | obtain ⟨X, rfl⟩ := GW.of2 hb | obtain ⟨X, rfl⟩ := GW.of hb); clear hb) | (go_at_call 12; (with_reducible refine (cA _ (hG7.below (GW.grow _)).g).mono ?_); rintro e w1 ⟨rfl, hb⟩; (first | obtain ⟨X, rfl⟩ := GW.of2 hb | obtain ⟨X, rfl⟩ := GW.of hb); clear hb) | (go_at_call 13; (with_reducible refine (gets_t m p n 0 0 _ (hG7.below (GW.grow _)).g t3 t4).mono ?_); rintro e w1 ⟨rfl, hb⟩; (first | obtain ⟨X, rfl⟩ := GW.of2 hb | obtain ⟨X, rfl⟩ := GW.of hb); clear hb))
                  go_roundw
                  case rel => exact ⟨k3 + 1, by omega, by go_num, bl_trans hbel3 X.grow⟩
                  case measure => simp [intOf]; omega
                · rw [hmm] at cI
                  have t1 : setR m p n on = setM m n on := by unfold setR; rw [hv, hmm]; rfl
                  have t2 : setE m p n = 0 := by unfold setE; rw [hv, hmm]; rfl
                  have cS := fun W => rset_any m n on W
                  obtain ⟨r, hr⟩ : ∃ r, setM m n on = r := ⟨_, rfl⟩
                  rw [hr] at t1 cS
                  clear hr
                  go_wp2_with (first | (go_at_call 15; (with_reducible refine (cI _).mono ?_); rintro e w1 ⟨rfl, hb⟩; (first | obtain ⟨X, rfl⟩ := GW.of2 hb | obtain ⟨X, rfl⟩ := GW.of hb); clear hb))
                  first | refine wp_grow2 (by kernel_rfl) (by kernel_rfl) ?_ | refine wp_grow (by kernel_rfl) (by kernel_rfl) ?_
                  repeat (go_big_quiet_step (first | (go_at_call 17; exact GW.call (cS _)) | (go_at_call 12; exact GW.call (sets_t m p n on r 0 _ (hG7.below (GW.grow _)).g t1 t2))))
                  refine wpQuiet_nil ?_
                  rintro _ ⟨X, rfl⟩
                  go_wp2_with fail
                  go_roundw
                  case rel => exact ⟨k3 + 1, by omega, by go_num, bl_trans hbel3 X.grow⟩
                  case measure => simp [intOf]; omega
              · go_wp2_with fail
                go_roundw
                case rel => exact ⟨k2 + 1, by omega, by go_num, bl_trans hbel2 (bl_trans hl6 hbel3)⟩
                case measure => simp [intOf]; omega
          · go_wp2_with fail
            go_roundw
            case rel => exact ⟨k + 1, by omega, by go_num, bl_trans hbel (bl_trans hl4 hbel2)⟩
            case measure => simp [intOf]; omega
      · go_wp2_with (first | (go_at_call 14; (with_reducible refine (known_any _ hG3).mono ?_); rintro e w1 ⟨rfl, hb⟩))
        go_ret
        exact ⟨rfl, bl_trans hl2 (bl_trans hbel hb)⟩

set_option maxRecDepth 100000 in
theorem modesAll_lifted (os : Os) (started : os.Started) (H : Type) (enc : TypeId × Value → H) :
    ReturnsInHanded {} Tryd.checked os 6 .any (fun w args => (Rows.modesAllSpec.pre enc Tryd.prog Tryd.f6 [] false w args ∧ laidMetH Tryd.prog laid6 w) ∧ sizedMet enc Tryd.prog Tryd.f6 (OpenSpec.ofChange Rows.modesAllSpec) false w args)
      (Rows.modesAllSpec.post enc Tryd.prog Tryd.f6 false true false false) := by
  refine returnsInHanded_of_change_and (C := Tryd.checked) (X := fun w _ => laidMetH Tryd.prog laid6 w) (fun _ _ _ hh h => h.of_heap hh) Tryd.own started (by kernel_rfl) Tryd.func6
    (ChangeSpec.witness_shaped (enc := enc) (C := Tryd.checked) (os := os) (X := fun w _ => laidMetH Tryd.prog laid6 w) false (World.doorLaid Tryd.prog 400 os) #[.agg #[.bool false, .bool false, .bool false, .bool false, .bool false, .bool false, .bool false, .int .i64 0, .int .i64 0]] 8 rfl (World.shaped_of_RefB (by kernel_rfl) (by kernel_rfl)) (by kernel_rfl) (by kernel_rfl) (by kernel_rfl) (door_met os _)) ?_
  intro W base args ds gs before hval0 hW _ _ hL _
  have hval : ∀ (j : Nat) t v, Tryd.f6.params[j]? = some t → args[j]? = some v → Value.okWide Tryd.prog W .any base t v := hval0
  have hW' := hW
  obtain ⟨p, q, hA0, hV, rfl, hfz, hnd⟩ := hW
  have hA : DataW.TrodAll enc Tryd.prog W 0 (fun _ => true) true Tryd.f6.params.toList args.toList ds p := hA0
  rw [Tryd.params6] at hA hval
  obtain ⟨v0, d0, rfl, rfl, h0⟩ := trodAll_one hA
  obtain ⟨rfl, rfl⟩ := trodVars_none hV
  obtain ⟨m, rfl⟩ := open_modes (hval 0 23 v0 rfl rfl) h0
  clear hA0 hval0
  have hT := gl_of_laid hL
  refine (modesAll_any m W hT).mono fun e W' ⟨he, hw⟩ => ?_
  exact ⟨_, he, post_law Tryd.laidOut rfl hW' (by kernel_rfl) rfl Tryd.underlying4 rfl hw⟩

theorem modesAll_row : Rows.ModesAllSaid :=
  OpenClaim.holds_of_wide 6 Tryd.f6 rfl rfl rfl rfl rfl rfl rfl ⟨rfl, rfl, rfl, rfl, rfl⟩ rfl rfl rfl rfl rfl (by kernel_rfl) Tryd.func6 (by kernel_rfl)
    (of_decide_eq_true (by kernel_rfl)) (by unfold Func.isWrapper; first | (rw [if_pos (by decide +kernel)]; kernel_rfl) | (rw [if_neg (by decide +kernel)]; exact ⟨rfl, rfl⟩))
    (fun os started H enc _ => modesAll_lifted os started H enc)

set_option maxHeartbeats 8000000 in
set_option maxRecDepth 100000 in
/-- THE TIED CARD. -/
theorem modesAll_holds : Rows.ModesAllCardSaid :=
  Claim7.holds_tied_plain_at .later [] [.data, .data, .data, .widerDeep, .widerDeep, .data] true (true, "082af3f8aacec7cf6ea860407a8f5c1359f35139287309ad6771865f650f040d") false
    modesAll_row (fun _ h => by cases h) (by kernel_rfl) (fun _ h => by cases h) modesAll_row_tie rfl ⟨rfl, rfl⟩ (by kernel_rfl) rfl
    (fun f fn hf hfn => by
      obtain rfl : f = 6 := Option.some.inj ((show Tryd.prog.funcNamed "scrollback/scrollbacklaw22.ModesAll" = some 6 by kernel_rfl).symm.trans hf) |>.symm
      obtain rfl : fn = Tryd.f6 := (Option.some.inj (Tryd.func6.symm.trans hfn)).symm
      exact ⟨by kernel_rfl, fun j t ht => by
        rw [Tryd.params6] at ht
        have hm : t ∈ [23] := by simpa using Array.mem_of_getElem? ht
        have hall : ([23].all fun u => !Tryd.prog.wantsStandIn u) = true := by kernel_rfl
        exact (show Tryd.prog.wantsStandIn t = false by simpa using List.all_eq_true.1 hall t hm)⟩)
    (by kernel_rfl)

end Go.Proofs.YtcmflmmidipckaaDoor
