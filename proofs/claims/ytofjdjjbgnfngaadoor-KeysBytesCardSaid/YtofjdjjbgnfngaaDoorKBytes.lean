/- keys: KeysBytes returns true for every input. No condition. -/
import Derived.Test.YtofjdjjbgnfngaaDoorQ
import Derived.Test.YtofjdjjbgnfngaaDoorG
import Derived.Test.YtofjdjjbgnfngaaDoorCards
import Derived.Test.YtofjdjjbgnfngaaDoorTie
import Derived.SevenTiedAt
import Derived.Outline
set_option linter.unusedSimpArgs false
set_option linter.unusedVariables false
set_option linter.unnecessarySimpa false
namespace Go.Proofs.YtofjdjjbgnfngaaDoor
open Go.ChangeShapes Go.WideShapes Go.ChangeAt Go.RowKit

set_option maxHeartbeats 8000000 in
set_option maxRecDepth 100000 in
theorem keysBytes_any (code rune : Int) (sh al ct : Bool) (app nl bk : Bool) (w : World) (hg : Gl w) (hr : -2147483648 ≤ rune ∧ rune ≤ 2147483647) : Calls Tryd.prog 3 #[.agg #[.int .i64 code, .int .i32 rune, .bool sh, .bool al, .bool ct], .agg #[.bool app, .bool nl, .bool bk]] w fun e w' => e = .returned (.bool true) ∧ Below w.heap.size w w' := by
  have hB : Gl ((w.alloc (.cells #[.int .i64 code, .int .i32 rune, .bool sh, .bool al, .bool ct] 24)).alloc (.cells #[.bool app, .bool nl, .bool bk] 26)) := hg.below (bl_alloc (bl_alloc (Below.refl _ _) _) _)
  have cV := fun W => valid_any code rune sh al ct W
  have cR := fun W => rvalid_any code rune sh al ct W
  cases hv : validK code rune
  · rw [hv] at cV cR
    have c1 := fun W => sends_no code rune sh al ct app nl bk W hv
    have c2 := fun W => names_no code rune sh al ct W hv
    go_enter Tryd.func3, Tryd.ntmps3
    go_wp2_with fail
    first | refine wp_grow2 (by kernel_rfl) (by kernel_rfl) ?_ | refine wp_grow (by kernel_rfl) (by kernel_rfl) ?_
    repeat (go_big_quiet_step (first | (go_at_call 8; with_reducible exact GW.call (cV _)) | (go_at_call 9; with_reducible exact GW.call (cR _))))
    refine wpQuiet_nil ?_
    rintro _ ⟨X, rfl⟩
    go_wp2_with (first | (go_at_call 9; (with_reducible refine (cR _).mono ?_); rintro e w1 ⟨rfl, hb⟩; (first | obtain ⟨X, rfl⟩ := GW.of2 hb | obtain ⟨X, rfl⟩ := GW.of hb); clear hb) | (go_at_call 10; (with_reducible refine (c1 _).mono ?_); rintro e w1 ⟨rfl, hb⟩; (first | obtain ⟨X, rfl⟩ := GW.of2 hb | obtain ⟨X, rfl⟩ := GW.of hb); clear hb) | (go_at_call 11; (with_reducible refine (c2 _).mono ?_); rintro e w1 ⟨rfl, hb⟩; (first | obtain ⟨X, rfl⟩ := GW.of2 hb | obtain ⟨X, rfl⟩ := GW.of hb); clear hb) | (go_at_call 12; (with_reducible refine (known_any _ (hB.below (GW.grow _))).mono ?_); rintro e w1 ⟨rfl, hb⟩; (first | obtain ⟨X, rfl⟩ := GW.of2 hb | obtain ⟨X, rfl⟩ := GW.of hb); clear hb))
    go_ret
    exact ⟨rfl, (by repeat (first | with_reducible exact Below.refl _ _ | with_reducible assumption | with_reducible exact GW.grow _ | with_reducible refine bl_alloc ?_ _ | with_reducible refine Below.drew ?_ | (with_reducible refine Below.setCell ?_ ?_ _; rotate_left; focus (simp; first | done | omega)) | with_reducible refine bl_trans ?_ (GW.grow _) | (with_reducible refine bl_trans ?_ (by assumption))))⟩
  · rw [hv] at cV cR
    have cb := fun W => rbytes_any code rune sh al ct app nl bk W hv
    have c4 := fun W (hg : Gl W) => names_ok code rune sh al ct W hg.t hr hv
    have c5 := fun W => rname_any code rune sh al ct W hv
    have c6 := fun W (hg : Gl W) => named_ok code rune sh al ct W hg hv
    unfold RBytesE at cb
    cases hi : bytesI code rune sh ct nl bk
    · have c1 := fun W (hg : Gl W) => sends_none code rune sh al ct app nl bk W hg.t hr hv hi
      simp only [hi, Bool.false_eq_true, if_false] at cb
      generalize nameS code rune sh al ct = nm at *
      go_enter Tryd.func3, Tryd.ntmps3
      go_wp2_with fail
      first | refine wp_grow2 (by kernel_rfl) (by kernel_rfl) ?_ | refine wp_grow (by kernel_rfl) (by kernel_rfl) ?_
      repeat (go_big_quiet_step (first | (go_at_call 8; with_reducible exact GW.call (cV _)) | (go_at_call 9; with_reducible exact GW.call (cR _))))
      refine wpQuiet_nil ?_
      rintro _ ⟨X, rfl⟩
      go_wp2_with (first | (go_at_call 9; (with_reducible refine (cR _).mono ?_); rintro e w1 ⟨rfl, hb⟩; (first | obtain ⟨X, rfl⟩ := GW.of2 hb | obtain ⟨X, rfl⟩ := GW.of hb); clear hb) | (go_at_call 13; (with_reducible refine (cb _).mono ?_); rintro e w1 ⟨rfl, hb⟩; (first | obtain ⟨X, rfl⟩ := GW.of2 hb | obtain ⟨X, rfl⟩ := GW.of hb); clear hb) | (go_at_call 10; (with_reducible refine (c1 _ (hB.below (GW.grow _))).mono ?_); rintro e w1 ⟨rfl, hb⟩; (first | obtain ⟨X, rfl⟩ := GW.of2 hb | obtain ⟨X, rfl⟩ := GW.of hb); clear hb))
      first | refine wp_grow2 (by kernel_rfl) (by kernel_rfl) ?_ | refine wp_grow (by kernel_rfl) (by kernel_rfl) ?_
      repeat (go_big_quiet_step (first | (go_at_call 14; with_reducible exact GW.call (c5 _)) | (go_at_call 11; with_reducible exact GW.call (c4 _ (hB.below (GW.grow _)))) | (go_at_call 15; with_reducible exact GW.call (c6 _ (hB.below (GW.grow _)))) | (go_at_call 12; with_reducible exact GW.call (known_any _ (hB.below (GW.grow _))))))
      refine wpQuiet_nil ?_
      rintro _ ⟨X, rfl⟩
      go_wp2_with fail
      go_ret
      exact ⟨rfl, (by repeat (first | with_reducible exact Below.refl _ _ | with_reducible assumption | with_reducible exact GW.grow _ | with_reducible refine bl_alloc ?_ _ | with_reducible refine Below.drew ?_ | (with_reducible refine Below.setCell ?_ ?_ _; rotate_left; focus (simp; first | done | omega)) | with_reducible refine bl_trans ?_ (GW.grow _) | (with_reducible refine bl_trans ?_ (by assumption))))⟩
    · have c1 := fun W (hg : Gl W) => sends_ok code rune sh al ct app nl bk W hg.t hr hv hi
      simp only [hi, if_true] at cb
      generalize bytesS code rune sh al ct app nl bk = bs at *
      generalize nameS code rune sh al ct = nm at *
      go_enter Tryd.func3, Tryd.ntmps3
      go_wp2_with fail
      first | refine wp_grow2 (by kernel_rfl) (by kernel_rfl) ?_ | refine wp_grow (by kernel_rfl) (by kernel_rfl) ?_
      repeat (go_big_quiet_step (first | (go_at_call 8; with_reducible exact GW.call (cV _)) | (go_at_call 9; with_reducible exact GW.call (cR _))))
      refine wpQuiet_nil ?_
      rintro _ ⟨X, rfl⟩
      go_wp2_with (first | (go_at_call 9; (with_reducible refine (cR _).mono ?_); rintro e w1 ⟨rfl, hb⟩; (first | obtain ⟨X, rfl⟩ := GW.of2 hb | obtain ⟨X, rfl⟩ := GW.of hb); clear hb) | (go_at_call 13; (with_reducible refine (cb _).mono ?_); rintro e w1 ⟨rfl, hb⟩; (first | obtain ⟨X, rfl⟩ := GW.of2 hb | obtain ⟨X, rfl⟩ := GW.of hb); clear hb) | (go_at_call 10; (with_reducible refine (c1 _ (hB.below (GW.grow _))).mono ?_); rintro e w1 ⟨rfl, hb⟩; (first | obtain ⟨X, rfl⟩ := GW.of2 hb | obtain ⟨X, rfl⟩ := GW.of hb); clear hb))
      first | refine wp_grow2 (by kernel_rfl) (by kernel_rfl) ?_ | refine wp_grow (by kernel_rfl) (by kernel_rfl) ?_
      repeat (go_big_quiet_step (first | (go_at_call 14; with_reducible exact GW.call (c5 _)) | (go_at_call 11; with_reducible exact GW.call (c4 _ (hB.below (GW.grow _)))) | (go_at_call 15; with_reducible exact GW.call (c6 _ (hB.below (GW.grow _)))) | (go_at_call 12; with_reducible exact GW.call (known_any _ (hB.below (GW.grow _))))))
      refine wpQuiet_nil ?_
      rintro _ ⟨X, rfl⟩
      go_wp2_with fail
      go_ret
      exact ⟨rfl, (by repeat (first | with_reducible exact Below.refl _ _ | with_reducible assumption | with_reducible exact GW.grow _ | with_reducible refine bl_alloc ?_ _ | with_reducible refine Below.drew ?_ | (with_reducible refine Below.setCell ?_ ?_ _; rotate_left; focus (simp; first | done | omega)) | with_reducible refine bl_trans ?_ (GW.grow _) | (with_reducible refine bl_trans ?_ (by assumption))))⟩

set_option maxRecDepth 100000 in
theorem keysBytes_lifted (os : Os) (started : os.Started) (H : Type) (enc : TypeId × Value → H) :
    ReturnsInHanded {} Tryd.checked os 3 .any (fun w args => (Rows.keysBytesSpec.pre enc Tryd.prog Tryd.f3 [] false w args ∧ laidMetH Tryd.prog laid5 w) ∧ sizedMet enc Tryd.prog Tryd.f3 (OpenSpec.ofChange Rows.keysBytesSpec) false w args)
      (Rows.keysBytesSpec.post enc Tryd.prog Tryd.f3 false true false false) := by
  refine returnsInHanded_of_change_and (C := Tryd.checked) (X := fun w _ => laidMetH Tryd.prog laid5 w) (fun _ _ _ hh h => h.of_heap hh) Tryd.own started (by kernel_rfl) Tryd.func3
    (ChangeSpec.witness_shaped (enc := enc) (C := Tryd.checked) (os := os) (X := fun w _ => laidMetH Tryd.prog laid5 w) false (World.laidAll Tryd.prog os laid5) #[.agg #[.int .i64 0, .int .i32 0, .bool false, .bool false, .bool false], .agg #[.bool false, .bool false, .bool false]] 8 (World.laidAll_os _ _ _) (World.shaped_of_ZipB (by kernel_rfl) (by kernel_rfl)) (by kernel_rfl) (by kernel_rfl) (by kernel_rfl) (door_met os _)) ?_
  intro W base args ds gs before hval0 hW _ _ hL _
  have hval : ∀ (j : Nat) t v, Tryd.f3.params[j]? = some t → args[j]? = some v → Value.okWide Tryd.prog W .any base t v := hval0
  have hW' := hW
  obtain ⟨p, q, hA0, hV, rfl, hfz, hnd⟩ := hW
  have hA : DataW.TrodAll enc Tryd.prog W 0 (fun _ => true) true Tryd.f3.params.toList args.toList ds p := hA0
  rw [Tryd.params3] at hA hval
  obtain ⟨v0, v1, d0, d1, p0, p1, rfl, rfl, rfl, h0, h1⟩ := trodAll_two hA
  obtain ⟨rfl, rfl⟩ := trodVars_none hV
  obtain ⟨code, rune, sh, al, ct, rfl, hw⟩ := open_key (hval 0 24 v0 rfl rfl) h0
  obtain ⟨app, nl, bk, rfl⟩ := open_input (hval 1 26 v1 rfl rfl) h1
  clear hA0 hval0
  have hT := gl_of_laid hL
  refine (keysBytes_any code rune sh al ct app nl bk W hT (wf_i32 hw)).mono fun e W' ⟨he, hw⟩ => ?_
  exact ⟨_, he, post_law Tryd.laidOut rfl hW' (by kernel_rfl) rfl Tryd.underlying4 rfl hw⟩

theorem keysBytes_row : Rows.KeysBytesSaid :=
  OpenClaim.holds_of_wide 3 Tryd.f3 rfl rfl rfl rfl rfl rfl rfl ⟨rfl, rfl, rfl, rfl, rfl⟩ rfl rfl rfl rfl rfl (by kernel_rfl) Tryd.func3 (by kernel_rfl)
    (of_decide_eq_true (by kernel_rfl)) (by unfold Func.isWrapper; first | (rw [if_pos (by decide +kernel)]; kernel_rfl) | (rw [if_neg (by decide +kernel)]; exact ⟨rfl, rfl⟩))
    (fun os started H enc _ => keysBytes_lifted os started H enc)

set_option maxHeartbeats 8000000 in
set_option maxRecDepth 100000 in
/-- THE TIED CARD. -/
theorem keysBytes_holds : Rows.KeysBytesCardSaid :=
  Claim7.holds_tied_plain_at .later [] [.data, .data, .data, .data, .pinned] true (true, "890afae7ed2c885f344a8cf78685aad67095242f2643ec5516ae53b0677103bb") false
    keysBytes_row (fun _ h => by cases h) (by kernel_rfl) (fun _ h => by cases h) keysBytes_row_tie rfl ⟨rfl, rfl⟩ (by kernel_rfl) rfl
    (fun f fn hf hfn => by
      obtain rfl : f = 3 := Option.some.inj ((show Tryd.prog.funcNamed "scrollback/scrollbacklaw49.KeysBytes" = some 3 by kernel_rfl).symm.trans hf) |>.symm
      obtain rfl : fn = Tryd.f3 := (Option.some.inj (Tryd.func3.symm.trans hfn)).symm
      exact ⟨by kernel_rfl, fun j t ht => by
        rw [Tryd.params3] at ht
        have hm : t ∈ [24, 26] := by simpa using Array.mem_of_getElem? ht
        have hall : ([24, 26].all fun u => !Tryd.prog.wantsStandIn u) = true := by kernel_rfl
        exact (show Tryd.prog.wantsStandIn t = false by simpa using List.all_eq_true.1 hall t hm)⟩)
    (by kernel_rfl)

end Go.Proofs.YtofjdjjbgnfngaaDoor
