/- keys: KeysRunes returns true for every input. No condition. -/
import Derived.Test.YtofjdjjbgnfngaaDoorQ
import Derived.Test.YtofjdjjbgnfngaaDoorG
import Derived.Test.YtofjdjjbgnfngaaDoorCards
import Derived.Test.YtofjdjjbgnfngaaDoorTie
import Derived.SevenTiedAt
import Derived.Deep.CutBlock
import Derived.Deep.DeepCutAuto
import Derived.Outline
set_option linter.unusedSimpArgs false
set_option linter.unusedVariables false
set_option linter.unnecessarySimpa false
namespace Go.Proofs.YtofjdjjbgnfngaaDoor
open Go.ChangeShapes Go.WideShapes Go.ChangeAt Go.RowKit

set_option maxHeartbeats 8000000 in
set_option maxRecDepth 100000 in
theorem keysRunes_any (code rune : Int) (w : World) (hg : Gl w) (hc : 0 ≤ code ∧ code < 256) (hr : -2147483648 ≤ rune ∧ rune ≤ 2147483647) : Calls Tryd.prog 4 #[.int .u8 code, .int .i32 rune] w fun e w' => e = .returned (.bool true) ∧ Below w.heap.size w w' := by
  go_enter Tryd.func4, Tryd.ntmps4
  go_wp2_with fail
  go_loopw [5] (fun i wr => ∃ k : Nat, k ≤ 64 ∧ i = .int .i64 k ∧ Below w.heap.size w wr) (fun i _ => 64 - (intOf i).toNat)
  case atStart => exact ⟨0, by omega, rfl, Below.refl _ _⟩
  case round =>
    obtain ⟨k, hk, rfl, hbel⟩ := hrel
    by_cases hlt : k < 64
    · have r1 : (0 : Int) ≤ (k : Int) := by omega
      have r2 : (k : Int) < 64 := by omega
      go_upto_region 6 with fail
      obtain ⟨sh, hsh⟩ : ∃ q, ((k : Int) % 2 == 1) = q := ⟨_, rfl⟩
      obtain ⟨al, hal⟩ : ∃ q, ((k : Int) / 2 % 2 == 1) = q := ⟨_, rfl⟩
      obtain ⟨ct, hct⟩ : ∃ q, ((k : Int) / 4 % 2 == 1) = q := ⟨_, rfl⟩
      obtain ⟨app, happ⟩ : ∃ q, ((k : Int) / 8 % 2 == 1) = q := ⟨_, rfl⟩
      obtain ⟨nl, hnl⟩ : ∃ q, ((k : Int) / 16 % 2 == 1) = q := ⟨_, rfl⟩
      obtain ⟨bk, hbk⟩ : ∃ q, ((k : Int) / 32 == 1) = q := ⟨_, rfl⟩
      rw [hsh, hal, hct, happ, hnl, hbk]
      clear hsh hal hct happ hnl hbk
      have hbW : Below w.heap.size w ((wr.alloc (.cells #[.int .i64 code, .int .i32 rune, .bool sh, .bool al, .bool ct] 24)).alloc (.cells #[.bool app, .bool nl, .bool bk] 26)) := bl_alloc (bl_alloc hbel _) _
      have hB : Gl ((wr.alloc (.cells #[.int .i64 code, .int .i32 rune, .bool sh, .bool al, .bool ct] 24)).alloc (.cells #[.bool app, .bool nl, .bool bk] 26)) := hg.below hbW
      have cR := fun W => rvalid_any code rune sh al ct W
      cases hv : validK code rune
      · rw [hv] at cR
        have c1 := fun W => sends_no code rune sh al ct app nl bk W hv
        go_wp2_with (first | (go_at_call 9; (with_reducible refine (cR _).mono ?_); rintro e w1 ⟨rfl, hb⟩; (first | obtain ⟨X, rfl⟩ := GW.of2 hb | obtain ⟨X, rfl⟩ := GW.of hb); clear hb) | (go_at_call 10; (with_reducible refine (c1 _).mono ?_); rintro e w1 ⟨rfl, hb⟩; (first | obtain ⟨X, rfl⟩ := GW.of2 hb | obtain ⟨X, rfl⟩ := GW.of hb); clear hb) | (go_at_call 12; (with_reducible refine (known_any _ (hB.below (GW.grow _))).mono ?_); rintro e w1 ⟨rfl, hb⟩; (first | obtain ⟨X, rfl⟩ := GW.of2 hb | obtain ⟨X, rfl⟩ := GW.of hb); clear hb))
        go_ret
        exact ⟨rfl, bl_trans hbW (GW.grow _)⟩
      · rw [hv] at cR
        have cb := fun W => rbytes_any code rune sh al ct app nl bk W hv
        have c4 := fun W (hg : Gl W) => names_ok code rune sh al ct W hg.t hr hv
        have c5 := fun W => rname_any code rune sh al ct W hv
        unfold RBytesE at cb
        cases hi : bytesI code rune sh ct nl bk
        · have c1 := fun W (hg : Gl W) => sends_none code rune sh al ct app nl bk W hg.t hr hv hi
          simp only [hi, Bool.false_eq_true, if_false] at cb

          generalize nameS code rune sh al ct = nm at *
          go_wp2_with (first | (go_at_call 9; (with_reducible refine (cR _).mono ?_); rintro e w1 ⟨rfl, hb⟩; (first | obtain ⟨X, rfl⟩ := GW.of2 hb | obtain ⟨X, rfl⟩ := GW.of hb); clear hb) | (go_at_call 13; (with_reducible refine (cb _).mono ?_); rintro e w1 ⟨rfl, hb⟩; (first | obtain ⟨X, rfl⟩ := GW.of2 hb | obtain ⟨X, rfl⟩ := GW.of hb); clear hb))
          first | refine wp_grow2 (by kernel_rfl) (by kernel_rfl) ?_ | refine wp_grow (by kernel_rfl) (by kernel_rfl) ?_
          repeat (go_big_quiet_step (first | (go_at_call 10; with_reducible exact GW.call (c1 _ (hB.below (GW.grow _)))) | (go_at_call 14; with_reducible exact GW.call (c5 _)) | (go_at_call 11; with_reducible exact GW.call (c4 _ (hB.below (GW.grow _))))))
          refine wpQuiet_nil ?_
          rintro _ ⟨X, rfl⟩
          go_wp2_with fail
          go_roundw
          case rel => exact ⟨k + 1, by omega, by go_num, bl_trans hbW (GW.grow _)⟩
          case measure => simp [intOf]; omega
        · have c1 := fun W (hg : Gl W) => sends_ok code rune sh al ct app nl bk W hg.t hr hv hi
          simp only [hi, if_true] at cb
          generalize bytesS code rune sh al ct app nl bk = bs at *
          generalize nameS code rune sh al ct = nm at *
          go_wp2_with (first | (go_at_call 9; (with_reducible refine (cR _).mono ?_); rintro e w1 ⟨rfl, hb⟩; (first | obtain ⟨X, rfl⟩ := GW.of2 hb | obtain ⟨X, rfl⟩ := GW.of hb); clear hb) | (go_at_call 13; (with_reducible refine (cb _).mono ?_); rintro e w1 ⟨rfl, hb⟩; (first | obtain ⟨X, rfl⟩ := GW.of2 hb | obtain ⟨X, rfl⟩ := GW.of hb); clear hb))
          first | refine wp_grow2 (by kernel_rfl) (by kernel_rfl) ?_ | refine wp_grow (by kernel_rfl) (by kernel_rfl) ?_
          repeat (go_big_quiet_step (first | (go_at_call 10; with_reducible exact GW.call (c1 _ (hB.below (GW.grow _)))) | (go_at_call 14; with_reducible exact GW.call (c5 _)) | (go_at_call 11; with_reducible exact GW.call (c4 _ (hB.below (GW.grow _))))))
          refine wpQuiet_nil ?_
          rintro _ ⟨X, rfl⟩
          go_wp2_with fail
          go_roundw
          case rel => exact ⟨k + 1, by omega, by go_num, bl_trans hbW (GW.grow _)⟩
          case measure => simp [intOf]; omega
    · go_wp2_with (first | (go_at_call 12; (with_reducible refine (known_any _ (hg.below hbel)).mono ?_); rintro e w1 ⟨rfl, hb⟩))
      go_ret
      exact ⟨rfl, bl_trans hbel hb⟩

set_option maxRecDepth 100000 in
theorem keysRunes_lifted (os : Os) (started : os.Started) (H : Type) (enc : TypeId × Value → H) :
    ReturnsInHanded {} Tryd.checked os 4 .any (fun w args => (Rows.keysRunesSpec.pre enc Tryd.prog Tryd.f4 [] false w args ∧ laidMetH Tryd.prog laid5 w) ∧ sizedMet enc Tryd.prog Tryd.f4 (OpenSpec.ofChange Rows.keysRunesSpec) false w args)
      (Rows.keysRunesSpec.post enc Tryd.prog Tryd.f4 false true false false) := by
  refine returnsInHanded_of_change_and (C := Tryd.checked) (X := fun w _ => laidMetH Tryd.prog laid5 w) (fun _ _ _ hh h => h.of_heap hh) Tryd.own started (by kernel_rfl) Tryd.func4
    (ChangeSpec.witness_shaped (enc := enc) (C := Tryd.checked) (os := os) (X := fun w _ => laidMetH Tryd.prog laid5 w) false (World.laidAll Tryd.prog os laid5) #[.int .u8 0, .int .i32 0] 8 (World.laidAll_os _ _ _) (World.shaped_of_ZipB (by kernel_rfl) (by kernel_rfl)) (by kernel_rfl) (by kernel_rfl) (by kernel_rfl) (door_met os _)) ?_
  intro W base args ds gs before hval0 hW _ _ hL _
  have hval : ∀ (j : Nat) t v, Tryd.f4.params[j]? = some t → args[j]? = some v → Value.okWide Tryd.prog W .any base t v := hval0
  have hW' := hW
  obtain ⟨p, q, hA0, hV, rfl, hfz, hnd⟩ := hW
  have hA : DataW.TrodAll enc Tryd.prog W 0 (fun _ => true) true Tryd.f4.params.toList args.toList ds p := hA0
  rw [Tryd.params4] at hA hval
  obtain ⟨v0, v1, d0, d1, p0, p1, rfl, rfl, rfl, h0, h1⟩ := trodAll_two hA
  obtain ⟨rfl, rfl⟩ := trodVars_none hV
  obtain ⟨code, rfl, hc⟩ := open_num Tryd.underlying5 (hval 0 5 v0 rfl rfl) h0
  obtain ⟨rune, rfl, hw⟩ := open_num Tryd.underlying21 (hval 1 21 v1 rfl rfl) h1
  clear hA0 hval0
  have hT := gl_of_laid hL
  refine (keysRunes_any code rune W hT (wf_byte hc) (wf_i32 hw)).mono fun e W' ⟨he, hw⟩ => ?_
  exact ⟨_, he, post_law Tryd.laidOut rfl hW' (by kernel_rfl) rfl Tryd.underlying4 rfl hw⟩

theorem keysRunes_row : Rows.KeysRunesSaid :=
  OpenClaim.holds_of_wide 4 Tryd.f4 rfl rfl rfl rfl rfl rfl rfl ⟨rfl, rfl, rfl, rfl, rfl⟩ rfl rfl rfl rfl rfl (by kernel_rfl) Tryd.func4 (by kernel_rfl)
    (of_decide_eq_true (by kernel_rfl)) (by unfold Func.isWrapper; first | (rw [if_pos (by decide +kernel)]; kernel_rfl) | (rw [if_neg (by decide +kernel)]; exact ⟨rfl, rfl⟩))
    (fun os started H enc _ => keysRunes_lifted os started H enc)

set_option maxHeartbeats 8000000 in
set_option maxRecDepth 100000 in
/-- THE TIED CARD. -/
theorem keysRunes_holds : Rows.KeysRunesCardSaid :=
  Claim7.holds_tied_plain_at .later [] [.data, .data, .data, .data, .pinned] true (true, "890afae7ed2c885f344a8cf78685aad67095242f2643ec5516ae53b0677103bb") false
    keysRunes_row (fun _ h => by cases h) (by kernel_rfl) (fun _ h => by cases h) keysRunes_row_tie rfl ⟨rfl, rfl⟩ (by kernel_rfl) rfl
    (fun f fn hf hfn => by
      obtain rfl : f = 4 := Option.some.inj ((show Tryd.prog.funcNamed "scrollback/scrollbacklaw49.KeysRunes" = some 4 by kernel_rfl).symm.trans hf) |>.symm
      obtain rfl : fn = Tryd.f4 := (Option.some.inj (Tryd.func4.symm.trans hfn)).symm
      exact ⟨by kernel_rfl, fun j t ht => by
        rw [Tryd.params4] at ht
        have hm : t ∈ [5, 21] := by simpa using Array.mem_of_getElem? ht
        have hall : ([5, 21].all fun u => !Tryd.prog.wantsStandIn u) = true := by kernel_rfl
        exact (show Tryd.prog.wantsStandIn t = false by simpa using List.all_eq_true.1 hall t hm)⟩)
    (by kernel_rfl)

end Go.Proofs.YtofjdjjbgnfngaaDoor
