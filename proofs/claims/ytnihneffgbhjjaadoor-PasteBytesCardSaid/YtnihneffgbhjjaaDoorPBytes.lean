/- paste: PasteBytes returns true for every input. No condition. -/
import Derived.Test.YtnihneffgbhjjaaDoorQ
import Derived.Test.YtnihneffgbhjjaaDoorCards
import Derived.Test.YtnihneffgbhjjaaDoorTie
import Derived.SevenTiedAt
import Derived.Deep.CutBlock
import Derived.Deep.DeepCutAuto
import Derived.Outline
set_option linter.unusedSimpArgs false
set_option linter.unusedVariables false
set_option linter.unnecessarySimpa false
namespace Go.Proofs.YtnihneffgbhjjaaDoor
open Go.ChangeShapes Go.WideShapes Go.ChangeAt Go.RowKit

set_option maxHeartbeats 2000000 in
theorem pasteBytes_any (vb : Value) (size : Int) (l : List Int) (w : World) (hg : Gl w) (hb : Rd w .u8 vb l) (hl : ∀ x ∈ l, Byte x) (hs : -9223372036854775808 ≤ size ∧ size ≤ 9223372036854775807) : Calls Tryd.prog 3 #[vb, .int .i64 size] w fun e w' => e = .returned (.bool true) ∧ Below w.heap.size w w' := by
  obtain ⟨p, cap, rfl, hlc, hcm, hcell⟩ := hb
  have hb : Rd w .u8 (.slice p l.length cap) l := ⟨p, cap, rfl, hlc, hcm, hcell⟩
  clear hcell
  unfold maxLen at hcm
  by_cases h : 200 < l.length
  · go_enter Tryd.func3, Tryd.ntmps3
    go_wp2_with (first | (go_at_call 8; (with_reducible refine (known_any _ hg).mono ?_); rintro e w1 ⟨rfl, hb1⟩))
    go_ret
    exact ⟨rfl, hb1⟩
  · go_enter Tryd.func3, Tryd.ntmps3
    go_wp2_with (first | (at_builtin; refine wpList_appw rfl (.const (.slice none 0 0)) (.tmp 10) 22 5 .u8 1 rfl Tryd.underlying22 el8 w.heap.size _ _ [] l (Own.nil _ _ _ _) hb rfl rfl (by simp only [List.length_nil, maxLen]; omega) (by simp only [List.length_nil]; omega) (Nat.le_refl _) ?_; intro v2 w2 hown hgr hwh; have hb2 : Below w.heap.size w w2 := app_below (Below.refl _ _) hgr (fun g hg => by cases hg); rw [List.nil_append] at hown; have hrd := hown.rd; obtain ⟨pw, nw, cw, hwe⟩ := hrd.shape; subst hwe) | (go_at_call 9; (with_reducible refine (right_any _ size l _ (hg.below hb2) hrd hl (by omega) hs.1 hs.2).mono ?_); rintro e w3 ⟨rfl, hb3⟩; have hb23 := bl_trans hb2 hb3; have k1 := run_str (P := Tryd.prog) 22 9 5 Tryd.underlying22 Tryd.underlying5 Tryd.underlying9 (hrd.below hb3); have k2 := run_str (P := Tryd.prog) 22 9 5 Tryd.underlying22 Tryd.underlying5 Tryd.underlying9 (hb.below hb23)) | (go_at_call 8; (with_reducible refine (known_any _ (hg.below hb23)).mono ?_); rintro e w4 ⟨rfl, hb4⟩))
    go_ret
    exact ⟨rfl, bl_trans hb23 hb4⟩

set_option maxRecDepth 100000 in
theorem pasteBytes_lifted (os : Os) (started : os.Started) (H : Type) (enc : TypeId × Value → H) :
    ReturnsInHanded {} Tryd.checked os 3 .any (fun w args => (Rows.pasteBytesSpec.pre enc Tryd.prog Tryd.f3 [] false w args ∧ laidMetH Tryd.prog laid2 w) ∧ sizedMet enc Tryd.prog Tryd.f3 (OpenSpec.ofChange Rows.pasteBytesSpec) false w args)
      (Rows.pasteBytesSpec.post enc Tryd.prog Tryd.f3 false true false false) := by
  refine handed_and_shaped (C := Tryd.checked) (X := fun w _ => laidMetH Tryd.prog laid2 w) (fun _ _ _ hh h => h.of_heap hh) Tryd.own started (by kernel_rfl) Tryd.func3
    (ChangeSpec.witness_shaped (enc := enc) (C := Tryd.checked) (os := os) (X := fun w _ => laidMetH Tryd.prog laid2 w) false (World.laidAll Tryd.prog os laid2) #[.slice none 0 0, .int .i64 0] 8 (World.laidAll_os _ _ _) (World.shaped_of_ZipB (by kernel_rfl) (by kernel_rfl)) (by kernel_rfl) (by kernel_rfl) (by kernel_rfl) (door_met os _)) ?_
  intro W base args ds gs before hval0 hW _ _ hL hsh _
  have hval : ∀ (j : Nat) t v, Tryd.f3.params[j]? = some t → args[j]? = some v → Value.okWide Tryd.prog W .any base t v := hval0
  have hW' := hW
  obtain ⟨p, q, hA0, hV, rfl, hfz, hnd⟩ := hW
  have hA : DataW.TrodAll enc Tryd.prog W 0 (fun _ => true) true Tryd.f3.params.toList args.toList ds p := hA0
  rw [Tryd.params3] at hA hval
  obtain ⟨v0, v1, d0, d1, p0, p1, rfl, rfl, rfl, h0, h1⟩ := trodAll_two hA
  obtain ⟨rfl, rfl⟩ := trodVars_none hV
  obtain ⟨xs, hrd, hwf⟩ := open_rd Tryd.underlying22 Tryd.underlying5 (by kernel_rfl) (hval 0 22 v0 rfl rfl) h0
  obtain ⟨n, rfl, hn⟩ := open_num Tryd.underlying3 (hval 1 3 v1 rfl rfl) h1
  clear hA0 hval0
  have hT := gl_of_laid hL hsh
  refine (pasteBytes_any _ n xs W hT hrd (fun x hx => wf_byte (hwf x hx)) (wf_i64 hn)).mono fun e W' ⟨he, hw⟩ => ?_
  exact ⟨_, he, post_law Tryd.laidOut rfl hW' (by kernel_rfl) rfl Tryd.underlying4 rfl hw⟩

theorem pasteBytes_row : Rows.PasteBytesSaid :=
  OpenClaim.holds_of_wide 3 Tryd.f3 rfl rfl rfl rfl rfl rfl rfl ⟨rfl, rfl, rfl, rfl, rfl⟩ rfl rfl rfl rfl rfl (by kernel_rfl) Tryd.func3 (by kernel_rfl)
    (of_decide_eq_true (by kernel_rfl)) (by unfold Func.isWrapper; first | (rw [if_pos (by decide +kernel)]; kernel_rfl) | (rw [if_neg (by decide +kernel)]; exact ⟨rfl, rfl⟩))
    (fun os started H enc _ => pasteBytes_lifted os started H enc)

set_option maxHeartbeats 8000000 in
set_option maxRecDepth 100000 in
/-- THE TIED CARD. -/
theorem pasteBytes_holds : Rows.PasteBytesCardSaid :=
  Claim7.holds_tied_plain_at .later [] [.data, .pinned] true (true, "4865bef8d02670118b7e3de5bc1c7e6eb07ffdb70b2ae0f3df0af0c1c64667ed") false
    pasteBytes_row (fun _ h => by cases h) (by kernel_rfl) (fun _ h => by cases h) pasteBytes_row_tie rfl ⟨rfl, rfl⟩ (by kernel_rfl) rfl
    (fun f fn hf hfn => by
      obtain rfl : f = 3 := Option.some.inj ((show Tryd.prog.funcNamed "scrollback/scrollbacklaw51.PasteBytes" = some 3 by kernel_rfl).symm.trans hf) |>.symm
      obtain rfl : fn = Tryd.f3 := (Option.some.inj (Tryd.func3.symm.trans hfn)).symm
      exact ⟨by kernel_rfl, fun j t ht => by
        rw [Tryd.params3] at ht
        have hm : t ∈ [22, 3] := by simpa using Array.mem_of_getElem? ht
        have hall : ([22, 3].all fun u => !Tryd.prog.wantsStandIn u) = true := by kernel_rfl
        exact (show Tryd.prog.wantsStandIn t = false by simpa using List.all_eq_true.1 hall t hm)⟩)
    (by kernel_rfl)

end Go.Proofs.YtnihneffgbhjjaaDoor
