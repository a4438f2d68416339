/- style: StyleTexts returns true for every input. No condition. -/
import Derived.Test.YtdoeiaekimbecaaDoorW
import Derived.Test.YtdoeiaekimbecaaDoorCards
import Derived.Test.YtdoeiaekimbecaaDoorTie
import Derived.SevenTiedAt
import Derived.Outline
set_option linter.unusedSimpArgs false
set_option linter.unusedVariables false
set_option linter.unnecessarySimpa false
namespace Go.Proofs.YtdoeiaekimbecaaDoor
open Go.ChangeShapes Go.WideShapes Go.ChangeAt Go.RowKit

set_option maxHeartbeats 4000000 in
set_option maxRecDepth 100000 in
theorem styleTexts_any (v : Value) (l : List Int) (w : World) (hg : Gl w) (h : Rd w .i64 v l) : Calls Tryd.prog 6 #[v] w fun e w' => e = .returned (.bool true) ∧ Below w.heap.size w w' := by
  have cK : ∀ W, Below w.heap.size w W → Calls Tryd.prog 8 #[] W fun e w' => e = .returned (.bool true) ∧ Below W.heap.size W w' := fun W hW => known_any W (hg.m.below hW) (hg.t.below hW)
  have cR := right_any v l w h
  obtain ⟨p0, n0, hvs⟩ : ∃ q c, v = .slice q l.length c := by
    obtain ⟨q, c, hv, _⟩ := h
    exact ⟨q, c, hv⟩
  subst hvs
  have hlm : l.length ≤ 9223372036854775807 := by
    obtain ⟨_, _, hv2, q1, q2, _⟩ := h
    unfold maxLen at q2; omega
  have HLM := Lib.hid hlm
  clear hlm
  by_cases h60 : 60 < l.length
  · clear cR
    go_enter Tryd.func6, Tryd.ntmps6
    go_wp2_with (first | (go_at_call 8; (with_reducible refine (cK _ (Below.refl _ _)).mono ?_); rintro e w1 ⟨rfl, hb⟩))
    go_ret
    exact ⟨rfl, hb⟩
  cases hr : rightN l
  · have cT : ∀ W, Below w.heap.size w W → Calls Tryd.prog 18 #[.slice p0 l.length n0, .string ⟨#[]⟩, .int .i64 2] W fun e w' => e = .returned (.bool true) ∧ Below W.heap.size W w' := fun W hW => texts_bad _ l W (h.below hW) hr
    rw [hr] at cR
    clear hr
    go_enter Tryd.func6, Tryd.ntmps6
    go_wp2_with (first | (go_at_call 10; (with_reducible refine cR.mono ?_); rintro e w1 ⟨rfl, hb1⟩) | (go_at_call 18; (with_reducible refine (cT _ hb1).mono ?_); rintro e w2 ⟨rfl, hb2⟩; have hb12 := bl_trans hb1 hb2) | (go_at_call 8; (with_reducible refine (cK _ hb12).mono ?_); rintro e w3 ⟨rfl, hb3⟩))
    go_ret
    exact ⟨rfl, bl_trans hb12 hb3⟩
  · have cS : ∀ W, Below w.heap.size w W → Calls Tryd.prog 19 #[.slice p0 l.length n0] W fun e w' => e = .returned (.string ⟨(textN l).toArray⟩) ∧ Below W.heap.size W w' := fun W hW => rtext_any _ l W (h.below hW) hr (by omega)
    have cT : ∀ W, Below w.heap.size w W → Calls Tryd.prog 18 #[.slice p0 l.length n0, .string ⟨(textN l).toArray⟩, .int .i64 0] W fun e w' => e = .returned (.bool true) ∧ Below W.heap.size W w' := fun W hW => texts_ok _ l W (h.below hW) hr (by omega) (hg.t.below hW) _ rfl
    rw [hr] at cR
    clear hr
    generalize (⟨(textN l).toArray⟩ : ByteArray) = s at *
    go_enter Tryd.func6, Tryd.ntmps6
    go_wp2_with (first | (go_at_call 10; (with_reducible refine cR.mono ?_); rintro e w1 ⟨rfl, hb1⟩) | (go_at_call 19; (with_reducible refine (cS _ hb1).mono ?_); rintro e w5 ⟨rfl, hb5⟩; have hb15 := bl_trans hb1 hb5) | (go_at_call 18; (with_reducible refine (cT _ hb15).mono ?_); rintro e w2 ⟨rfl, hb2⟩; have hb12 := bl_trans hb15 hb2) | (go_at_call 8; (with_reducible refine (cK _ hb12).mono ?_); rintro e w3 ⟨rfl, hb3⟩))
    go_ret
    exact ⟨rfl, bl_trans hb12 hb3⟩

set_option maxRecDepth 100000 in
theorem styleTexts_lifted (os : Os) (started : os.Started) (H : Type) (enc : TypeId × Value → H) :
    ReturnsInHanded {} Tryd.checked os 6 .any (fun w args => (Rows.styleTextsSpec.pre enc Tryd.prog Tryd.f6 [] false w args ∧ laidMetH Tryd.prog laid4 w) ∧ sizedMet enc Tryd.prog Tryd.f6 (OpenSpec.ofChange Rows.styleTextsSpec) false w args)
      (Rows.styleTextsSpec.post enc Tryd.prog Tryd.f6 false true false false) := by
  refine returnsInHanded_of_change_and (C := Tryd.checked) (X := fun w _ => laidMetH Tryd.prog laid4 w) (fun _ _ _ hh h => h.of_heap hh) Tryd.own started (by kernel_rfl) Tryd.func6
    (ChangeSpec.witness_shaped (enc := enc) (C := Tryd.checked) (os := os) (X := fun w _ => laidMetH Tryd.prog laid4 w) false (World.doorLaid Tryd.prog 400 os) #[.slice none 0 0] 8 rfl (World.shaped_of_RefB (by kernel_rfl) (by kernel_rfl)) (by kernel_rfl) (by kernel_rfl) (by kernel_rfl) (door_met os _)) ?_
  intro W base args ds gs before hval0 hW _ _ hL _
  have hval : ∀ (j : Nat) t v, Tryd.f6.params[j]? = some t → args[j]? = some v → Value.okWide Tryd.prog W .any base t v := hval0
  have hW' := hW
  obtain ⟨p, q, hA0, hV, rfl, hfz, hnd⟩ := hW
  have hA : DataW.TrodAll enc Tryd.prog W 0 (fun _ => true) true Tryd.f6.params.toList args.toList ds p := hA0
  rw [Tryd.params6] at hA hval
  obtain ⟨v0, d0, rfl, rfl, h0⟩ := trodAll_one hA
  obtain ⟨rfl, rfl⟩ := trodVars_none hV
  obtain ⟨xs0, hrd0, hwf0⟩ := open_rd Tryd.underlying28 Tryd.underlying3 (by kernel_rfl) (hval 0 28 v0 rfl rfl) h0
  clear hA0 hval0
  have hT := gl_of_laid hL
  refine (styleTexts_any _ xs0 W hT hrd0).mono fun e W' ⟨he, hw⟩ => ?_
  exact ⟨_, he, post_law Tryd.laidOut rfl hW' (by kernel_rfl) rfl Tryd.underlying4 rfl hw⟩

theorem styleTexts_row : Rows.StyleTextsSaid :=
  OpenClaim.holds_of_wide 6 Tryd.f6 rfl rfl rfl rfl rfl rfl rfl ⟨rfl, rfl, rfl, rfl, rfl⟩ rfl rfl rfl rfl rfl (by kernel_rfl) Tryd.func6 (by kernel_rfl)
    (of_decide_eq_true (by kernel_rfl)) (by unfold Func.isWrapper; first | (rw [if_pos (by decide +kernel)]; kernel_rfl) | (rw [if_neg (by decide +kernel)]; exact ⟨rfl, rfl⟩))
    (fun os started H enc _ => styleTexts_lifted os started H enc)

set_option maxHeartbeats 8000000 in
set_option maxRecDepth 100000 in
/-- THE TIED CARD. -/
theorem styleTexts_holds : Rows.StyleTextsCardSaid :=
  Claim7.holds_tied_plain_at .later [] [.data, .data, .data, .data] true (true, "a3470dac668e4131d9f8441a592fc5b44021ebc5f310932b83913053633c592d") false
    styleTexts_row (fun _ h => by cases h) (by kernel_rfl) (fun _ h => by cases h) styleTexts_row_tie rfl ⟨rfl, rfl⟩ (by kernel_rfl) rfl
    (fun f fn hf hfn => by
      obtain rfl : f = 6 := Option.some.inj ((show Tryd.prog.funcNamed "scrollback/scrollbacklaw21.StyleTexts" = some 6 by kernel_rfl).symm.trans hf) |>.symm
      obtain rfl : fn = Tryd.f6 := (Option.some.inj (Tryd.func6.symm.trans hfn)).symm
      exact ⟨by kernel_rfl, fun j t ht => by
        rw [Tryd.params6] at ht
        have hm : t ∈ [28] := by simpa using Array.mem_of_getElem? ht
        have hall : ([28].all fun u => !Tryd.prog.wantsStandIn u) = true := by kernel_rfl
        exact (show Tryd.prog.wantsStandIn t = false by simpa using List.all_eq_true.1 hall t hm)⟩)
    (by kernel_rfl)

end Go.Proofs.YtdoeiaekimbecaaDoor
