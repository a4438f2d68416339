/- style: StyleApplies returns true for every input. No condition. -/
import Derived.Test.YtdoeiaekimbecaaDoorW
import Derived.Test.YtdoeiaekimbecaaDoorCards
import Derived.Test.YtdoeiaekimbecaaDoorTie
import Derived.SevenTiedAt
import Derived.Outline
set_option linter.unusedSimpArgs false
set_option linter.unusedVariables false
set_option linter.unnecessarySimpa false
namespace Go.Proofs.YtdoeiaekimbecaaDoor
open Go.ChangeShapes Go.WideShapes Go.ChangeAt Go.RowKit

set_option maxHeartbeats 4000000 in
set_option maxRecDepth 100000 in
theorem styleApplies_any (p : Pn) (v : Value) (l : List Int) (w : World) (hg : Gl w) (hp : wfP p) (h : Rd w .i64 v l) : Calls Tryd.prog 3 #[.agg p.a, v] w fun e w' => e = .returned (.bool true) ∧ Below w.heap.size w w' := by
  have hb0 : Below w.heap.size w (w.alloc (.cells p.a 27)) := bl_alloc (Below.refl _ _) _
  have hB := hg.below hb0
  have hr1 := h.below hb0
  have cK : ∀ W, Below (w.alloc (.cells p.a 27)).heap.size (w.alloc (.cells p.a 27)) W → Calls Tryd.prog 8 #[] W fun e w' => e = .returned (.bool true) ∧ Below W.heap.size W w' := fun W hW => known_any W (hB.m.below hW) (hB.t.below hW)
  have cV := fun W => valid_any p W
  have cR : ∀ W, Below (w.alloc (.cells p.a 27)).heap.size (w.alloc (.cells p.a 27)) W → Calls Tryd.prog 10 #[v] W fun e w' => e = .returned (.bool (rightN l)) ∧ Below W.heap.size W w' := fun W hW => right_any v l W (hr1.below hW)
  obtain ⟨p0, n0, hvs⟩ : ∃ q c, v = .slice q l.length c := by
    obtain ⟨q, c, hv, _⟩ := h
    exact ⟨q, c, hv⟩
  subst hvs
  have hlm : l.length ≤ 9223372036854775807 := by
    obtain ⟨_, _, hv2, q1, q2, _⟩ := h
    unfold maxLen at q2; omega
  have HLM := Lib.hid hlm
  clear hlm
  by_cases h40 : 40 < l.length
  · clear cV cR
    go_enter Tryd.func3, Tryd.ntmps3
    go_wp2_with (first | (go_at_call 8; (with_reducible refine (cK _ (Below.refl _ _)).mono ?_); rintro e w1 ⟨rfl, hb⟩))
    go_ret
    exact ⟨rfl, bl_trans hb0 hb⟩
  cases hv : validP p
  · have cA : ∀ W, Below (w.alloc (.cells p.a 27)).heap.size (w.alloc (.cells p.a 27)) W → Calls Tryd.prog 11 #[.agg p.a, .slice p0 l.length n0, .agg #[.int .i64 0, .int .u8 0, .int .u8 0, .int .u8 0, .int .u8 0, .int .i64 0, .int .u8 0, .int .u8 0, .int .u8 0, .int .u8 0, .int .u8 0], .int .i64 2] W fun e w' => e = .returned (.bool true) ∧ Below W.heap.size W w' := fun W hW => applies_bad p _ l W (hr1.below hW) (by omega) (Or.inl hv)
    rw [hv] at cV
    clear cR hv
    go_enter Tryd.func3, Tryd.ntmps3
    go_wp2_with (first | (go_at_call 9; (with_reducible refine (cV _).mono ?_); rintro e w1 ⟨rfl, hb⟩; (first | obtain ⟨X, rfl⟩ := GW.of2 hb | obtain ⟨X, rfl⟩ := GW.of hb); clear hb) | (go_at_call 11; (with_reducible refine (cA _ (GW.grow _)).mono ?_); rintro e w1 ⟨rfl, hb⟩; (first | obtain ⟨X, rfl⟩ := GW.of2 hb | obtain ⟨X, rfl⟩ := GW.of hb); clear hb) | (go_at_call 8; (with_reducible refine (cK _ (GW.grow _)).mono ?_); rintro e w1 ⟨rfl, hb⟩; (first | obtain ⟨X, rfl⟩ := GW.of2 hb | obtain ⟨X, rfl⟩ := GW.of hb); clear hb))
    go_ret
    exact ⟨rfl, bl_trans hb0 (GW.grow _)⟩
  cases hr : rightN l
  · have cA : ∀ W, Below (w.alloc (.cells p.a 27)).heap.size (w.alloc (.cells p.a 27)) W → Calls Tryd.prog 11 #[.agg p.a, .slice p0 l.length n0, .agg #[.int .i64 0, .int .u8 0, .int .u8 0, .int .u8 0, .int .u8 0, .int .i64 0, .int .u8 0, .int .u8 0, .int .u8 0, .int .u8 0, .int .u8 0], .int .i64 2] W fun e w' => e = .returned (.bool true) ∧ Below W.heap.size W w' := fun W hW => applies_bad p _ l W (hr1.below hW) (by omega) (Or.inr hr)
    rw [hv] at cV
    rw [hr] at cR
    clear hv hr
    go_enter Tryd.func3, Tryd.ntmps3
    go_wp2_with (first | (go_at_call 9; (with_reducible refine (cV _).mono ?_); rintro e w1 ⟨rfl, hb⟩; (first | obtain ⟨X, rfl⟩ := GW.of2 hb | obtain ⟨X, rfl⟩ := GW.of hb); clear hb) | (go_at_call 10; (with_reducible refine (cR _ (GW.grow _)).mono ?_); rintro e w1 ⟨rfl, hb⟩; (first | obtain ⟨X, rfl⟩ := GW.of2 hb | obtain ⟨X, rfl⟩ := GW.of hb); clear hb) | (go_at_call 11; (with_reducible refine (cA _ (GW.grow _)).mono ?_); rintro e w1 ⟨rfl, hb⟩; (first | obtain ⟨X, rfl⟩ := GW.of2 hb | obtain ⟨X, rfl⟩ := GW.of hb); clear hb) | (go_at_call 8; (with_reducible refine (cK _ (GW.grow _)).mono ?_); rintro e w1 ⟨rfl, hb⟩; (first | obtain ⟨X, rfl⟩ := GW.of2 hb | obtain ⟨X, rfl⟩ := GW.of hb); clear hb))
    go_ret
    exact ⟨rfl, bl_trans hb0 (GW.grow _)⟩
  · have cS : ∀ W, Below (w.alloc (.cells p.a 27)).heap.size (w.alloc (.cells p.a 27)) W → Calls Tryd.prog 12 #[.agg p.a, .slice p0 l.length n0] W fun e w' => e = .returned (.agg (applyN p l).a) ∧ Below W.heap.size W w' := fun W hW => by rw [← applyR_eq]; exact rapply_any p _ l W (hr1.below hW) hr
    have cA : ∀ W, Below (w.alloc (.cells p.a 27)).heap.size (w.alloc (.cells p.a 27)) W → Calls Tryd.prog 11 #[.agg p.a, .slice p0 l.length n0, .agg (applyN p l).a, .int .i64 0] W fun e w' => e = .returned (.bool true) ∧ Below W.heap.size W w' := fun W hW => applies_ok p _ l W (hB.m.below hW) (hr1.below hW) (by omega) hv hr _ rfl
    rw [hv] at cV
    rw [hr] at cR
    clear hv hr
    generalize applyN p l = q at *
    go_enter Tryd.func3, Tryd.ntmps3
    go_wp2_with (first | (go_at_call 9; (with_reducible refine (cV _).mono ?_); rintro e w1 ⟨rfl, hb⟩; (first | obtain ⟨X, rfl⟩ := GW.of2 hb | obtain ⟨X, rfl⟩ := GW.of hb); clear hb) | (go_at_call 10; (with_reducible refine (cR _ (GW.grow _)).mono ?_); rintro e w1 ⟨rfl, hb⟩; (first | obtain ⟨X, rfl⟩ := GW.of2 hb | obtain ⟨X, rfl⟩ := GW.of hb); clear hb))
    first | refine wp_grow2 (by kernel_rfl) (by kernel_rfl) ?_ | refine wp_grow (by kernel_rfl) (by kernel_rfl) ?_
    repeat (go_big_quiet_step (first | (go_at_call 12; with_reducible exact GW.call (cS _ (GW.grow _))) | (go_at_call 11; with_reducible exact GW.call (cA _ (GW.grow _))) | (go_at_call 8; with_reducible exact GW.call (cK _ (GW.grow _)))))
    refine wpQuiet_nil ?_
    rintro _ ⟨X, rfl⟩
    go_wp2_with fail
    go_ret
    exact ⟨rfl, bl_trans hb0 (GW.grow _)⟩

set_option maxRecDepth 100000 in
theorem styleApplies_lifted (os : Os) (started : os.Started) (H : Type) (enc : TypeId × Value → H) :
    ReturnsInHanded {} Tryd.checked os 3 .any (fun w args => (Rows.styleAppliesSpec.pre enc Tryd.prog Tryd.f3 [] false w args ∧ laidMetH Tryd.prog laid4 w) ∧ sizedMet enc Tryd.prog Tryd.f3 (OpenSpec.ofChange Rows.styleAppliesSpec) false w args)
      (Rows.styleAppliesSpec.post enc Tryd.prog Tryd.f3 false true false false) := by
  refine returnsInHanded_of_change_and (C := Tryd.checked) (X := fun w _ => laidMetH Tryd.prog laid4 w) (fun _ _ _ hh h => h.of_heap hh) Tryd.own started (by kernel_rfl) Tryd.func3
    (ChangeSpec.witness_shaped (enc := enc) (C := Tryd.checked) (os := os) (X := fun w _ => laidMetH Tryd.prog laid4 w) false (World.doorLaid Tryd.prog 400 os) #[.agg #[.int .i64 0, .int .u8 0, .int .u8 0, .int .u8 0, .int .u8 0, .int .i64 0, .int .u8 0, .int .u8 0, .int .u8 0, .int .u8 0, .int .u8 0], .slice none 0 0] 8 rfl (World.shaped_of_RefB (by kernel_rfl) (by kernel_rfl)) (by kernel_rfl) (by kernel_rfl) (by kernel_rfl) (door_met os _)) ?_
  intro W base args ds gs before hval0 hW _ _ hL _
  have hval : ∀ (j : Nat) t v, Tryd.f3.params[j]? = some t → args[j]? = some v → Value.okWide Tryd.prog W .any base t v := hval0
  have hW' := hW
  obtain ⟨p, q, hA0, hV, rfl, hfz, hnd⟩ := hW
  have hA : DataW.TrodAll enc Tryd.prog W 0 (fun _ => true) true Tryd.f3.params.toList args.toList ds p := hA0
  rw [Tryd.params3] at hA hval
  obtain ⟨v0, v1, d0, d1, p0, p1, rfl, rfl, rfl, h0, h1⟩ := trodAll_two hA
  obtain ⟨rfl, rfl⟩ := trodVars_none hV
  obtain ⟨pn0, rfl, hp0⟩ := open_pen (hval 0 27 v0 rfl rfl) h0
  obtain ⟨xs1, hrd1, hwf1⟩ := open_rd Tryd.underlying28 Tryd.underlying3 (by kernel_rfl) (hval 1 28 v1 rfl rfl) h1
  clear hA0 hval0
  have hT := gl_of_laid hL
  refine (styleApplies_any pn0 _ xs1 W hT hp0 hrd1).mono fun e W' ⟨he, hw⟩ => ?_
  exact ⟨_, he, post_law Tryd.laidOut rfl hW' (by kernel_rfl) rfl Tryd.underlying4 rfl hw⟩

theorem styleApplies_row : Rows.StyleAppliesSaid :=
  OpenClaim.holds_of_wide 3 Tryd.f3 rfl rfl rfl rfl rfl rfl rfl ⟨rfl, rfl, rfl, rfl, rfl⟩ rfl rfl rfl rfl rfl (by kernel_rfl) Tryd.func3 (by kernel_rfl)
    (of_decide_eq_true (by kernel_rfl)) (by unfold Func.isWrapper; first | (rw [if_pos (by decide +kernel)]; kernel_rfl) | (rw [if_neg (by decide +kernel)]; exact ⟨rfl, rfl⟩))
    (fun os started H enc _ => styleApplies_lifted os started H enc)

set_option maxHeartbeats 8000000 in
set_option maxRecDepth 100000 in
/-- THE TIED CARD. -/
theorem styleApplies_holds : Rows.StyleAppliesCardSaid :=
  Claim7.holds_tied_plain_at .later [] [.data, .data, .data, .data] true (true, "a3470dac668e4131d9f8441a592fc5b44021ebc5f310932b83913053633c592d") false
    styleApplies_row (fun _ h => by cases h) (by kernel_rfl) (fun _ h => by cases h) styleApplies_row_tie rfl ⟨rfl, rfl⟩ (by kernel_rfl) rfl
    (fun f fn hf hfn => by
      obtain rfl : f = 3 := Option.some.inj ((show Tryd.prog.funcNamed "scrollback/scrollbacklaw21.StyleApplies" = some 3 by kernel_rfl).symm.trans hf) |>.symm
      obtain rfl : fn = Tryd.f3 := (Option.some.inj (Tryd.func3.symm.trans hfn)).symm
      exact ⟨by kernel_rfl, fun j t ht => by
        rw [Tryd.params3] at ht
        have hm : t ∈ [27, 28] := by simpa using Array.mem_of_getElem? ht
        have hall : ([27, 28].all fun u => !Tryd.prog.wantsStandIn u) = true := by kernel_rfl
        exact (show Tryd.prog.wantsStandIn t = false by simpa using List.all_eq_true.1 hall t hm)⟩)
    (by kernel_rfl)

end Go.Proofs.YtdoeiaekimbecaaDoor
