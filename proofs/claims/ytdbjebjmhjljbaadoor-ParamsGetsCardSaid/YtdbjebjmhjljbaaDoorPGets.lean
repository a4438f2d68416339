/- params: ParamsGets returns true for every input. No condition. -/
import Derived.Test.YtdbjebjmhjljbaaDoorU
import Derived.Test.YtdbjebjmhjljbaaDoorCards
import Derived.Test.YtdbjebjmhjljbaaDoorTie
import Derived.SevenTiedAt
import Derived.Outline
set_option linter.unusedSimpArgs false
set_option linter.unusedVariables false
set_option linter.unnecessarySimpa false
namespace Go.Proofs.YtdbjebjmhjljbaaDoor
open Go.ChangeShapes Go.WideShapes Go.ChangeAt Go.RowKit

theorem getP_one (l : List Int) (i : Int) : oneP l i = if getP l i 1 = 0 then 1 else getP l i 1 := by
  unfold oneP getP
  split
  · rfl
  · simp
theorem paramsGets_any (v : Value) (l : List Int) (i m : Int) (w : World) (h : Rd w .i64 v l) (ht : Tab w) : Calls Tryd.prog 3 #[v, .int .i64 i, .int .i64 m] w fun e w' => e = .returned (.bool true) ∧ Below w.heap.size w w' := by
  have h0 := h
  obtain ⟨p, cap, rfl, l1, m1, _⟩ := h0
  unfold maxLen at m1
  have c1 := valid_any _ l w h
  have c2 := fun w' (hb : Below w.heap.size w w') => rvalid_any _ l w' (h.below hb)
  have c3 := fun w' (hb : Below w.heap.size w w') => get_any _ l i m w' (h.below hb)
  have c4 := fun w' (hb : Below w.heap.size w w') => rget_any _ l i m w' (h.below hb)
  have c5 := fun w' (hb : Below w.heap.size w w') => rget_any _ l i 1 w' (h.below hb)
  have c6 := fun w' (hb : Below w.heap.size w w') => one_any _ l i w' (h.below hb)
  rw [getP_one] at c6
  by_cases hl : 40 < l.length
  · clear c1 c2 c3 c4 c5 c6
    go_enter Tryd.func3, Tryd.ntmps3
    go_wp2_with (go_at_call 9; (with_reducible refine (known_any _ ht).mono ?_); rintro e w2 ⟨rfl, hb2⟩)
    go_ret
    exact ⟨rfl, hb2⟩
  · generalize validP l = b1 at *
    generalize getP l i m = x at *
    generalize getP l i 1 = y at *
    by_cases hy : y = 0
    all_goals
      first | rw [if_pos hy] at c6 | rw [if_neg hy] at c6
      go_enter Tryd.func3, Tryd.ntmps3
      go_wp2_with (first | (go_at_call 10; (with_reducible refine c1.mono ?_); rintro e w1 ⟨rfl, hb1⟩) | (go_at_call 11; (with_reducible refine (c2 _ hb1).mono ?_); rintro e w2 ⟨rfl, hb2⟩; have hb := bl_trans hb1 hb2) | (go_at_call 12; (with_reducible refine (c3 _ hb).mono ?_); rintro e w' ⟨rfl, rfl⟩) | (go_at_call 13; (with_reducible refine (c4 _ hb).mono ?_); rintro e w' ⟨rfl, rfl⟩) | (go_at_call 13; (with_reducible refine (c5 _ hb).mono ?_); rintro e w' ⟨rfl, rfl⟩) | (go_at_call 14; (with_reducible refine (c6 _ hb).mono ?_); rintro e w' ⟨rfl, rfl⟩) | (go_at_call 9; (with_reducible refine (known_any _ (ht.below hb)).mono ?_); rintro e w3 ⟨rfl, hb3⟩))
      all_goals
        go_ret
        exact ⟨rfl, bl_trans hb hb3⟩

set_option maxRecDepth 100000 in
theorem paramsGets_lifted (os : Os) (started : os.Started) (H : Type) (enc : TypeId × Value → H) :
    ReturnsInHanded {} Tryd.checked os 3 .any (fun w args => (Rows.paramsGetsSpec.pre enc Tryd.prog Tryd.f3 [] false w args ∧ laidMetH Tryd.prog laid3 w) ∧ sizedMet enc Tryd.prog Tryd.f3 (OpenSpec.ofChange Rows.paramsGetsSpec) false w args)
      (Rows.paramsGetsSpec.post enc Tryd.prog Tryd.f3 false true false false) := by
  refine returnsInHanded_of_change_and (C := Tryd.checked) (X := fun w _ => laidMetH Tryd.prog laid3 w) (fun _ _ _ hh h => h.of_heap hh) Tryd.own started (by kernel_rfl) Tryd.func3
    (ChangeSpec.witness_shaped (enc := enc) (C := Tryd.checked) (os := os) (X := fun w _ => laidMetH Tryd.prog laid3 w) false (World.doorLaid Tryd.prog 400 os) #[.slice none 0 0, .int .i64 0, .int .i64 0] 8 rfl (World.shaped_of_RefB (by kernel_rfl) (by kernel_rfl)) (by kernel_rfl) (by kernel_rfl) (by kernel_rfl) (door_met os _)) ?_
  intro W base args ds gs before hval0 hW _ _ hL _
  have hval : ∀ (j : Nat) t v, Tryd.f3.params[j]? = some t → args[j]? = some v → Value.okWide Tryd.prog W .any base t v := hval0
  have hW' := hW
  obtain ⟨p, q, hA0, hV, rfl, hfz, hnd⟩ := hW
  have hA : DataW.TrodAll enc Tryd.prog W 0 (fun _ => true) true Tryd.f3.params.toList args.toList ds p := hA0
  rw [Tryd.params3] at hA hval
  obtain ⟨v0, v1, v2, d0, d1, d2, p0, p1, p2, rfl, rfl, rfl, h0, h1, h2⟩ := trodAll_three hA
  obtain ⟨rfl, rfl⟩ := trodVars_none hV
  obtain ⟨l, hl, _⟩ := open_rd Tryd.underlying22 Tryd.underlying3 (by kernel_rfl) (hval 0 22 v0 rfl rfl) h0
  obtain ⟨i, rfl, hi⟩ := open_num Tryd.underlying3 (hval 1 3 v1 rfl rfl) h1
  obtain ⟨m, rfl, hm⟩ := open_num Tryd.underlying3 (hval 2 3 v2 rfl rfl) h2
  clear hA0 hval0
  have hT := tab_of_laid hL
  refine (paramsGets_any v0 l i m W hl hT).mono fun e W' ⟨he, hw⟩ => ?_
  exact ⟨_, he, post_law Tryd.laidOut rfl hW' (by kernel_rfl) rfl Tryd.underlying4 rfl hw⟩

theorem paramsGets_row : Rows.ParamsGetsSaid :=
  OpenClaim.holds_of_wide 3 Tryd.f3 rfl rfl rfl rfl rfl rfl rfl ⟨rfl, rfl, rfl, rfl, rfl⟩ rfl rfl rfl rfl rfl (by kernel_rfl) Tryd.func3 (by kernel_rfl)
    (of_decide_eq_true (by kernel_rfl)) (by unfold Func.isWrapper; first | (rw [if_pos (by decide +kernel)]; kernel_rfl) | (rw [if_neg (by decide +kernel)]; exact ⟨rfl, rfl⟩))
    (fun os started H enc _ => paramsGets_lifted os started H enc)

/-- THE TIED CARD. -/
theorem paramsGets_holds : Rows.ParamsGetsCardSaid :=
  Claim7.holds_tied_plain_at .later [] [.data, .data, .data] true (true, "4458feca6dd9f3487c4421ad4cb313d72e0174510b7d77276993b3156a906d65") false
    paramsGets_row (fun _ h => by cases h) (by kernel_rfl) (fun _ h => by cases h) paramsGets_row_tie rfl ⟨rfl, rfl⟩ (by kernel_rfl) rfl
    (fun f fn hf hfn => by
      obtain rfl : f = 3 := Option.some.inj ((show Tryd.prog.funcNamed "scrollback/scrollbacklaw10.ParamsGets" = some 3 by kernel_rfl).symm.trans hf) |>.symm
      obtain rfl : fn = Tryd.f3 := (Option.some.inj (Tryd.func3.symm.trans hfn)).symm
      exact ⟨by kernel_rfl, fun j t ht => by
        rw [Tryd.params3] at ht
        have hm : t ∈ [22, 3, 3] := by simpa using Array.mem_of_getElem? ht
        have hall : ([22, 3, 3].all fun u => !Tryd.prog.wantsStandIn u) = true := by kernel_rfl
        exact (show Tryd.prog.wantsStandIn t = false by simpa using List.all_eq_true.1 hall t hm)⟩)
    (by kernel_rfl)

end Go.Proofs.YtdbjebjmhjljbaaDoor
