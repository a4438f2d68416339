/- params: ParamsTexts returns true for every input. No condition. -/
import Derived.Test.YtdbjebjmhjljbaaDoorU
import Derived.Test.YtdbjebjmhjljbaaDoorV
import Derived.Test.YtdbjebjmhjljbaaDoorCards
import Derived.Test.YtdbjebjmhjljbaaDoorTie
import Derived.SevenTiedAt
import Derived.ChangeMaps5
import Derived.Outline
set_option linter.unusedSimpArgs false
set_option linter.unusedVariables false
set_option linter.unnecessarySimpa false
namespace Go.Proofs.YtdbjebjmhjljbaaDoor
open Go.ChangeShapes Go.WideShapes Go.ChangeAt Go.RowKit Go.ChangeMaps

def refB (s : ByteArray) : List Int := if fineS s = true then (if s.size = 0 then [] else refL (bytesOf s)) else []
theorem parseL_ref (s : ByteArray) : parseL s = refB s := by
  unfold parseL refB
  by_cases h : fineS s = true
  · rw [if_pos h, if_pos h]
    by_cases h0 : s.size = 0
    · rw [if_pos h0]
      have e : bytesOf s = [] := List.eq_nil_of_length_eq_zero (by rw [bytesOf_len]; exact h0)
      rw [e]; rfl
    · rw [if_neg h0]
      exact bld_ref _ ((fineS_iff s).1 h) (fun e => h0 (by rw [← bytesOf_len, e]; rfl))
  · rw [if_neg h, if_neg h]
theorem rparse_u (s : ByteArray) (w : World) (hs : s.size ≤ 1000000) :
    Calls Tryd.prog 18 #[.string s] w fun e w' => ∃ v, e = .returned (.tuple #[v, .bool (fineS s)]) ∧ Own w' w.heap.size 3 .i64 v (parseL s) ∧ Below w.heap.size w w' := by
  rw [parseL_ref]
  unfold refB
  by_cases h : fineS s = true
  · rw [if_pos h, h]
    by_cases h0 : s.size = 0
    · rw [if_pos h0]
      exact (rparse_nil s w h0).mono fun e w' ⟨he, hw⟩ => ⟨_, he, hw ▸ Own.nil _ _ _ _, hw ▸ Below.refl _ _⟩
    · rw [if_neg h0]
      exact rparse_any s w hs h0 ((fineS_iff s).1 h)
  · rw [if_neg h, show fineS s = false by simpa using h]
    exact (rparse_no s w hs (fun h' => h ((fineS_iff s).2 h'))).mono fun e w' ⟨he, hw⟩ => ⟨_, he, hw ▸ Own.nil _ _ _ _, hw ▸ Below.refl _ _⟩

set_option maxHeartbeats 2000000 in
theorem paramsTexts_any (v : Value) (l : List Int) (s : ByteArray) (w : World) (h : Rd w .i64 v l) (ht : Tab w) : Calls Tryd.prog 4 #[v, .string s] w fun e w' => e = .returned (.bool true) ∧ Below w.heap.size w w' := by
  have h0 := h
  obtain ⟨p, cap, rfl, l1, m1, _⟩ := h0
  unfold maxLen at m1
  by_cases hl : 40 < l.length
  · go_enter Tryd.func4, Tryd.ntmps4
    go_wp2_with (go_at_call 9; (with_reducible refine (known_any _ (ht.below (Below.refl _ _))).mono ?_); rintro e wk ⟨rfl, hbk⟩)
    go_ret
    exact ⟨rfl, hbk⟩
  by_cases hs : 200 < s.size
  · go_enter Tryd.func4, Tryd.ntmps4
    go_wp2_with (go_at_call 9; (with_reducible refine (known_any _ (ht.below (Below.refl _ _))).mono ?_); rintro e wk ⟨rfl, hbk⟩)
    go_ret
    exact ⟨rfl, hbk⟩
  have c1 := rvalid_any _ l w h
  by_cases hv : validP l = true
  · have hvk := hv
    rw [hv] at c1
    obtain ⟨q1, q2, q3⟩ := parse_text l hv
    have q4 : textS l = ⟨(textB l).toArray⟩ := if_pos hv
    have q5 : textE l = 0 := if_pos hv
    have q6 := ok_of_valid hv
    have c2 := fun w' (hb : Below w.heap.size w w') => rtext_any _ l w' (h.below hb) (fun x hx => (q6.1 x hx).2) (by omega)
    generalize (⟨(textB l).toArray⟩ : ByteArray) = tb at *
    have HQ6 := Lib.hid q6
    clear q6
    by_cases hf : fineS s = true
    · have hpe : parseE s = 0 := if_pos hf
      have c3 := fun w => rparse_u s w (by omega)
      rw [hf] at c3
      go_enter Tryd.func4, Tryd.ntmps4
      go_wp2_with (first | (go_at_call 11; (with_reducible refine c1.mono ?_); rintro e w1 ⟨rfl, hb1⟩) | (go_at_call 16; (with_reducible refine (c2 _ hb1).mono ?_); rintro e w2 ⟨rfl, hb2⟩; have hbA := bl_trans hb1 hb2) | (go_at_call 15; (with_reducible refine (text_t _ l tb 0 _ (h.below hbA) (ht.below hbA) q4 q5).mono ?_); rintro e w3 ⟨rfl, hb3⟩; have hbB := bl_trans hbA hb3) | (go_at_call 16; (with_reducible refine (c2 _ hbB).mono ?_); rintro e w4 ⟨rfl, hb4⟩; have hbC := bl_trans hbB hb4) | (go_at_call 17; (with_reducible refine (parses_t tb 0 _ l _ q3 (h.below hbC) q1 q2).mono ?_); rintro e w5 ⟨rfl, hb5⟩; have hbD := bl_trans hbC hb5) | (go_at_call 18; (with_reducible refine (c3 _).mono ?_); rintro e wr ⟨u, rfl, hu, hbr⟩; obtain ⟨p1, n1, c1', hu1⟩ := hu.rd.shape; subst hu1; have hbR := bl_trans hbD hbr) | (go_at_call 17; (with_reducible refine (parses_t s 0 _ _ _ (by omega) hu.rd rfl hpe).mono ?_); rintro e wq ⟨rfl, hbq⟩; have hbQ := bl_trans hbR hbq) | (go_at_call 9; (with_reducible refine (known_any _ (ht.below hbQ)).mono ?_); rintro e wk ⟨rfl, hbk⟩))
      go_ret
      exact ⟨rfl, bl_trans hbQ hbk⟩
    · have hpe : parseE s = 6 := if_neg hf
      have hpn : parseL s = [] := if_neg hf
      have hf0 : fineS s = false := by simpa using hf
      have c3 := fun w => rparse_u s w (by omega)
      rw [hf0] at c3
      go_enter Tryd.func4, Tryd.ntmps4
      go_wp2_with (first | (go_at_call 11; (with_reducible refine c1.mono ?_); rintro e w1 ⟨rfl, hb1⟩) | (go_at_call 16; (with_reducible refine (c2 _ hb1).mono ?_); rintro e w2 ⟨rfl, hb2⟩; have hbA := bl_trans hb1 hb2) | (go_at_call 15; (with_reducible refine (text_t _ l tb 0 _ (h.below hbA) (ht.below hbA) q4 q5).mono ?_); rintro e w3 ⟨rfl, hb3⟩; have hbB := bl_trans hbA hb3) | (go_at_call 16; (with_reducible refine (c2 _ hbB).mono ?_); rintro e w4 ⟨rfl, hb4⟩; have hbC := bl_trans hbB hb4) | (go_at_call 17; (with_reducible refine (parses_t tb 0 _ l _ q3 (h.below hbC) q1 q2).mono ?_); rintro e w5 ⟨rfl, hb5⟩; have hbD := bl_trans hbC hb5) | (go_at_call 18; (with_reducible refine (c3 _).mono ?_); rintro e wr ⟨u, rfl, hu, hbr⟩; obtain ⟨p1, n1, c1', hu1⟩ := hu.rd.shape; subst hu1; have hbR := bl_trans hbD hbr) | (go_at_call 17; (with_reducible refine (parses_t s 6 _ [] _ (by omega) (Rd.nil _ _) hpn hpe).mono ?_); rintro e wq ⟨rfl, hbq⟩; have hbQ := bl_trans hbR hbq) | (go_at_call 9; (with_reducible refine (known_any _ (ht.below hbQ)).mono ?_); rintro e wk ⟨rfl, hbk⟩))
      go_ret
      exact ⟨rfl, bl_trans hbQ hbk⟩
  · have hv0 : validP l = false := by simpa using hv
    rw [hv0] at c1
    have q4 : textS l = ⟨#[]⟩ := if_neg hv
    have q5 : textE l = 2 := if_neg hv
    by_cases hf : fineS s = true
    · have hpe : parseE s = 0 := if_pos hf
      have c3 := fun w => rparse_u s w (by omega)
      rw [hf] at c3
      go_enter Tryd.func4, Tryd.ntmps4
      go_wp2_with (first | (go_at_call 11; (with_reducible refine c1.mono ?_); rintro e w1 ⟨rfl, hb1⟩) | (go_at_call 15; (with_reducible refine (text_t _ l ⟨#[]⟩ 2 _ (h.below hb1) (ht.below hb1) q4 q5).mono ?_); rintro e w3 ⟨rfl, hb3⟩; have hbD := bl_trans hb1 hb3) | (go_at_call 18; (with_reducible refine (c3 _).mono ?_); rintro e wr ⟨u, rfl, hu, hbr⟩; obtain ⟨p1, n1, c1', hu1⟩ := hu.rd.shape; subst hu1; have hbR := bl_trans hbD hbr) | (go_at_call 17; (with_reducible refine (parses_t s 0 _ _ _ (by omega) hu.rd rfl hpe).mono ?_); rintro e wq ⟨rfl, hbq⟩; have hbQ := bl_trans hbR hbq) | (go_at_call 9; (with_reducible refine (known_any _ (ht.below hbQ)).mono ?_); rintro e wk ⟨rfl, hbk⟩))
      go_ret
      exact ⟨rfl, bl_trans hbQ hbk⟩
    · have hpe : parseE s = 6 := if_neg hf
      have hpn : parseL s = [] := if_neg hf
      have hf0 : fineS s = false := by simpa using hf
      have c3 := fun w => rparse_u s w (by omega)
      rw [hf0] at c3
      go_enter Tryd.func4, Tryd.ntmps4
      go_wp2_with (first | (go_at_call 11; (with_reducible refine c1.mono ?_); rintro e w1 ⟨rfl, hb1⟩) | (go_at_call 15; (with_reducible refine (text_t _ l ⟨#[]⟩ 2 _ (h.below hb1) (ht.below hb1) q4 q5).mono ?_); rintro e w3 ⟨rfl, hb3⟩; have hbD := bl_trans hb1 hb3) | (go_at_call 18; (with_reducible refine (c3 _).mono ?_); rintro e wr ⟨u, rfl, hu, hbr⟩; obtain ⟨p1, n1, c1', hu1⟩ := hu.rd.shape; subst hu1; have hbR := bl_trans hbD hbr) | (go_at_call 17; (with_reducible refine (parses_t s 6 _ [] _ (by omega) (Rd.nil _ _) hpn hpe).mono ?_); rintro e wq ⟨rfl, hbq⟩; have hbQ := bl_trans hbR hbq) | (go_at_call 9; (with_reducible refine (known_any _ (ht.below hbQ)).mono ?_); rintro e wk ⟨rfl, hbk⟩))
      go_ret
      exact ⟨rfl, bl_trans hbQ hbk⟩

set_option maxRecDepth 100000 in
theorem paramsTexts_lifted (os : Os) (started : os.Started) (H : Type) (enc : TypeId × Value → H) :
    ReturnsInHanded {} Tryd.checked os 4 .any (fun w args => (Rows.paramsTextsSpec.pre enc Tryd.prog Tryd.f4 [] false w args ∧ laidMetH Tryd.prog laid3 w) ∧ sizedMet enc Tryd.prog Tryd.f4 (OpenSpec.ofChange Rows.paramsTextsSpec) false w args)
      (Rows.paramsTextsSpec.post enc Tryd.prog Tryd.f4 false true false false) := by
  refine returnsInHanded_of_change_and (C := Tryd.checked) (X := fun w _ => laidMetH Tryd.prog laid3 w) (fun _ _ _ hh h => h.of_heap hh) Tryd.own started (by kernel_rfl) Tryd.func4
    (ChangeSpec.witness_shaped (enc := enc) (C := Tryd.checked) (os := os) (X := fun w _ => laidMetH Tryd.prog laid3 w) false (World.doorLaid Tryd.prog 400 os) #[.slice none 0 0, .string ⟨#[]⟩] 8 rfl (World.shaped_of_RefB (by kernel_rfl) (by kernel_rfl)) (by kernel_rfl) (by kernel_rfl) (by kernel_rfl) (door_met os _)) ?_
  intro W base args ds gs before hval0 hW _ _ hL _
  have hval : ∀ (j : Nat) t v, Tryd.f4.params[j]? = some t → args[j]? = some v → Value.okWide Tryd.prog W .any base t v := hval0
  have hW' := hW
  obtain ⟨p, q, hA0, hV, rfl, hfz, hnd⟩ := hW
  have hA : DataW.TrodAll enc Tryd.prog W 0 (fun _ => true) true Tryd.f4.params.toList args.toList ds p := hA0
  rw [Tryd.params4] at hA hval
  obtain ⟨v0, v1, d0, d1, p0, p1, rfl, rfl, rfl, h0, h1⟩ := trodAll_two hA
  obtain ⟨rfl, rfl⟩ := trodVars_none hV
  obtain ⟨l, hl, _⟩ := open_rd Tryd.underlying22 Tryd.underlying3 (by kernel_rfl) (hval 0 22 v0 rfl rfl) h0
  obtain ⟨s, rfl, _⟩ := open_string Tryd.underlying9 (hval 1 9 v1 rfl rfl) h1
  clear hA0 hval0
  have hT := tab_of_laid hL
  refine (paramsTexts_any v0 l s W hl hT).mono fun e W' ⟨he, hw⟩ => ?_
  exact ⟨_, he, post_law Tryd.laidOut rfl hW' (by kernel_rfl) rfl Tryd.underlying4 rfl hw⟩

theorem paramsTexts_row : Rows.ParamsTextsSaid :=
  OpenClaim.holds_of_wide 4 Tryd.f4 rfl rfl rfl rfl rfl rfl rfl ⟨rfl, rfl, rfl, rfl, rfl⟩ rfl rfl rfl rfl rfl (by kernel_rfl) Tryd.func4 (by kernel_rfl)
    (of_decide_eq_true (by kernel_rfl)) (by unfold Func.isWrapper; first | (rw [if_pos (by decide +kernel)]; kernel_rfl) | (rw [if_neg (by decide +kernel)]; exact ⟨rfl, rfl⟩))
    (fun os started H enc _ => paramsTexts_lifted os started H enc)

/-- THE TIED CARD. -/
theorem paramsTexts_holds : Rows.ParamsTextsCardSaid :=
  Claim7.holds_tied_plain_at .later [] [.data, .data, .data] true (true, "4458feca6dd9f3487c4421ad4cb313d72e0174510b7d77276993b3156a906d65") false
    paramsTexts_row (fun _ h => by cases h) (by kernel_rfl) (fun _ h => by cases h) paramsTexts_row_tie rfl ⟨rfl, rfl⟩ (by kernel_rfl) rfl
    (fun f fn hf hfn => by
      obtain rfl : f = 4 := Option.some.inj ((show Tryd.prog.funcNamed "scrollback/scrollbacklaw10.ParamsTexts" = some 4 by kernel_rfl).symm.trans hf) |>.symm
      obtain rfl : fn = Tryd.f4 := (Option.some.inj (Tryd.func4.symm.trans hfn)).symm
      exact ⟨by kernel_rfl, fun j t ht => by
        rw [Tryd.params4] at ht
        have hm : t ∈ [22, 9] := by simpa using Array.mem_of_getElem? ht
        have hall : ([22, 9].all fun u => !Tryd.prog.wantsStandIn u) = true := by kernel_rfl
        exact (show Tryd.prog.wantsStandIn t = false by simpa using List.all_eq_true.1 hall t hm)⟩)
    (by kernel_rfl)

end Go.Proofs.YtdbjebjmhjljbaaDoor
