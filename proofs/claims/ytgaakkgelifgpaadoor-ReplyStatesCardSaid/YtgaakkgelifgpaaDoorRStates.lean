/- reply: ReplyStates returns true for every input. No condition. -/
import Derived.Test.YtgaakkgelifgpaaDoorRq
import Derived.Test.YtgaakkgelifgpaaDoorCards
import Derived.Test.YtgaakkgelifgpaaDoorTie
import Derived.SevenTiedAt
import Derived.ChangeMaps5
import Derived.Outline
set_option linter.unusedSimpArgs false
set_option linter.unusedVariables false
set_option linter.unnecessarySimpa false
namespace Go.Proofs.YtgaakkgelifgpaaDoor
open Go.ChangeShapes Go.WideShapes Go.ChangeAt Go.RowKit

set_option maxHeartbeats 4000000 in
set_option maxRecDepth 100000 in
theorem replyStates_any (pre n : Int) (rows cols top bottom : Int) (o : Bool) (r c : Int) (p : Bool) (w : World) (h : Gl w) : Calls Tryd.prog 3 #[.int .i32 pre, .int .i64 n, .agg #[.int .i64 rows, .int .i64 cols, .int .i64 top, .int .i64 bottom, .bool o], .agg #[.int .i64 r, .int .i64 c, .bool p]] w fun e w' => e = .returned (.bool true) ∧ Below w.heap.size w w' := by
  have cR := fun W => ratt_any pre W
  obtain ⟨s, hs⟩ : ∃ s, attS pre = s := ⟨_, rfl⟩
  obtain ⟨no, hno⟩ : ∃ no, attE pre = no := ⟨_, rfl⟩
  rw [hs, hno] at cR
  go_enter Tryd.func3, Tryd.ntmps3
  go_wp2_with (first | (go_at_call 6; (with_reducible refine (cR _).mono ?_); rintro e w1 ⟨rfl, hb1⟩; have hl1 : Below w.heap.size w w1 := bl_trans (bl_alloc (bl_alloc (Below.refl _ _) _) _) hb1; have xA1 : Box w1 w.heap.size #[.int .i64 rows, .int .i64 cols, .int .i64 top, .int .i64 bottom, .bool o] 25 := (hb1.block _ (by simp <;> omega)).trans ((Box.new _ _ _ rfl).alloc _); have xC1 : Box w1 (w.heap.size + 1) #[.int .i64 r, .int .i64 c, .bool p] 27 := (hb1.block _ (by simp <;> omega)).trans (Box.new _ _ _ (by simp)); clear hb1) | (go_at_call 7; (with_reducible refine (asks_t pre s no _ hs hno).mono ?_); rintro e w2 ⟨rfl, hb2⟩; have hl2 := bl_trans hl1 hb2; have xA2 : Box w2 _ _ _ := (hb2.block _ xA1.lt).trans xA1; have xC2 : Box w2 _ _ _ := (hb2.block _ xC1.lt).trans xC1; clear hb2 hl1 xA1 xC1))
  have hl0 : Below w.heap.size w (w2.alloc (.cells #[.int .i64 n, .int .i64 5, .int .i64 6] 3)) := bl_alloc hl2 _
  have hG0 := h.below hl0
  have xA0 : Box (w2.alloc (.cells #[.int .i64 n, .int .i64 5, .int .i64 6] 3)) _ _ _ := xA2.alloc _
  have xC0 : Box (w2.alloc (.cells #[.int .i64 n, .int .i64 5, .int .i64 6] 3)) _ _ _ := xC2.alloc _
  have xS0 : Box (w2.alloc (.cells #[.int .i64 n, .int .i64 5, .int .i64 6] 3)) w2.heap.size #[.int .i64 n, .int .i64 5, .int .i64 6] 3 := Box.new _ _ _ rfl
  generalize w2.alloc (.cells #[.int .i64 n, .int .i64 5, .int .i64 6] 3) = W0 at *
  obtain ⟨b0, hb0⟩ : ∃ b0, w2.heap.size = b0 := ⟨_, rfl⟩
  rw [hb0] at xS0 ⊢
  clear hb0 hl2 xA2 xC2
  go_loopw [28] (fun i wr => ∃ (k : Nat), k ≤ 3 ∧ i = .int .i64 k ∧ Below W0.heap.size W0 wr) (fun i _ => 3 - (intOf i).toNat)
  case atStart => exact ⟨0, by omega, rfl, Below.refl _ _⟩
  case round =>
    obtain ⟨k, hk, rfl, hbel⟩ := hrel
    have hG := hG0.below hbel
    have xA : Box wr _ _ _ := (hbel.block _ xA0.lt).trans xA0
    have xC : Box wr _ _ _ := (hbel.block _ xC0.lt).trans xC0
    have xS : Box wr _ _ _ := (hbel.block _ xS0.lt).trans xS0
    have cA := xA.cell
    have cC := xC.cell
    have lA := xA.lt
    have lC := xC.lt
    have lS := xS.lt
    by_cases hlt : k < 3
    · obtain ⟨x, d1⟩ : ∃ x, wr.cell? ⟨b0, k, none⟩ = some (.int .i64 x) := by
        rw [xS.cell]
        match k, hlt with
        | 0, _ => exact ⟨n, rfl⟩
        | 1, _ => exact ⟨5, rfl⟩
        | 2, _ => exact ⟨6, rfl⟩
      have r1 : (0 : Int) ≤ (k : Int) := by omega
      have r2 : (k : Int) < 3 := by omega
      have cS := fun W => rstatus_any x rows cols top bottom o r c p W
      obtain ⟨u, hu⟩ : ∃ u, statS x rows cols top bottom o r c p = u := ⟨_, rfl⟩
      obtain ⟨f, hf⟩ : ∃ f, statE x rows cols top bottom o r c p = f := ⟨_, rfl⟩
      rw [hu, hf] at cS
      clear xA xC xS hs hno cR
      go_wp2_with (first | (go_at_call 8; (with_reducible refine (cS _).mono ?_); rintro e w1 ⟨rfl, hb⟩; (first | obtain ⟨X, rfl⟩ := GW.of2 hb | obtain ⟨X, rfl⟩ := GW.of hb); clear hb) | (go_at_call 9; (with_reducible refine (states_t x rows cols top bottom o r c p u f _ (hG.below (GW.grow _)).t hu hf).mono ?_); rintro e w1 ⟨rfl, hb⟩; (first | obtain ⟨X, rfl⟩ := GW.of2 hb | obtain ⟨X, rfl⟩ := GW.of hb); clear hb))
      go_roundw
      case rel => exact ⟨k + 1, by omega, by go_num, bl_trans hbel (GW.grow _)⟩
      case measure => simp [intOf]; omega
    · go_wp2_with (first | (go_at_call 10; (with_reducible refine (known_any _ hG.g hG.t).mono ?_); rintro e w1 ⟨rfl, hb⟩))
      go_ret
      exact ⟨rfl, bl_trans hl0 (bl_trans hbel hb)⟩

set_option maxRecDepth 100000 in
theorem replyStates_lifted (os : Os) (started : os.Started) (H : Type) (enc : TypeId × Value → H) :
    ReturnsInHanded {} Tryd.checked os 3 .any (fun w args => (Rows.replyStatesSpec.pre enc Tryd.prog Tryd.f3 [] false w args ∧ laidMetH Tryd.prog laid5 w) ∧ sizedMet enc Tryd.prog Tryd.f3 (OpenSpec.ofChange Rows.replyStatesSpec) false w args)
      (Rows.replyStatesSpec.post enc Tryd.prog Tryd.f3 false true false false) := by
  refine returnsInHanded_of_change_and (C := Tryd.checked) (X := fun w _ => laidMetH Tryd.prog laid5 w) (fun _ _ _ hh h => h.of_heap hh) Tryd.own started (by kernel_rfl) Tryd.func3
    (ChangeSpec.witness_shaped (enc := enc) (C := Tryd.checked) (os := os) (X := fun w _ => laidMetH Tryd.prog laid5 w) false (World.doorLaid Tryd.prog 400 os) #[.int .i32 0, .int .i64 0, .agg #[.int .i64 0, .int .i64 0, .int .i64 0, .int .i64 0, .bool false], .agg #[.int .i64 0, .int .i64 0, .bool false]] 8 rfl (World.shaped_of_RefB (by kernel_rfl) (by kernel_rfl)) (by kernel_rfl) (by kernel_rfl) (by kernel_rfl) (door_met os _)) ?_
  intro W base args ds gs before hval0 hW _ _ hL _
  have hval : ∀ (j : Nat) t v, Tryd.f3.params[j]? = some t → args[j]? = some v → Value.okWide Tryd.prog W .any base t v := hval0
  have hW' := hW
  obtain ⟨p, q, hA0, hV, rfl, hfz, hnd⟩ := hW
  have hA : DataW.TrodAll enc Tryd.prog W 0 (fun _ => true) true Tryd.f3.params.toList args.toList ds p := hA0
  rw [Tryd.params3] at hA hval
  obtain ⟨v0, v1, v2, v3, d0, d1, d2, d3, p0, p1, p2, p3, rfl, rfl, rfl, h0, h1, h2, h3⟩ := trodAll_four hA
  obtain ⟨rfl, rfl⟩ := trodVars_none hV
  obtain ⟨pre, rfl, hp⟩ := open_num Tryd.underlying21 (hval 0 21 v0 rfl rfl) h0
  obtain ⟨n, rfl, hn⟩ := open_num Tryd.underlying3 (hval 1 3 v1 rfl rfl) h1
  obtain ⟨rows, cols, top, bottom, o, rfl⟩ := open_area (hval 2 25 v2 rfl rfl) h2
  obtain ⟨r, c, p, rfl⟩ := open_cursor (hval 3 27 v3 rfl rfl) h3
  clear hA0 hval0
  have hT := gl_of_laid hL
  refine (replyStates_any pre n rows cols top bottom o r c p W hT).mono fun e W' ⟨he, hw⟩ => ?_
  exact ⟨_, he, post_law Tryd.laidOut rfl hW' (by kernel_rfl) rfl Tryd.underlying4 rfl hw⟩

theorem replyStates_row : Rows.ReplyStatesSaid :=
  OpenClaim.holds_of_wide 3 Tryd.f3 rfl rfl rfl rfl rfl rfl rfl ⟨rfl, rfl, rfl, rfl, rfl⟩ rfl rfl rfl rfl rfl (by kernel_rfl) Tryd.func3 (by kernel_rfl)
    (of_decide_eq_true (by kernel_rfl)) (by unfold Func.isWrapper; first | (rw [if_pos (by decide +kernel)]; kernel_rfl) | (rw [if_neg (by decide +kernel)]; exact ⟨rfl, rfl⟩))
    (fun os started H enc _ => replyStates_lifted os started H enc)

set_option maxHeartbeats 8000000 in
set_option maxRecDepth 100000 in
/-- THE TIED CARD. -/
theorem replyStates_holds : Rows.ReplyStatesCardSaid :=
  Claim7.holds_tied_plain_at .later [] [.data, .data, .data, .widerDeep, .widerDeep] true (true, "2d3ee795f17876eb2da75f0f920536920ad974c4bcade430eed843988a6c4a77") false
    replyStates_row (fun _ h => by cases h) (by kernel_rfl) (fun _ h => by cases h) replyStates_row_tie rfl ⟨rfl, rfl⟩ (by kernel_rfl) rfl
    (fun f fn hf hfn => by
      obtain rfl : f = 3 := Option.some.inj ((show Tryd.prog.funcNamed "scrollback/scrollbacklaw25.ReplyStates" = some 3 by kernel_rfl).symm.trans hf) |>.symm
      obtain rfl : fn = Tryd.f3 := (Option.some.inj (Tryd.func3.symm.trans hfn)).symm
      exact ⟨by kernel_rfl, fun j t ht => by
        rw [Tryd.params3] at ht
        have hm : t ∈ [21, 3, 25, 27] := by simpa using Array.mem_of_getElem? ht
        have hall : ([21, 3, 25, 27].all fun u => !Tryd.prog.wantsStandIn u) = true := by kernel_rfl
        exact (show Tryd.prog.wantsStandIn t = false by simpa using List.all_eq_true.1 hall t hm)⟩)
    (by kernel_rfl)

end Go.Proofs.YtgaakkgelifgpaaDoor
