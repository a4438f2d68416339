/- utf: UtfNil returns true for every input. No condition. -/
import Derived.Test.YtacpbfkelpehhaaDecodes
namespace Go.Proofs.Ytacpbfkelpehhaa
open Go.ChangeShapes Go.WideShapes Go.ChangeAt Go.RowKit
attribute [local go_sem ↓] Go.wp_at_zero Go.wp_at_succ

set_option maxRecDepth 100000 in
theorem feed_nilptr (v : Value) (xs : List Int) (w : World) (h : Rd w .u8 v xs) :
    Calls Try.prog 17 #[.pointer none, v] w (RetOwn w 21 .i32 []) := by
  have h0 := h
  obtain ⟨p, cap, rfl, l1, m1, c1⟩ := h
  unfold maxLen at m1
  go_enter Try.func17, Try.ntmps17
  go_wp2_with fail
  go_loopw [5, 10] (fun u i wr => ∃ (k : Nat), k ≤ xs.length ∧ i = .int .i64 k ∧ Own wr w.heap.size 21 .i32 u [] ∧ Below w.heap.size w wr) (fun _ i _ => xs.length - (intOf i).toNat)
  case atStart => exact ⟨0, by omega, rfl, Own.nil _ _ _ _, Below.refl _ _⟩
  case round =>
    obtain ⟨k, hk, rfl, hou, hbel⟩ := hrel
    by_cases hlt : k < xs.length
    · obtain ⟨b1, o1, rfl, q1, d1⟩ := Rd.at c1 l1 hlt
      have d3 : wr.cell? ⟨b1, o1 + k, none⟩ = some (.int .u8 xs[k]) := by rw [hbel.cell (p := ⟨b1, _, none⟩) q1]; exact d1
      clear c1 d1
      have r1 : (0 : Int) ≤ (k : Int) := by omega
      have r2 : (k : Int) < (xs.length : Int) := by omega
      go_wp2_with (first | (go_at_call 21; refine (step_nilptr _ _).mono ?_; rintro e w' ⟨rfl, rfl⟩) | (at_builtin; refine wpList_appw rfl _ _ 25 21 .i32 4 rfl Try.underlying25 el32 w.heap.size _ _ [] [] hou (Rd.nil _ _) rfl rfl (by simp [maxLen]) (by simp) hbel.size ?_; intro v' w1 hown hg1 _))
      go_roundw
      have hrel2 : Own w1 w.heap.size 21 .i32 v' [] ∧ Below w.heap.size w w1 := ⟨hown, app_below hbel hg1 (fun g h => (hou.block g h).1)⟩
      clear hown hg1
      case rel => first | exact ⟨k + 1, by omega, by go_num, hrel2⟩ | ((repeat apply Exists.intro); exact ⟨⟨k + 1, by omega, by go_num, hrel2⟩, rfl⟩)
      case measure => simp [intOf]; omega
    · clear c1
      go_wp2_with fail
      go_ret
      exact ⟨_, rfl, hou, hbel⟩
set_option maxRecDepth 100000 in
set_option maxHeartbeats 1000000 in
theorem utfNil_any (v : Value) (xs : List Int) (w : World) (h : Rd w .u8 v xs) :
    Calls Try.prog 8 #[v] w fun e w' => e = .returned (.bool true) ∧ Below w.heap.size w w' := by
  have h0 := h
  obtain ⟨p, cap, rfl, l1, m1, c1⟩ := h
  unfold maxLen at m1
  by_cases hl : 20 < xs.length
  · clear c1
    go_enter Try.func8, Try.ntmps8
    go_wp2_with (go_at_call 9; refine (known_any _).mono ?_; rintro e wk ⟨rfl, hbk⟩)
    go_ret
    exact ⟨rfl, hbk⟩
  · go_enter Try.func8, Try.ntmps8
    go_wp2_with fail
    go_loopw [12] (fun i wr => ∃ (k : Nat), k ≤ xs.length ∧ i = .int .i64 k ∧ Below w.heap.size w wr) (fun i _ => xs.length - (intOf i).toNat)
    case atStart => exact ⟨0, by omega, rfl, Below.refl _ _⟩
    case round =>
      obtain ⟨k, hk, rfl, hbel⟩ := hrel
      by_cases hlt : k < xs.length
      · obtain ⟨b1, o1, rfl, q1, d1⟩ := Rd.at c1 l1 hlt
        have d3 : wr.cell? ⟨b1, o1 + k, none⟩ = some (.int .u8 xs[k]) := by rw [hbel.cell (p := ⟨b1, _, none⟩) q1]; exact d1
        clear c1 d1
        have r1 : (0 : Int) ≤ (k : Int) := by omega
        have r2 : (k : Int) < (xs.length : Int) := by omega
        go_wp2_with (go_at_call 21; refine (step_nilptr _ _).mono ?_; rintro e w' ⟨rfl, rfl⟩)
        go_roundw
        case rel => first | exact ⟨k + 1, by omega, by go_num, hbel⟩ | ((repeat apply Exists.intro); exact ⟨⟨k + 1, by omega, by go_num, hbel⟩, rfl⟩)
        case measure => simp [intOf]; omega
      · clear c1
        go_wp2_with (first | (go_at_call 17; refine (feed_nilptr _ _ _ (h0.below hbel)).mono ?_; rintro e w1 ⟨u, rfl, hu, hb1⟩; obtain ⟨pu, cu, hu2, _, _, _⟩ := hu.rd; subst hu2) | (go_at_call 19; refine (end_nil _).mono ?_; rintro e w' ⟨rfl, rfl⟩) | (go_at_call 18; refine (pending_nil _).mono ?_; rintro e w' ⟨rfl, rfl⟩) | (go_at_call 20; refine (copy_nil _).mono ?_; rintro e w' ⟨rfl, rfl⟩) | (go_at_call 9; refine (known_any _).mono ?_; rintro e wk ⟨rfl, hbk⟩))
        go_ret
        exact ⟨rfl, bl_trans (bl_trans hbel hb1) hbk⟩

set_option maxRecDepth 100000 in
theorem utfNil_lifted (os : Os) (started : os.Started) (H : Type) (enc : TypeId × Value → H) :
    ReturnsInHanded {} Try.checked os 8 .any (Rows.utfNilSpec.pre6 enc Try.prog Try.f8 Rows.utfNilRow.domain false) (Rows.utfNilSpec.post enc Try.prog Try.f8 false true false false) := by
  refine returnsInHanded_of_change (C := Try.checked) Try.own started (by kernel_rfl) Try.func8
    (ChangeSpec.witness6 (enc := enc) (C := Try.checked) false ⟨#[], #[.slice none 0 0], []⟩ 8 (by kernel_rfl) (by kernel_rfl) (by kernel_rfl) (by kernel_rfl)) ?_
  intro W base args ds gs before hval0 hW hcnd _
  have hval : ∀ (j : Nat) t v, Try.f8.params[j]? = some t → args[j]? = some v → Value.okWide Try.prog W .any base t v := hval0
  have hW' := hW
  obtain ⟨p, q, hA0, hV, rfl, hfz, hnd⟩ := hW
  have hA : DataW.TrodAll enc Try.prog W 0 (fun _ => true) true Try.f8.params.toList args.toList ds p := hA0
  rw [Try.params8] at hA hval
  obtain ⟨v0, d0, rfl, rfl, h0⟩ := trodAll_one hA
  obtain ⟨rfl, rfl⟩ := trodVars_none hV
  obtain ⟨xs, hx, hw⟩ := open_rd (k := .u8) Try.underlying22 Try.underlying5 (by kernel_rfl) (hval 0 _ v0 rfl rfl) h0
  clear hA0 hval0
  refine (utfNil_any v0 xs W hx).mono fun e W' ⟨he, hw⟩ => ?_
  exact ⟨_, he, post_law Try.laidOut rfl hW' (by kernel_rfl) rfl Try.underlying4 rfl hw⟩

theorem utfNil_holds : Rows.UtfNilSaid :=
  OpenClaim.holds_of_wide 8 Try.f8 rfl rfl rfl rfl rfl rfl rfl ⟨rfl, rfl, rfl, rfl, rfl⟩ rfl rfl rfl rfl rfl (by kernel_rfl) Try.func8 (by kernel_rfl)
    (of_decide_eq_true (by kernel_rfl)) (by unfold Func.isWrapper; rw [if_neg (of_decide_eq_false (by kernel_rfl))]; exact ⟨rfl, rfl⟩)
    (fun os started H enc _ => utfNil_lifted os started H enc)

end Go.Proofs.Ytacpbfkelpehhaa
