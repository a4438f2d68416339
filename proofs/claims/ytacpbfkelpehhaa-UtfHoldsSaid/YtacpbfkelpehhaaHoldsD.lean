/- utf: UtfHolds returns true for every input. No condition. -/
import Derived.Test.YtacpbfkelpehhaaHoldsC
import Derived.Test.YtacpbfkelpehhaaFours
set_option linter.unusedSimpArgs false
set_option linter.unusedVariables false
set_option linter.unnecessarySimpa false
namespace Go.Proofs.Ytacpbfkelpehhaa
open Go.ChangeShapes Go.WideShapes Go.ChangeAt Go.RowKit
attribute [local go_sem ↓] Go.wp_at_zero Go.wp_at_succ

theorem utfHolds_any (v : Value) (xs : List Int) (f s : Int) (w : World) (h : Rd w .u8 v xs) (hby : ∀ x ∈ xs, Byte x) (hf : Byte f) (hs : Byte s) :
    Calls Try.prog 6 #[v, .int .u8 f, .int .u8 s] w fun e w' => e = .returned (.bool true) ∧ Below w.heap.size w w' := by
  have h0 := h
  obtain ⟨p, cap, rfl, l1, m1, c1⟩ := h
  clear c1
  unfold maxLen at m1
  by_cases hl : 150 < xs.length
  · clear h0
    go_enter Try.func6, Try.ntmps6
    go_wp2_with (go_at_call 9; refine (known_any _).mono ?_; rintro e wk ⟨rfl, hbk⟩)
    go_ret
    exact ⟨rfl, hbk⟩
  · obtain ⟨i, hi⟩ : ∃ i : Nat, f % ((xs.length : Int) + 1) = i := ⟨(f % ((xs.length : Int) + 1)).toNat, by have := hf; unfold Byte at this; have := Int.emod_nonneg f (show ((xs.length : Int) + 1) ≠ 0 by omega); omega⟩
    obtain ⟨k, hk⟩ : ∃ k : Nat, s % ((xs.length : Int) + 1) = k := ⟨(s % ((xs.length : Int) + 1)).toNat, by have := hs; unfold Byte at this; have := Int.emod_nonneg s (show ((xs.length : Int) + 1) ≠ 0 by omega); omega⟩
    have hi2 : i ≤ xs.length := by have := Int.emod_lt_of_pos f (show (0 : Int) < (xs.length : Int) + 1 by omega); omega
    have hk2 : k ≤ xs.length := by have := Int.emod_lt_of_pos s (show (0 : Int) < (xs.length : Int) + 1 by omega); omega
    rcases Nat.lt_trichotomy i k with h | h | h
    · exact utfHolds_lt p cap xs f s i k w h0 hby hf hs (by omega) hi hk h hk2
    · subst h; exact utfHolds_eq p cap xs f s i w h0 hby hf hs (by omega) hi hk hi2
    · exact utfHolds_gt p cap xs f s k i w h0 hby hf hs (by omega) hi hk h hi2

set_option maxRecDepth 100000 in
theorem utfHolds_lifted (os : Os) (started : os.Started) (H : Type) (enc : TypeId × Value → H) :
    ReturnsInHanded {} Try.checked os 6 .any (Rows.utfHoldsSpec.pre6 enc Try.prog Try.f6 Rows.utfHoldsRow.domain false) (Rows.utfHoldsSpec.post enc Try.prog Try.f6 false true false false) := by
  refine returnsInHanded_of_change (C := Try.checked) Try.own started (by kernel_rfl) Try.func6
    (ChangeSpec.witness6 (enc := enc) (C := Try.checked) false ⟨#[], #[.slice none 0 0, .int .u8 0, .int .u8 0], []⟩ 8 (by kernel_rfl) (by kernel_rfl) (by kernel_rfl) (by kernel_rfl)) ?_
  intro W base args ds gs before hval0 hW hcnd _
  have hval : ∀ (j : Nat) t v, Try.f6.params[j]? = some t → args[j]? = some v → Value.okWide Try.prog W .any base t v := hval0
  have hW' := hW
  obtain ⟨p, q, hA0, hV, rfl, hfz, hnd⟩ := hW
  have hA : DataW.TrodAll enc Try.prog W 0 (fun _ => true) true Try.f6.params.toList args.toList ds p := hA0
  rw [Try.params6] at hA hval
  obtain ⟨v0, v1, v2, d0, d1, d2, p0, p1, p2, rfl, rfl, rfl, h0, h1, h2⟩ := trodAll_three hA
  obtain ⟨rfl, rfl⟩ := trodVars_none hV
  obtain ⟨xs, hx, hw⟩ := open_rd (k := .u8) Try.underlying22 Try.underlying5 (by kernel_rfl) (hval 0 _ v0 rfl rfl) h0
  obtain ⟨a, hv1, _, hw1⟩ := open_byte (hval 1 _ v1 rfl rfl) h1
  obtain ⟨b, hv2, _, hw2⟩ := open_byte (hval 2 _ v2 rfl rfl) h2
  subst hv1 hv2
  clear hA0 hval0
  refine (utfHolds_any v0 xs a b W hx (fun n hn => wf_byte (hw n hn)) hw1 hw2).mono fun e W' ⟨he, hw⟩ => ?_
  exact ⟨_, he, post_law Try.laidOut rfl hW' (by kernel_rfl) rfl Try.underlying4 rfl hw⟩

theorem utfHolds_holds : Rows.UtfHoldsSaid :=
  OpenClaim.holds_of_wide 6 Try.f6 rfl rfl rfl rfl rfl rfl rfl ⟨rfl, rfl, rfl, rfl, rfl⟩ rfl rfl rfl rfl rfl (by kernel_rfl) Try.func6 (by kernel_rfl)
    (of_decide_eq_true (by kernel_rfl)) (by unfold Func.isWrapper; rw [if_neg (of_decide_eq_false (by kernel_rfl))]; exact ⟨rfl, rfl⟩)
    (fun os started H enc _ => utfHolds_lifted os started H enc)

end Go.Proofs.Ytacpbfkelpehhaa
