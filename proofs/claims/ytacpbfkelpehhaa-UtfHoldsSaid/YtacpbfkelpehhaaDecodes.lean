/- utf: UtfDecodes returns true for every input. No condition. -/
import Derived.Test.YtacpbfkelpehhaaK
import Derived.Test.YtacpbfkelpehhaaLift
import Derived.ChangeSlices
set_option linter.unusedSimpArgs false
set_option linter.unusedVariables false
set_option linter.unnecessarySimpa false
namespace Go.Proofs.Ytacpbfkelpehhaa
open Go.ChangeShapes Go.WideShapes Go.ChangeAt Go.RowKit
attribute [local go_sem ↓] Go.wp_at_zero Go.wp_at_succ

/-- A slice of numbers that came in, as the walks read it. -/
theorem open_rd {H : Type} {enc : TypeId × Value → H} {W : World} {b0 : Nat} {r : Reach} {v : Value} {d : DataW H} {p : List MemPlace} {t e : TypeId} {k : IntKind} (ht : Try.prog.underlying t = some (.slice e)) (he : Try.prog.underlying e = some (.int k)) (hc : Try.prog.cellsOf e = 1)
    (hv : Value.okWide Try.prog W r b0 t v) (h : DataW.Trod enc Try.prog W 0 (fun _ => true) true t v d p) : ∃ xs, Rd W k v xs ∧ ∀ n ∈ xs, (Lit.int k n).wf = true := by
  obtain ⟨fuel, hf⟩ := h
  obtain ⟨qv, lv, cv, rfl⟩ := okWide_slice ht hv
  have hone : (Value.slice qv lv cv).cells.toList = [Value.slice qv lv cv] := rfl
  rcases open_ints ht he hc hf with ⟨h1, _⟩ | ⟨a, len, cap, zs, h1, _, hl, hm, hz, _, hcell, hwf⟩
  · rw [hone] at h1
    obtain ⟨rfl, rfl, rfl⟩ : qv = none ∧ lv = 0 ∧ cv = 0 := by simpa using h1
    exact ⟨[], Rd.nil _ _, fun n hn => by cases hn⟩
  · rw [hone] at h1
    obtain ⟨rfl, rfl, rfl⟩ : qv = some a ∧ lv = len ∧ cv = cap := by simpa using h1
    simp only [if_true] at hz
    have hlz : (zs.take lv).length = lv := by rw [List.length_take]; omega
    have hok : a.spot = none ∧ a.block < W.heap.size := by
      simp only [Value.okWide, ht, Cell.okWide, Cell.ok] at hv
      obtain ⟨_, _, _, hs, row, cells, hsh, _⟩ := hv
      refine ⟨hs, ?_⟩
      unfold World.shape? at hsh
      split at hsh
      · rename_i h; exact (Array.getElem?_eq_some_iff.1 h).1
      · cases hsh
    obtain ⟨b, off, spot⟩ := a
    obtain ⟨rfl, hlt⟩ := hok
    refine ⟨zs.take lv, ⟨_, cv, by rw [hlz], by rw [hlz]; exact hl, hm, .inr ⟨b, off, rfl, hlt, fun i x hx => ?_⟩⟩, fun n hn => hwf n (List.mem_of_mem_take hn)⟩
    have hi := (List.getElem?_eq_some_iff.1 hx).1
    rw [hlz] at hi
    have := hcell i (by omega)
    rw [Addr.add_lit] at this
    rw [List.getElem?_take, if_pos hi] at hx
    rw [this]
    simp [List.getD, hx]
theorem wf_byte {n : Int} (h : (Lit.int .u8 n).wf = true) : Byte n := by
  simp only [Lit.wf, Bool.and_eq_true, decide_eq_true_eq] at h
  have e1 : IntKind.u8.min = 0 := by decide
  have e2 : IntKind.u8.max = 255 := by decide
  rw [e1, e2] at h
  unfold Byte
  omega

set_option maxRecDepth 100000 in
set_option maxHeartbeats 1000000 in
theorem utfDecodes_any (v : Value) (xs : List Int) (w : World) (h : Rd w .u8 v xs) (hb : ∀ x ∈ xs, Byte x) :
    Calls Try.prog 3 #[v] w fun e w' => e = .returned (.bool true) ∧ Below w.heap.size w w' := by
  have h0 := h
  obtain ⟨p, cap, rfl, l1, m1, c1⟩ := h
  clear c1
  unfold maxLen at m1
  by_cases hl : 200 < xs.length
  · go_enter Try.func3, Try.ntmps3
    go_wp2_with (go_at_call 9; refine (known_any _).mono ?_; rintro e w1 ⟨rfl, hb1⟩)
    go_ret
    exact ⟨rfl, hb1⟩
  · go_enter Try.func3, Try.ntmps3
    go_wp2_with (first | (at_builtin; refine wpList_app rfl _ _ 22 5 .u8 1 rfl Try.underlying22 el8 w.heap.size _ _ [] xs (Own.nil _ _ _ _) h0 rfl rfl (by simp [maxLen]; omega) (by simp; omega) (Nat.le_refl _) ?_; intro v' w1 hown hg1 _; rw [List.nil_append] at hown) | (go_at_call 11; refine (decode_any _ _ _ hown.rd hb (by omega)).mono ?_; rintro e w2 ⟨u2, rfl, hu2, hb2⟩) | (go_at_call 12; refine (rdecode_any _ _ _ ((h0.below hg1).below hb2) hb (by omega)).mono ?_; rintro e w3 ⟨u3, rfl, hu3, hb3⟩) | (go_at_call 10; refine (same_true _ _ _ _ _ (hu2.rd.below hb3) hu3.rd (Lib.hid rfl)).mono ?_; rintro e w4 ⟨rfl, hb4⟩; have kc1 := run_str (P := Try.prog) 22 9 5 Try.underlying22 Try.underlying5 Try.underlying9 (((hown.rd.below hb2).below hb3).below hb4); have kc2 := run_str (P := Try.prog) 22 9 5 Try.underlying22 Try.underlying5 Try.underlying9 ((((h0.below hg1).below hb2).below hb3).below hb4)) | (go_at_call 9; refine (known_any _).mono ?_; rintro e w5 ⟨rfl, hb5⟩))
    go_ret
    exact ⟨rfl, bl_trans (bl_trans (bl_trans (bl_trans hg1 hb2) hb3) hb4) hb5⟩

set_option maxRecDepth 100000 in
theorem utfDecodes_lifted (os : Os) (started : os.Started) (H : Type) (enc : TypeId × Value → H) :
    ReturnsInHanded {} Try.checked os 3 .any (Rows.utfDecodesSpec.pre6 enc Try.prog Try.f3 Rows.utfDecodesRow.domain false) (Rows.utfDecodesSpec.post enc Try.prog Try.f3 false true false false) := by
  refine returnsInHanded_of_change (C := Try.checked) Try.own started (by kernel_rfl) Try.func3
    (ChangeSpec.witness6 (enc := enc) (C := Try.checked) false ⟨#[], #[.slice none 0 0], []⟩ 8 (by kernel_rfl) (by kernel_rfl) (by kernel_rfl) (by kernel_rfl)) ?_
  intro W base args ds gs before hval0 hW hcnd _
  have hval : ∀ (j : Nat) t v, Try.f3.params[j]? = some t → args[j]? = some v → Value.okWide Try.prog W .any base t v := hval0
  have hW' := hW
  obtain ⟨p, q, hA0, hV, rfl, hfz, hnd⟩ := hW
  have hA : DataW.TrodAll enc Try.prog W 0 (fun _ => true) true Try.f3.params.toList args.toList ds p := hA0
  rw [Try.params3] at hA hval
  obtain ⟨v0, d0, rfl, rfl, h0⟩ := trodAll_one hA
  obtain ⟨rfl, rfl⟩ := trodVars_none hV
  obtain ⟨xs, hx, hw⟩ := open_rd (k := .u8) Try.underlying22 Try.underlying5 (by kernel_rfl) (hval 0 _ v0 rfl rfl) h0
  clear hA0 hval0
  refine (utfDecodes_any v0 xs W hx (fun n hn => wf_byte (hw n hn))).mono fun e W' ⟨he, hw⟩ => ?_
  exact ⟨_, he, post_law Try.laidOut rfl hW' (by kernel_rfl) rfl Try.underlying4 rfl hw⟩

theorem utfDecodes_holds : Rows.UtfDecodesSaid :=
  OpenClaim.holds_of_wide 3 Try.f3 rfl rfl rfl rfl rfl rfl rfl ⟨rfl, rfl, rfl, rfl, rfl⟩ rfl rfl rfl rfl rfl (by kernel_rfl) Try.func3 (by kernel_rfl)
    (of_decide_eq_true (by kernel_rfl)) (by unfold Func.isWrapper; rw [if_neg (of_decide_eq_false (by kernel_rfl))]; exact ⟨rfl, rfl⟩)
    (fun os started H enc _ => utfDecodes_lifted os started H enc)

end Go.Proofs.Ytacpbfkelpehhaa
