/- utf: UtfEncodes returns true for every input. No condition. -/
import Derived.Test.YtacpbfkelpehhaaDecodes
namespace Go.Proofs.Ytacpbfkelpehhaa
open Go.ChangeShapes Go.WideShapes Go.ChangeAt Go.RowKit
attribute [local go_sem ↓] Go.wp_at_zero Go.wp_at_succ

theorem validBoth (r : Int) (b : Bool) (w : World) (h : Hid (validR r = b)) : Calls Try.prog 13 #[.int .i32 r] w fun e w' => e = .returned (.bool b) ∧ w = w' := by
  rw [← h.out]; exact valid_any r w
theorem validBothR (r : Int) (b : Bool) (w : World) (h : Hid (validR r = b)) : Calls Try.prog 14 #[.int .i32 r] w fun e w' => e = .returned (.bool b) ∧ w = w' := by
  rw [← h.out]; exact validRef_any r w
set_option maxRecDepth 100000 in
set_option maxHeartbeats 1000000 in
theorem utfEncodes_any (v : Value) (xs : List Int) (w : World) (h : Rd w .i32 v xs) :
    Calls Try.prog 5 #[v] w fun e w' => e = .returned (.bool true) ∧ Below w.heap.size w w' := by
  have h0 := h
  obtain ⟨p, cap, rfl, l1, m1, c1⟩ := h
  unfold maxLen at m1
  by_cases hl : 100 < xs.length
  · clear c1
    go_enter Try.func5, Try.ntmps5
    go_wp2_with (go_at_call 9; refine (known_any _).mono ?_; rintro e wk ⟨rfl, hbk⟩)
    go_ret
    exact ⟨rfl, hbk⟩
  · go_enter Try.func5, Try.ntmps5
    go_wp2_with (at_builtin; refine wpList_app rfl _ _ 25 21 .i32 4 rfl Try.underlying25 el32 w.heap.size _ _ [] xs (Own.nil _ _ _ _) h0 rfl rfl (by simp [maxLen]; omega) (by simp; omega) (Nat.le_refl _) ?_; intro v' w1 hown hg1 _; rw [List.nil_append] at hown)
    have ho := hown.rd
    have hin := hown.rd.in
    go_loopw [3, 15] (fun u i wr => ∃ (k : Nat), k ≤ xs.length ∧ i = .int .i64 k ∧ Own wr w1.heap.size 5 .u8 u (encL (xs.take k)) ∧ Below w1.heap.size w1 wr) (fun _ i _ => xs.length - (intOf i).toNat)
    case atStart => exact ⟨0, by omega, rfl, Own.nil _ _ _ _, Below.refl _ _⟩
    case round =>
      obtain ⟨k, hk, rfl, hou, hbel⟩ := hrel
      by_cases hlt : k < xs.length
      · obtain ⟨b1, o1, rfl, q1, d1⟩ := Rd.at c1 l1 hlt
        have d3 : wr.cell? ⟨b1, o1 + k, none⟩ = some (.int .i32 xs[k]) := by rw [hbel.cell (p := ⟨b1, _, none⟩) (Nat.lt_of_lt_of_le q1 hg1.size), hg1.cell (p := ⟨b1, _, none⟩) q1]; exact d1
        clear c1 d1
        have r1 : (0 : Int) ≤ (k : Int) := by omega
        have r2 : (k : Int) < (xs.length : Int) := by omega
        have hen := encL_len (xs.take k)
        have hen2 : (xs.take k).length ≤ k := List.length_take_le _ _
        have hen3 := enc1_len xs[k]
        have hsz := hbel.size
        have es := Lib.hid (encL_succ xs k hlt)
        have hv : Hid (validR xs[k] = validR xs[k]) := rfl
        generalize hb : validR xs[k] = vb at hv
        have hv2 := Lib.hid hb
        clear hb hv
        go_wp2_with (first | (go_at_call 13; refine (validBoth _ vb _ hv2).mono ?_; rintro e w' ⟨rfl, rfl⟩) | (go_at_call 14; refine (validBothR _ vb _ hv2).mono ?_; rintro e w' ⟨rfl, rfl⟩) | (go_at_call 15; refine (bytes_any _ _).mono ?_; rintro e w2 ⟨u2, rfl, hu2, hb2⟩) | (at_builtin; refine wpList_appw rfl _ _ 22 5 .u8 1 rfl Try.underlying22 el8 w1.heap.size _ _ (encL (xs.take k)) (enc1 xs[k]) (Own.kept hou hb2) hu2.rd rfl rfl (by simp only [maxLen]; omega) (by omega) (by have := hb2.size; omega) ?_; intro v3 w3 hown3 hgrow3 _))
        go_roundw
        have hrel2 : Own w3 w1.heap.size 5 .u8 v3 (encL (xs.take (k + 1))) ∧ Below w1.heap.size w1 w3 := ⟨by rw [es.out]; exact hown3, app_below (bl_trans hbel hb2) hgrow3 (fun g h => (hou.block g h).1)⟩
        clear hown3 hgrow3
        case rel => first | exact ⟨k + 1, by omega, by go_num, hrel2⟩ | ((repeat apply Exists.intro); exact ⟨⟨k + 1, by omega, by go_num, hrel2⟩, rfl⟩)
        case measure => simp [intOf]; omega
      · rw [List.take_of_length_le (by omega)] at hou
        clear c1
        go_wp2_with fail
        have hS : Below wr.heap.size wr wr.drew := (Below.refl _ _).drew
        refine wp_region_late (fun Z => Below wr.heap.size wr Z) [] (by kernel_rfl) ?_
        refine wpAnyG_pure (v := ?v0) 0 rfl (by kernel_rfl) (by kernel_rfl) (by kernel_rfl) (by kernel_rfl) (fun _ _ _ h => h) (Or.inl ⟨by rfl, ?h0⟩) (fun _ => hS) (fun _ => ?r0)
        case h0 => (intro w _; go_simp; try with_reducible rfl)
        try simp only [Act.put, List.getElem_toArray, List.getElem_cons_zero, List.getElem_cons_succ, List.setIfInBounds_toArray, List.set_cons_zero, List.set_cons_succ]
        refine wpAnyG_pure (v := ?v3) 3 rfl (by kernel_rfl) (by kernel_rfl) (by kernel_rfl) (by kernel_rfl) (fun _ _ _ h => h) (Or.inl ⟨by rfl, ?h3⟩) (fun _ => hS) (fun _ => ?r3)
        case h3 => (intro w _; go_simp; try with_reducible rfl)
        try simp only [Act.put, List.getElem_toArray, List.getElem_cons_zero, List.getElem_cons_succ, List.setIfInBounds_toArray, List.set_cons_zero, List.set_cons_succ]
        refine wpAnyG_load (v := ?v4) 4 rfl (by kernel_rfl) (by kernel_rfl) (by kernel_rfl) (by kernel_rfl) (fun _ _ _ h => h) (Or.inl ⟨by rfl, ?h4⟩) hS (fun _ => ?r4)
        case h4 => (intro Z hZ; have kc := run_str (P := Try.prog) 22 9 5 Try.underlying22 Try.underlying5 Try.underlying9 (hou.rd.below hZ); go_simp; try with_reducible rfl)
        try simp only [Act.put, List.getElem_toArray, List.getElem_cons_zero, List.getElem_cons_succ, List.setIfInBounds_toArray, List.set_cons_zero, List.set_cons_succ]
        refine wpAnyG_one 1 rfl (by kernel_rfl) ?_
        refine wpOp_step rfl (fun K hK => ?_)
        go_simp
        refine (encode_any _ _ _ ((ho.below hbel).below hS) (by omega)).mono ?_
        rintro e w2 ⟨u2, rfl, hu2, hb2⟩
        have hb20 : Below wr.heap.size wr w2 := bl_trans hS hb2
        go_simp
        refine hK _ _ ⟨fun _ => hb20, ?_⟩
        clear hK K
        try simp only [Act.put, List.getElem_toArray, List.getElem_cons_zero, List.getElem_cons_succ, List.setIfInBounds_toArray, List.set_cons_zero, List.set_cons_succ]
        have kc := run_str (P := Try.prog) 22 9 5 Try.underlying22 Try.underlying5 Try.underlying9 hu2.rd
        refine wpAnyG_one 2 rfl (by kernel_rfl) ?_
        refine wpOp_step rfl (fun K hK => ?_)
        go_simp
        refine hK _ _ ⟨fun _ => hb20, ?_⟩
        clear hK K
        try simp only [Act.put, List.getElem_toArray, List.getElem_cons_zero, List.getElem_cons_succ, List.setIfInBounds_toArray, List.set_cons_zero, List.set_cons_succ]
        clear kc
        refine wpAnyG_pure (v := ?v5) 5 rfl (by kernel_rfl) (by kernel_rfl) (by kernel_rfl) (by kernel_rfl) (fun _ _ _ h => h) (Or.inl ⟨by rfl, ?h5⟩) (fun _ => hb20) (fun _ => ?r5)
        case h5 => (intro w _; go_simp; try with_reducible rfl)
        try simp only [Act.put, List.getElem_toArray, List.getElem_cons_zero, List.getElem_cons_succ, List.setIfInBounds_toArray, List.set_cons_zero, List.set_cons_succ]
        refine wpAnyG_pure (v := ?v6) 6 rfl (by kernel_rfl) (by kernel_rfl) (by kernel_rfl) (by kernel_rfl) (fun _ _ _ h => h) (Or.inl ⟨by rfl, ?h6⟩) (fun _ => hb20) (fun _ => ?r6)
        case h6 => (intro w _; go_simp; try with_reducible rfl)
        try simp only [Act.put, List.getElem_toArray, List.getElem_cons_zero, List.getElem_cons_succ, List.setIfInBounds_toArray, List.set_cons_zero, List.set_cons_succ]
        refine wpAnyG_pure (v := ?v7) 7 rfl (by kernel_rfl) (by kernel_rfl) (by kernel_rfl) (by kernel_rfl) (fun _ _ _ h => h) (Or.inl ⟨by rfl, ?h7⟩) (fun _ => hb20) (fun _ => ?r7)
        case h7 => (intro w _; go_simp; try with_reducible rfl)
        try simp only [Act.put, List.getElem_toArray, List.getElem_cons_zero, List.getElem_cons_succ, List.setIfInBounds_toArray, List.set_cons_zero, List.set_cons_succ]
        refine wpAnyG_pure (v := ?v8) 8 rfl (by kernel_rfl) (by kernel_rfl) (by kernel_rfl) (by kernel_rfl) (fun _ _ _ h => h) (Or.inl ⟨by rfl, ?h8⟩) (fun _ => hb20) (fun _ => ?r8)
        case h8 => (intro w _; go_simp; try with_reducible rfl)
        try simp only [Act.put, List.getElem_toArray, List.getElem_cons_zero, List.getElem_cons_succ, List.setIfInBounds_toArray, List.set_cons_zero, List.set_cons_succ]
        refine wpAnyG_one 9 rfl (by kernel_rfl) ?_
        refine wpOp_step rfl (fun K hK => ?_)
        go_simp
        refine (same_true _ _ _ _ _ ((ho.below hbel).below hb20) ((h0.below hg1).below (bl_trans hbel hb20)) (Lib.hid rfl)).mono ?_
        rintro e w3 ⟨rfl, hb3⟩
        have hb30 : Below wr.heap.size wr w3 := bl_trans hb20 hb3
        go_simp
        refine hK _ _ ⟨fun _ => hb30, ?_⟩
        clear hK K
        try simp only [Act.put, List.getElem_toArray, List.getElem_cons_zero, List.getElem_cons_succ, List.setIfInBounds_toArray, List.set_cons_zero, List.set_cons_succ]
        refine wpAnyG_pure (v := ?v10) 10 rfl (by kernel_rfl) (by kernel_rfl) (by kernel_rfl) (by kernel_rfl) (fun _ _ _ h => h) (Or.inl ⟨by rfl, ?h10⟩) (fun _ => hb30) (fun _ => ?r10)
        case h10 => (intro w _; go_simp; try with_reducible rfl)
        try simp only [Act.put, List.getElem_toArray, List.getElem_cons_zero, List.getElem_cons_succ, List.setIfInBounds_toArray, List.set_cons_zero, List.set_cons_succ]
        refine wpAnyG_pure (v := ?v11) 11 rfl (by kernel_rfl) (by kernel_rfl) (by kernel_rfl) (by kernel_rfl) (fun _ _ _ h => h) (Or.inl ⟨by rfl, ?h11⟩) (fun _ => hb30) (fun _ => ?r11)
        case h11 => (intro w _; go_simp; try with_reducible rfl)
        try simp only [Act.put, List.getElem_toArray, List.getElem_cons_zero, List.getElem_cons_succ, List.setIfInBounds_toArray, List.set_cons_zero, List.set_cons_succ]
        refine wpAnyG_one 12 rfl (by kernel_rfl) ?_
        refine wpOp_step rfl (fun K hK => ?_)
        go_simp
        refine (known_any _).mono ?_
        rintro e w4 ⟨rfl, hb4⟩
        have hb40 : Below wr.heap.size wr w4 := bl_trans hb30 hb4
        go_simp
        refine hK _ _ ⟨fun _ => hb40, ?_⟩
        clear hK K
        try simp only [Act.put, List.getElem_toArray, List.getElem_cons_zero, List.getElem_cons_succ, List.setIfInBounds_toArray, List.set_cons_zero, List.set_cons_succ]
        refine wpAnyG_pure (v := ?v13) 13 rfl (by kernel_rfl) (by kernel_rfl) (by kernel_rfl) (by kernel_rfl) (fun _ _ _ h => h) (Or.inl ⟨by rfl, ?h13⟩) (fun _ => hb40) (fun _ => ?r13)
        case h13 => (intro w _; go_simp; try with_reducible rfl)
        try simp only [Act.put, List.getElem_toArray, List.getElem_cons_zero, List.getElem_cons_succ, List.setIfInBounds_toArray, List.set_cons_zero, List.set_cons_succ]
        refine wpAnyG_pure (v := ?v14) 14 rfl (by kernel_rfl) (by kernel_rfl) (by kernel_rfl) (by kernel_rfl) (fun _ _ _ h => h) (Or.inl ⟨by rfl, ?h14⟩) (fun _ => hb40) (fun _ => ?r14)
        case h14 => (intro w _; go_simp; try with_reducible rfl)
        try simp only [Act.put, List.getElem_toArray, List.getElem_cons_zero, List.getElem_cons_succ, List.setIfInBounds_toArray, List.set_cons_zero, List.set_cons_succ]
        refine wpAnyG_done (by kernel_rfl) ?_ _
        go_wp2_with fail
        go_ret
        exact ⟨rfl, bl_trans hg1 (bl_trans hbel hb40)⟩

set_option maxRecDepth 100000 in
theorem utfEncodes_lifted (os : Os) (started : os.Started) (H : Type) (enc : TypeId × Value → H) :
    ReturnsInHanded {} Try.checked os 5 .any (Rows.utfEncodesSpec.pre6 enc Try.prog Try.f5 Rows.utfEncodesRow.domain false) (Rows.utfEncodesSpec.post enc Try.prog Try.f5 false true false false) := by
  refine returnsInHanded_of_change (C := Try.checked) Try.own started (by kernel_rfl) Try.func5
    (ChangeSpec.witness6 (enc := enc) (C := Try.checked) false ⟨#[], #[.slice none 0 0], []⟩ 8 (by kernel_rfl) (by kernel_rfl) (by kernel_rfl) (by kernel_rfl)) ?_
  intro W base args ds gs before hval0 hW hcnd _
  have hval : ∀ (j : Nat) t v, Try.f5.params[j]? = some t → args[j]? = some v → Value.okWide Try.prog W .any base t v := hval0
  have hW' := hW
  obtain ⟨p, q, hA0, hV, rfl, hfz, hnd⟩ := hW
  have hA : DataW.TrodAll enc Try.prog W 0 (fun _ => true) true Try.f5.params.toList args.toList ds p := hA0
  rw [Try.params5] at hA hval
  obtain ⟨v0, d0, rfl, rfl, h0⟩ := trodAll_one hA
  obtain ⟨rfl, rfl⟩ := trodVars_none hV
  obtain ⟨xs, hx, hw⟩ := open_rd (k := .i32) Try.underlying25 Try.underlying21 (by kernel_rfl) (hval 0 _ v0 rfl rfl) h0
  clear hA0 hval0
  refine (utfEncodes_any v0 xs W hx).mono fun e W' ⟨he, hw⟩ => ?_
  exact ⟨_, he, post_law Try.laidOut rfl hW' (by kernel_rfl) rfl Try.underlying4 rfl hw⟩

theorem utfEncodes_holds : Rows.UtfEncodesSaid :=
  OpenClaim.holds_of_wide 5 Try.f5 rfl rfl rfl rfl rfl rfl rfl ⟨rfl, rfl, rfl, rfl, rfl⟩ rfl rfl rfl rfl rfl (by kernel_rfl) Try.func5 (by kernel_rfl)
    (of_decide_eq_true (by kernel_rfl)) (by unfold Func.isWrapper; rw [if_neg (of_decide_eq_false (by kernel_rfl))]; exact ⟨rfl, rfl⟩)
    (fun os started H enc _ => utfEncodes_lifted os started H enc)

end Go.Proofs.Ytacpbfkelpehhaa
