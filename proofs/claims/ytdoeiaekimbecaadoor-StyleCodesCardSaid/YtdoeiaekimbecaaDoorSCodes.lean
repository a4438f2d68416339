/- style: StyleCodes returns true for every input. No condition. -/
import Derived.Test.YtdoeiaekimbecaaDoorW
import Derived.Test.YtdoeiaekimbecaaDoorCards
import Derived.Test.YtdoeiaekimbecaaDoorTie
import Derived.SevenTiedAt
import Derived.Test.YtdoeiaekimbecaaDoorLate3
import Derived.Deep.CutBlock
import Derived.Deep.DeepCutAuto
import Derived.Outline
set_option linter.unusedSimpArgs false
set_option linter.unusedVariables false
set_option linter.unnecessarySimpa false
namespace Go.Proofs.YtdoeiaekimbecaaDoor
open Go.ChangeShapes Go.WideShapes Go.ChangeAt Go.RowKit

set_option maxHeartbeats 8000000 in
set_option maxRecDepth 100000 in
theorem styleCodes_any (a b : Pn) (w : World) (hg : Gl w) (ha : wfP a) (hb : wfP b) : Calls Tryd.prog 5 #[.agg a.a, .agg b.a] w fun e w' => e = .returned (.bool true) ∧ Below w.heap.size w w' := by
  have hb0 : Below w.heap.size w ((w.alloc (.cells a.a 27)).alloc (.cells b.a 27)) := bl_alloc (bl_alloc (Below.refl _ _) _) _
  have xA : Box ((w.alloc (.cells a.a 27)).alloc (.cells b.a 27)) w.heap.size a.a 27 := Box.alloc (Box.new _ _ _ rfl) _
  have xB : Box ((w.alloc (.cells a.a 27)).alloc (.cells b.a 27)) (w.heap.size + 1) b.a 27 := Box.new _ _ _ (by simp)
  have hG := hg.below hb0
  have cK : ∀ W, Below ((w.alloc (.cells a.a 27)).alloc (.cells b.a 27)).heap.size ((w.alloc (.cells a.a 27)).alloc (.cells b.a 27)) W → Calls Tryd.prog 8 #[] W fun e w' => e = .returned (.bool true) ∧ Below W.heap.size W w' := fun W hW => known_any W (hG.m.below hW) (hG.t.below hW)
  have cV := fun W => valid_any a W
  have cVb := fun W => valid_any b W
  cases hva : validP a
  · have cC := fun W => codes_no a W hva
    have cX := fun W => between_no a b W (Or.inl hva)
    have cX2 := fun W => between_no b a W (Or.inr hva)
    rw [hva] at cV
    clear cVb hva
    go_enter Tryd.func5, Tryd.ntmps5
    go_wp2_with fail
    first | refine wp_grow2 (by kernel_rfl) (by kernel_rfl) ?_ | refine wp_grow (by kernel_rfl) (by kernel_rfl) ?_
    repeat (go_big_quiet_step (first | (go_at_call 9; with_reducible exact GW.call (cV _)) | (go_at_call 14; with_reducible exact GW.call (cC _))))
    refine wpQuiet_nil ?_
    rintro _ ⟨X, rfl⟩
    go_wp2_with (first | (go_at_call 9; (with_reducible refine (cV _).mono ?_); rintro e w2 ⟨rfl, hb⟩; (first | obtain ⟨X, rfl⟩ := GW.of2 hb | obtain ⟨X, rfl⟩ := GW.of hb); clear hb) | (go_at_call 16; (with_reducible refine (cX _).mono ?_); rintro e w3 ⟨rfl, hb⟩; (first | obtain ⟨X, rfl⟩ := GW.of2 hb | obtain ⟨X, rfl⟩ := GW.of hb); clear hb) | (go_at_call 16; (with_reducible refine (cX2 _).mono ?_); rintro e w4 ⟨rfl, hb⟩; (first | obtain ⟨X, rfl⟩ := GW.of2 hb | obtain ⟨X, rfl⟩ := GW.of hb); clear hb) | (go_at_call 8; (with_reducible refine (cK _ (GW.grow _)).mono ?_); rintro e w9 ⟨rfl, hb⟩; (first | obtain ⟨X, rfl⟩ := GW.of2 hb | obtain ⟨X, rfl⟩ := GW.of hb); clear hb))
    go_ret
    exact ⟨rfl, bl_trans hb0 (GW.grow _)⟩
  have cC : ∀ W, Below ((w.alloc (.cells a.a 27)).alloc (.cells b.a 27)).heap.size ((w.alloc (.cells a.a 27)).alloc (.cells b.a 27)) W → Calls Tryd.prog 14 #[.agg a.a] W (RetOwn W 3 .i64 (codesN a)) := fun W hW => codes_ok a W (hG.m.below hW) ha hva
  have cR : ∀ W, Calls Tryd.prog 15 #[.agg a.a] W (RetOwn W 3 .i64 (codesN a)) := fun W => by rw [← rcodes_eq a hva]; exact rcodes_any a W ha
  generalize codesN a = ca at *
  cases hvb : validP b
  · have cX := fun W => between_no a b W (Or.inr hvb)
    have cX2 := fun W => between_no b a W (Or.inl hvb)
    rw [hva] at cV
    rw [hvb] at cVb
    clear hva hvb
    go_enter Tryd.func5, Tryd.ntmps5
    go_upto_region 1 with fail
    have hB := (Below.refl ((w.alloc (.cells a.a 27)).alloc (.cells b.a 27)).heap.size ((w.alloc (.cells a.a 27)).alloc (.cells b.a 27))).drew
    have ka := xA.cell
    have la := xA.lt
    have kb := xB.cell
    have lb := xB.lt
    refine wp_region_V Gr (by kernel_rfl) ?_
    refine wpAnyV_takeG (A := ?A0) 0 rfl (by kernel_rfl) (by kernel_rfl) (by kernel_rfl) (fun _ _ _ _ h => h) ?q0 ?r0
    case q0 =>
      intro Y
      try simp only [List.getElem_toArray, List.getElem_cons_zero, List.getElem_cons_succ]
      go_big_quiet_step (fail)
      refine wpQuiet_nil ?_
      rfl
    refine wpAnyV_takeG (A := ?A1) 1 rfl (by kernel_rfl) (by kernel_rfl) (by kernel_rfl) (fun _ _ _ _ h => h) ?q1 ?r1
    case q1 =>
      intro Y
      try simp only [List.getElem_toArray, List.getElem_cons_zero, List.getElem_cons_succ]
      go_big_quiet_step ((go_at_call 9; with_reducible exact GW.call (cV _)))
      refine wpQuiet_nil ?_
      rfl
    refine wpAnyV_takeG (A := ?A2) 2 rfl (by kernel_rfl) (by kernel_rfl) (by kernel_rfl) (fun _ _ _ _ h => h) ?q2 ?r2
    case q2 =>
      intro Y
      try simp only [List.getElem_toArray, List.getElem_cons_zero, List.getElem_cons_succ]
      go_big_quiet_step (fail)
      refine wpQuiet_nil ?_
      rfl
    refine wpAnyV_takeG (A := ?A3) 3 rfl (by kernel_rfl) (by kernel_rfl) (by kernel_rfl) (fun _ _ _ _ h => h) ?q3 ?r3
    case q3 =>
      intro Y
      try simp only [List.getElem_toArray, List.getElem_cons_zero, List.getElem_cons_succ]
      go_big_quiet_step (fail)
      refine wpQuiet_nil ?_
      rfl
    refine wpAnyV_takeG (A := ?A5) 5 rfl (by kernel_rfl) (by kernel_rfl) (by kernel_rfl) (fun _ _ _ _ h => h) ?q5 ?r5
    case q5 =>
      intro Y
      try simp only [List.getElem_toArray, List.getElem_cons_zero, List.getElem_cons_succ]
      go_big_quiet_step (fail)
      refine wpQuiet_nil ?_
      rfl
    refine wpAnyV_one 4 (by kernel_rfl) ?_
    intro W hW
    replace hB := bl_trans hB hW
    refine wpOp_step rfl (fun K hK => ?_)
    go_simp
    (with_reducible refine (cC _ hB).mono ?_)
    rintro e wn ⟨vc, rfl, hoc, hbn⟩
    go_simp
    refine hK _ _ ⟨hbn, ?_⟩
    clear hK K
    try simp only [Act.put, List.getElem_toArray, List.getElem_cons_zero, List.getElem_cons_succ, List.setIfInBounds_toArray, List.set_cons_zero, List.set_cons_succ]
    replace hB := bl_trans hB hbn
    clear ka la kb lb
    have ka := (Box.past hB xA).cell
    have la := (Box.past hB xA).lt
    have kb := (Box.past hB xB).cell
    have lb := (Box.past hB xB).lt
    refine wpAnyV_one 6 (by kernel_rfl) ?_
    intro W hW
    replace hB := bl_trans hB hW
    refine wpOp_step rfl (fun K hK => ?_)
    go_simp
    (with_reducible refine (cR W).mono ?_)
    rintro e wn ⟨vr, rfl, hor, hbn⟩
    go_simp
    refine hK _ _ ⟨hbn, ?_⟩
    clear hK K
    try simp only [Act.put, List.getElem_toArray, List.getElem_cons_zero, List.getElem_cons_succ, List.setIfInBounds_toArray, List.set_cons_zero, List.set_cons_succ]
    replace hoc := (hoc.kept hW).kept hbn
    replace hB := bl_trans hB hbn
    clear ka la kb lb
    have ka := (Box.past hB xA).cell
    have la := (Box.past hB xA).lt
    have kb := (Box.past hB xB).cell
    have lb := (Box.past hB xB).lt
    refine wpAnyV_one 7 (by kernel_rfl) ?_
    intro W hW
    replace hB := bl_trans hB hW
    have hq1 := (hoc.kept hW).rd
    have hq2 := (hor.kept hW).rd
    refine wpOp_step rfl (fun K hK => ?_)
    go_simp
    (with_reducible refine (same_eq _ _ _ _ hq1 hq2).mono ?_)
    rintro e wn ⟨rfl, hbn⟩
    go_simp
    refine hK _ _ ⟨hbn, ?_⟩
    clear hK K
    try simp only [Act.put, List.getElem_toArray, List.getElem_cons_zero, List.getElem_cons_succ, List.setIfInBounds_toArray, List.set_cons_zero, List.set_cons_succ]
    replace hB := bl_trans hB hbn
    clear ka la kb lb
    have ka := (Box.past hB xA).cell
    have la := (Box.past hB xA).lt
    have kb := (Box.past hB xB).cell
    have lb := (Box.past hB xB).lt
    refine wpAnyV_takeG (A := ?A8) 8 rfl (by kernel_rfl) (by kernel_rfl) (by kernel_rfl) (fun _ _ _ _ h => h) ?q8 ?r8
    case q8 =>
      intro Y
      try simp only [List.getElem_toArray, List.getElem_cons_zero, List.getElem_cons_succ]
      go_big_quiet_step (fail)
      refine wpQuiet_nil ?_
      rfl
    refine wpAnyV_takeG (A := ?A9) 9 rfl (by kernel_rfl) (by kernel_rfl) (by kernel_rfl) (fun _ _ _ _ h => h) ?q9 ?r9
    case q9 =>
      intro Y
      try simp only [List.getElem_toArray, List.getElem_cons_zero, List.getElem_cons_succ]
      go_big_quiet_step (fail)
      refine wpQuiet_nil ?_
      rfl
    refine wpAnyV_takeG (A := ?A10) 10 rfl (by kernel_rfl) (by kernel_rfl) (by kernel_rfl) (fun _ _ _ _ h => h) ?q10 ?r10
    case q10 =>
      intro Y
      try simp only [List.getElem_toArray, List.getElem_cons_zero, List.getElem_cons_succ]
      go_big_quiet_step (fail)
      refine wpQuiet_nil ?_
      rfl
    refine wpAnyV_takeG (A := ?A11) 11 rfl (by kernel_rfl) (by kernel_rfl) (by kernel_rfl) (fun _ _ _ _ h => h) ?q11 ?r11
    case q11 =>
      intro Y
      try simp only [List.getElem_toArray, List.getElem_cons_zero, List.getElem_cons_succ]
      go_big_quiet_step (fail)
      refine wpQuiet_nil ?_
      rfl
    refine wpAnyV_takeG (A := ?A12) 12 rfl (by kernel_rfl) (by kernel_rfl) (by kernel_rfl) (fun _ _ _ _ h => h) ?q12 ?r12
    case q12 =>
      intro Y
      try simp only [List.getElem_toArray, List.getElem_cons_zero, List.getElem_cons_succ]
      go_big_quiet_step ((go_at_call 9; with_reducible exact GW.call (cV _)))
      refine wpQuiet_nil ?_
      rfl
    refine wpAnyV_takeG (A := ?A13) 13 rfl (by kernel_rfl) (by kernel_rfl) (by kernel_rfl) (fun _ _ _ _ h => h) ?q13 ?r13
    case q13 =>
      intro Y
      try simp only [List.getElem_toArray, List.getElem_cons_zero, List.getElem_cons_succ]
      go_big_quiet_step (fail)
      refine wpQuiet_nil ?_
      rfl
    refine wpAnyV_takeG (A := ?A14) 14 rfl (by kernel_rfl) (by kernel_rfl) (by kernel_rfl) (fun _ _ _ _ h => h) ?q14 ?r14
    case q14 =>
      intro Y
      try simp only [List.getElem_toArray, List.getElem_cons_zero, List.getElem_cons_succ]
      go_big_quiet_step (fail)
      refine wpQuiet_nil ?_
      rfl
    refine wpAnyV_takeG (A := ?A15) 15 rfl (by kernel_rfl) (by kernel_rfl) (by kernel_rfl) (fun _ _ _ _ h => h) ?q15 ?r15
    case q15 =>
      intro Y
      try simp only [List.getElem_toArray, List.getElem_cons_zero, List.getElem_cons_succ]
      go_big_quiet_step (fail)
      refine wpQuiet_nil ?_
      rfl
    refine wpAnyV_takeG (A := ?A16) 16 rfl (by kernel_rfl) (by kernel_rfl) (by kernel_rfl) (fun _ _ _ _ h => h) ?q16 ?r16
    case q16 =>
      intro Y
      try simp only [List.getElem_toArray, List.getElem_cons_zero, List.getElem_cons_succ]
      go_big_quiet_step (fail)
      refine wpQuiet_nil ?_
      rfl
    refine wpAnyV_takeG (A := ?A17) 17 rfl (by kernel_rfl) (by kernel_rfl) (by kernel_rfl) (fun _ _ _ _ h => h) ?q17 ?r17
    case q17 =>
      intro Y
      try simp only [List.getElem_toArray, List.getElem_cons_zero, List.getElem_cons_succ]
      go_big_quiet_step (fail)
      refine wpQuiet_nil ?_
      rfl
    refine wpAnyV_takeG (A := ?A18) 18 rfl (by kernel_rfl) (by kernel_rfl) (by kernel_rfl) (fun _ _ _ _ h => h) ?q18 ?r18
    case q18 =>
      intro Y
      try simp only [List.getElem_toArray, List.getElem_cons_zero, List.getElem_cons_succ]
      go_big_quiet_step (fail)
      refine wpQuiet_nil ?_
      rfl
    refine wpAnyV_takeG (A := ?A19) 19 rfl (by kernel_rfl) (by kernel_rfl) (by kernel_rfl) (fun _ _ _ _ h => h) ?q19 ?r19
    case q19 =>
      intro Y
      try simp only [List.getElem_toArray, List.getElem_cons_zero, List.getElem_cons_succ]
      go_big_quiet_step (fail)
      refine wpQuiet_nil ?_
      rfl
    refine wpAnyV_takeG (A := ?A20) 20 rfl (by kernel_rfl) (by kernel_rfl) (by kernel_rfl) (fun _ _ _ _ h => h) ?q20 ?r20
    case q20 =>
      intro Y
      try simp only [List.getElem_toArray, List.getElem_cons_zero, List.getElem_cons_succ]
      go_big_quiet_step (fail)
      refine wpQuiet_nil ?_
      rfl
    refine wpAnyV_done (by kernel_rfl) ?_ _
    intro W hW
    replace hB := bl_trans hB hW
    clear hW
    obtain ⟨X, rfl⟩ := GW.of hB
    clear ka la kb lb
    have ka := xA.cell
    have la := xA.lt
    have kb := xB.cell
    have lb := xB.lt
    go_wp2_with (first | (go_at_call 9; (with_reducible refine (cV _).mono ?_); rintro e w2 ⟨rfl, hb⟩; (first | obtain ⟨X, rfl⟩ := GW.of2 hb | obtain ⟨X, rfl⟩ := GW.of hb); clear hb) | (go_at_call 9; (with_reducible refine (cVb _).mono ?_); rintro e w5 ⟨rfl, hb⟩; (first | obtain ⟨X, rfl⟩ := GW.of2 hb | obtain ⟨X, rfl⟩ := GW.of hb); clear hb) | (go_at_call 16; (with_reducible refine (cX _).mono ?_); rintro e w3 ⟨rfl, hb⟩; (first | obtain ⟨X, rfl⟩ := GW.of2 hb | obtain ⟨X, rfl⟩ := GW.of hb); clear hb) | (go_at_call 16; (with_reducible refine (cX2 _).mono ?_); rintro e w4 ⟨rfl, hb⟩; (first | obtain ⟨X, rfl⟩ := GW.of2 hb | obtain ⟨X, rfl⟩ := GW.of hb); clear hb) | (go_at_call 8; (with_reducible refine (cK _ (GW.grow _)).mono ?_); rintro e w9 ⟨rfl, hb⟩; (first | obtain ⟨X, rfl⟩ := GW.of2 hb | obtain ⟨X, rfl⟩ := GW.of hb); clear hb))
    go_ret
    exact ⟨rfl, bl_trans hb0 (GW.grow _)⟩
  · have cX : ∀ W, Below ((w.alloc (.cells a.a 27)).alloc (.cells b.a 27)).heap.size ((w.alloc (.cells a.a 27)).alloc (.cells b.a 27)) W → Calls Tryd.prog 16 #[.agg a.a, .agg b.a] W (RetOwn W 3 .i64 (betweenN a b)) := fun W hW => between_ok a b W (hG.m.below hW) ha hb hva hvb
    have cY : ∀ W, Calls Tryd.prog 17 #[.agg a.a, .agg b.a] W (RetOwn W 3 .i64 (betweenN a b)) := fun W => by rw [← rbetween_eq a b hvb]; exact rbetween_any a b W ha hb
    have cX2 : ∀ W, Below ((w.alloc (.cells a.a 27)).alloc (.cells b.a 27)).heap.size ((w.alloc (.cells a.a 27)).alloc (.cells b.a 27)) W → Calls Tryd.prog 16 #[.agg b.a, .agg a.a] W (RetOwn W 3 .i64 (betweenN b a)) := fun W hW => between_ok b a W (hG.m.below hW) hb ha hvb hva
    have cY2 : ∀ W, Calls Tryd.prog 17 #[.agg b.a, .agg a.a] W (RetOwn W 3 .i64 (betweenN b a)) := fun W => by rw [← rbetween_eq b a hva]; exact rbetween_any b a W hb ha
    generalize betweenN a b = l1 at *
    generalize betweenN b a = l2 at *
    rw [hva] at cV
    rw [hvb] at cVb
    clear hva hvb
    go_enter Tryd.func5, Tryd.ntmps5
    go_upto_region 1 with fail
    have hB := (Below.refl ((w.alloc (.cells a.a 27)).alloc (.cells b.a 27)).heap.size ((w.alloc (.cells a.a 27)).alloc (.cells b.a 27))).drew
    have ka := xA.cell
    have la := xA.lt
    have kb := xB.cell
    have lb := xB.lt
    refine wp_region_V Gr (by kernel_rfl) ?_
    refine wpAnyV_takeG (A := ?A0y) 0 rfl (by kernel_rfl) (by kernel_rfl) (by kernel_rfl) (fun _ _ _ _ h => h) ?q0y ?r0y
    case q0y =>
      intro Y
      try simp only [List.getElem_toArray, List.getElem_cons_zero, List.getElem_cons_succ]
      go_big_quiet_step (fail)
      refine wpQuiet_nil ?_
      rfl
    refine wpAnyV_takeG (A := ?A1y) 1 rfl (by kernel_rfl) (by kernel_rfl) (by kernel_rfl) (fun _ _ _ _ h => h) ?q1y ?r1y
    case q1y =>
      intro Y
      try simp only [List.getElem_toArray, List.getElem_cons_zero, List.getElem_cons_succ]
      go_big_quiet_step ((go_at_call 9; with_reducible exact GW.call (cV _)))
      refine wpQuiet_nil ?_
      rfl
    refine wpAnyV_takeG (A := ?A2y) 2 rfl (by kernel_rfl) (by kernel_rfl) (by kernel_rfl) (fun _ _ _ _ h => h) ?q2y ?r2y
    case q2y =>
      intro Y
      try simp only [List.getElem_toArray, List.getElem_cons_zero, List.getElem_cons_succ]
      go_big_quiet_step (fail)
      refine wpQuiet_nil ?_
      rfl
    refine wpAnyV_takeG (A := ?A3y) 3 rfl (by kernel_rfl) (by kernel_rfl) (by kernel_rfl) (fun _ _ _ _ h => h) ?q3y ?r3y
    case q3y =>
      intro Y
      try simp only [List.getElem_toArray, List.getElem_cons_zero, List.getElem_cons_succ]
      go_big_quiet_step (fail)
      refine wpQuiet_nil ?_
      rfl
    refine wpAnyV_takeG (A := ?A5y) 5 rfl (by kernel_rfl) (by kernel_rfl) (by kernel_rfl) (fun _ _ _ _ h => h) ?q5y ?r5y
    case q5y =>
      intro Y
      try simp only [List.getElem_toArray, List.getElem_cons_zero, List.getElem_cons_succ]
      go_big_quiet_step (fail)
      refine wpQuiet_nil ?_
      rfl
    refine wpAnyV_one 4 (by kernel_rfl) ?_
    intro W hW
    replace hB := bl_trans hB hW
    refine wpOp_step rfl (fun K hK => ?_)
    go_simp
    (with_reducible refine (cC _ hB).mono ?_)
    rintro e wn ⟨vc, rfl, hoc, hbn⟩
    go_simp
    refine hK _ _ ⟨hbn, ?_⟩
    clear hK K
    try simp only [Act.put, List.getElem_toArray, List.getElem_cons_zero, List.getElem_cons_succ, List.setIfInBounds_toArray, List.set_cons_zero, List.set_cons_succ]
    replace hB := bl_trans hB hbn
    clear ka la kb lb
    have ka := (Box.past hB xA).cell
    have la := (Box.past hB xA).lt
    have kb := (Box.past hB xB).cell
    have lb := (Box.past hB xB).lt
    refine wpAnyV_one 6 (by kernel_rfl) ?_
    intro W hW
    replace hB := bl_trans hB hW
    refine wpOp_step rfl (fun K hK => ?_)
    go_simp
    (with_reducible refine (cR W).mono ?_)
    rintro e wn ⟨vr, rfl, hor, hbn⟩
    go_simp
    refine hK _ _ ⟨hbn, ?_⟩
    clear hK K
    try simp only [Act.put, List.getElem_toArray, List.getElem_cons_zero, List.getElem_cons_succ, List.setIfInBounds_toArray, List.set_cons_zero, List.set_cons_succ]
    replace hoc := (hoc.kept hW).kept hbn
    replace hB := bl_trans hB hbn
    clear ka la kb lb
    have ka := (Box.past hB xA).cell
    have la := (Box.past hB xA).lt
    have kb := (Box.past hB xB).cell
    have lb := (Box.past hB xB).lt
    refine wpAnyV_one 7 (by kernel_rfl) ?_
    intro W hW
    replace hB := bl_trans hB hW
    have hq1 := (hoc.kept hW).rd
    have hq2 := (hor.kept hW).rd
    refine wpOp_step rfl (fun K hK => ?_)
    go_simp
    (with_reducible refine (same_eq _ _ _ _ hq1 hq2).mono ?_)
    rintro e wn ⟨rfl, hbn⟩
    go_simp
    refine hK _ _ ⟨hbn, ?_⟩
    clear hK K
    try simp only [Act.put, List.getElem_toArray, List.getElem_cons_zero, List.getElem_cons_succ, List.setIfInBounds_toArray, List.set_cons_zero, List.set_cons_succ]
    replace hB := bl_trans hB hbn
    clear ka la kb lb
    have ka := (Box.past hB xA).cell
    have la := (Box.past hB xA).lt
    have kb := (Box.past hB xB).cell
    have lb := (Box.past hB xB).lt
    refine wpAnyV_takeG (A := ?A8y) 8 rfl (by kernel_rfl) (by kernel_rfl) (by kernel_rfl) (fun _ _ _ _ h => h) ?q8y ?r8y
    case q8y =>
      intro Y
      try simp only [List.getElem_toArray, List.getElem_cons_zero, List.getElem_cons_succ]
      go_big_quiet_step (fail)
      refine wpQuiet_nil ?_
      rfl
    refine wpAnyV_takeG (A := ?A9y) 9 rfl (by kernel_rfl) (by kernel_rfl) (by kernel_rfl) (fun _ _ _ _ h => h) ?q9y ?r9y
    case q9y =>
      intro Y
      try simp only [List.getElem_toArray, List.getElem_cons_zero, List.getElem_cons_succ]
      go_big_quiet_step (fail)
      refine wpQuiet_nil ?_
      rfl
    refine wpAnyV_takeG (A := ?A10y) 10 rfl (by kernel_rfl) (by kernel_rfl) (by kernel_rfl) (fun _ _ _ _ h => h) ?q10y ?r10y
    case q10y =>
      intro Y
      try simp only [List.getElem_toArray, List.getElem_cons_zero, List.getElem_cons_succ]
      go_big_quiet_step (fail)
      refine wpQuiet_nil ?_
      rfl
    refine wpAnyV_takeG (A := ?A11y) 11 rfl (by kernel_rfl) (by kernel_rfl) (by kernel_rfl) (fun _ _ _ _ h => h) ?q11y ?r11y
    case q11y =>
      intro Y
      try simp only [List.getElem_toArray, List.getElem_cons_zero, List.getElem_cons_succ]
      go_big_quiet_step (fail)
      refine wpQuiet_nil ?_
      rfl
    refine wpAnyV_takeG (A := ?A12y) 12 rfl (by kernel_rfl) (by kernel_rfl) (by kernel_rfl) (fun _ _ _ _ h => h) ?q12y ?r12y
    case q12y =>
      intro Y
      try simp only [List.getElem_toArray, List.getElem_cons_zero, List.getElem_cons_succ]
      go_big_quiet_step ((go_at_call 9; with_reducible exact GW.call (cV _)))
      refine wpQuiet_nil ?_
      rfl
    refine wpAnyV_takeG (A := ?A13y) 13 rfl (by kernel_rfl) (by kernel_rfl) (by kernel_rfl) (fun _ _ _ _ h => h) ?q13y ?r13y
    case q13y =>
      intro Y
      try simp only [List.getElem_toArray, List.getElem_cons_zero, List.getElem_cons_succ]
      go_big_quiet_step (fail)
      refine wpQuiet_nil ?_
      rfl
    refine wpAnyV_takeG (A := ?A14y) 14 rfl (by kernel_rfl) (by kernel_rfl) (by kernel_rfl) (fun _ _ _ _ h => h) ?q14y ?r14y
    case q14y =>
      intro Y
      try simp only [List.getElem_toArray, List.getElem_cons_zero, List.getElem_cons_succ]
      go_big_quiet_step (fail)
      refine wpQuiet_nil ?_
      rfl
    refine wpAnyV_takeG (A := ?A15y) 15 rfl (by kernel_rfl) (by kernel_rfl) (by kernel_rfl) (fun _ _ _ _ h => h) ?q15y ?r15y
    case q15y =>
      intro Y
      try simp only [List.getElem_toArray, List.getElem_cons_zero, List.getElem_cons_succ]
      go_big_quiet_step (fail)
      refine wpQuiet_nil ?_
      rfl
    refine wpAnyV_takeG (A := ?A16y) 16 rfl (by kernel_rfl) (by kernel_rfl) (by kernel_rfl) (fun _ _ _ _ h => h) ?q16y ?r16y
    case q16y =>
      intro Y
      try simp only [List.getElem_toArray, List.getElem_cons_zero, List.getElem_cons_succ]
      go_big_quiet_step (fail)
      refine wpQuiet_nil ?_
      rfl
    refine wpAnyV_takeG (A := ?A17y) 17 rfl (by kernel_rfl) (by kernel_rfl) (by kernel_rfl) (fun _ _ _ _ h => h) ?q17y ?r17y
    case q17y =>
      intro Y
      try simp only [List.getElem_toArray, List.getElem_cons_zero, List.getElem_cons_succ]
      go_big_quiet_step (fail)
      refine wpQuiet_nil ?_
      rfl
    refine wpAnyV_takeG (A := ?A18y) 18 rfl (by kernel_rfl) (by kernel_rfl) (by kernel_rfl) (fun _ _ _ _ h => h) ?q18y ?r18y
    case q18y =>
      intro Y
      try simp only [List.getElem_toArray, List.getElem_cons_zero, List.getElem_cons_succ]
      go_big_quiet_step (fail)
      refine wpQuiet_nil ?_
      rfl
    refine wpAnyV_takeG (A := ?A19y) 19 rfl (by kernel_rfl) (by kernel_rfl) (by kernel_rfl) (fun _ _ _ _ h => h) ?q19y ?r19y
    case q19y =>
      intro Y
      try simp only [List.getElem_toArray, List.getElem_cons_zero, List.getElem_cons_succ]
      go_big_quiet_step (fail)
      refine wpQuiet_nil ?_
      rfl
    refine wpAnyV_takeG (A := ?A20y) 20 rfl (by kernel_rfl) (by kernel_rfl) (by kernel_rfl) (fun _ _ _ _ h => h) ?q20y ?r20y
    case q20y =>
      intro Y
      try simp only [List.getElem_toArray, List.getElem_cons_zero, List.getElem_cons_succ]
      go_big_quiet_step (fail)
      refine wpQuiet_nil ?_
      rfl
    refine wpAnyV_done (by kernel_rfl) ?_ _
    intro W hW
    replace hB := bl_trans hB hW
    clear hW
    obtain ⟨X, rfl⟩ := GW.of hB
    clear ka la kb lb
    have ka := xA.cell
    have la := xA.lt
    have kb := xB.cell
    have lb := xB.lt
    go_upto_region 4 with (first | (go_at_call 9; (with_reducible refine (cV _).mono ?_); rintro e w2 ⟨rfl, hb⟩; (first | obtain ⟨X, rfl⟩ := GW.of2 hb | obtain ⟨X, rfl⟩ := GW.of hb); clear hb) | (go_at_call 9; (with_reducible refine (cVb _).mono ?_); rintro e w5 ⟨rfl, hb⟩; (first | obtain ⟨X, rfl⟩ := GW.of2 hb | obtain ⟨X, rfl⟩ := GW.of hb); clear hb))
    clear hB
    have hB := X.grow
    generalize X.world = W5 at *
    clear ka la kb lb
    replace hB := hB.drew
    refine wp_region_V Gr (by kernel_rfl) ?_
    generalize W5.drew = W6 at *
    have ka := (Box.past hB xA).cell
    have la := (Box.past hB xA).lt
    have kb := (Box.past hB xB).cell
    have lb := (Box.past hB xB).lt
    refine wpAnyV_takeG (A := ?A0z) 0 rfl (by kernel_rfl) (by kernel_rfl) (by kernel_rfl) (fun _ _ _ _ h => h) ?q0z ?r0z
    case q0z =>
      intro Y
      try simp only [List.getElem_toArray, List.getElem_cons_zero, List.getElem_cons_succ]
      go_big_quiet_step (fail)
      refine wpQuiet_nil ?_
      rfl
    refine wpAnyV_takeG (A := ?A1z) 1 rfl (by kernel_rfl) (by kernel_rfl) (by kernel_rfl) (fun _ _ _ _ h => h) ?q1z ?r1z
    case q1z =>
      intro Y
      try simp only [List.getElem_toArray, List.getElem_cons_zero, List.getElem_cons_succ]
      go_big_quiet_step (fail)
      refine wpQuiet_nil ?_
      rfl
    refine wpAnyV_takeG (A := ?A3z) 3 rfl (by kernel_rfl) (by kernel_rfl) (by kernel_rfl) (fun _ _ _ _ h => h) ?q3z ?r3z
    case q3z =>
      intro Y
      try simp only [List.getElem_toArray, List.getElem_cons_zero, List.getElem_cons_succ]
      go_big_quiet_step (fail)
      refine wpQuiet_nil ?_
      rfl
    refine wpAnyV_takeG (A := ?A4z) 4 rfl (by kernel_rfl) (by kernel_rfl) (by kernel_rfl) (fun _ _ _ _ h => h) ?q4z ?r4z
    case q4z =>
      intro Y
      try simp only [List.getElem_toArray, List.getElem_cons_zero, List.getElem_cons_succ]
      go_big_quiet_step (fail)
      refine wpQuiet_nil ?_
      rfl
    refine wpAnyV_one 2 (by kernel_rfl) ?_
    intro W hW
    replace hB := bl_trans hB hW
    refine wpOp_step rfl (fun K hK => ?_)
    go_simp
    (with_reducible refine (cX _ hB).mono ?_)
    rintro e wn ⟨vc, rfl, hoc, hbn⟩
    go_simp
    refine hK _ _ ⟨hbn, ?_⟩
    clear hK K
    try simp only [Act.put, List.getElem_toArray, List.getElem_cons_zero, List.getElem_cons_succ, List.setIfInBounds_toArray, List.set_cons_zero, List.set_cons_succ]
    replace hB := bl_trans hB hbn
    clear ka la kb lb
    have ka := (Box.past hB xA).cell
    have la := (Box.past hB xA).lt
    have kb := (Box.past hB xB).cell
    have lb := (Box.past hB xB).lt
    refine wpAnyV_one 5 (by kernel_rfl) ?_
    intro W hW
    replace hB := bl_trans hB hW
    refine wpOp_step rfl (fun K hK => ?_)
    go_simp
    (with_reducible refine (cY W).mono ?_)
    rintro e wn ⟨vr, rfl, hor, hbn⟩
    go_simp
    refine hK _ _ ⟨hbn, ?_⟩
    clear hK K
    try simp only [Act.put, List.getElem_toArray, List.getElem_cons_zero, List.getElem_cons_succ, List.setIfInBounds_toArray, List.set_cons_zero, List.set_cons_succ]
    replace hoc := (hoc.kept hW).kept hbn
    replace hB := bl_trans hB hbn
    clear ka la kb lb
    have ka := (Box.past hB xA).cell
    have la := (Box.past hB xA).lt
    have kb := (Box.past hB xB).cell
    have lb := (Box.past hB xB).lt
    refine wpAnyV_one 6 (by kernel_rfl) ?_
    intro W hW
    replace hB := bl_trans hB hW
    have hq1 := (hoc.kept hW).rd
    have hq2 := (hor.kept hW).rd
    refine wpOp_step rfl (fun K hK => ?_)
    go_simp
    (with_reducible refine (same_eq _ _ _ _ hq1 hq2).mono ?_)
    rintro e wn ⟨rfl, hbn⟩
    go_simp
    refine hK _ _ ⟨hbn, ?_⟩
    clear hK K
    try simp only [Act.put, List.getElem_toArray, List.getElem_cons_zero, List.getElem_cons_succ, List.setIfInBounds_toArray, List.set_cons_zero, List.set_cons_succ]
    replace hB := bl_trans hB hbn
    clear ka la kb lb
    have ka := (Box.past hB xA).cell
    have la := (Box.past hB xA).lt
    have kb := (Box.past hB xB).cell
    have lb := (Box.past hB xB).lt
    refine wpAnyV_takeG (A := ?A7z) 7 rfl (by kernel_rfl) (by kernel_rfl) (by kernel_rfl) (fun _ _ _ _ h => h) ?q7z ?r7z
    case q7z =>
      intro Y
      try simp only [List.getElem_toArray, List.getElem_cons_zero, List.getElem_cons_succ]
      go_big_quiet_step (fail)
      refine wpQuiet_nil ?_
      rfl
    refine wpAnyV_takeG (A := ?A8z) 8 rfl (by kernel_rfl) (by kernel_rfl) (by kernel_rfl) (fun _ _ _ _ h => h) ?q8z ?r8z
    case q8z =>
      intro Y
      try simp only [List.getElem_toArray, List.getElem_cons_zero, List.getElem_cons_succ]
      go_big_quiet_step (fail)
      refine wpQuiet_nil ?_
      rfl
    refine wpAnyV_takeG (A := ?A9z) 9 rfl (by kernel_rfl) (by kernel_rfl) (by kernel_rfl) (fun _ _ _ _ h => h) ?q9z ?r9z
    case q9z =>
      intro Y
      try simp only [List.getElem_toArray, List.getElem_cons_zero, List.getElem_cons_succ]
      go_big_quiet_step (fail)
      refine wpQuiet_nil ?_
      rfl
    refine wpAnyV_takeG (A := ?A11z) 11 rfl (by kernel_rfl) (by kernel_rfl) (by kernel_rfl) (fun _ _ _ _ h => h) ?q11z ?r11z
    case q11z =>
      intro Y
      try simp only [List.getElem_toArray, List.getElem_cons_zero, List.getElem_cons_succ]
      go_big_quiet_step (fail)
      refine wpQuiet_nil ?_
      rfl
    refine wpAnyV_takeG (A := ?A12z) 12 rfl (by kernel_rfl) (by kernel_rfl) (by kernel_rfl) (fun _ _ _ _ h => h) ?q12z ?r12z
    case q12z =>
      intro Y
      try simp only [List.getElem_toArray, List.getElem_cons_zero, List.getElem_cons_succ]
      go_big_quiet_step (fail)
      refine wpQuiet_nil ?_
      rfl
    refine wpAnyV_one 10 (by kernel_rfl) ?_
    intro W hW
    replace hB := bl_trans hB hW
    refine wpOp_step rfl (fun K hK => ?_)
    go_simp
    (with_reducible refine (cX2 _ hB).mono ?_)
    rintro e wn ⟨vd, rfl, hod, hbn⟩
    go_simp
    refine hK _ _ ⟨hbn, ?_⟩
    clear hK K
    try simp only [Act.put, List.getElem_toArray, List.getElem_cons_zero, List.getElem_cons_succ, List.setIfInBounds_toArray, List.set_cons_zero, List.set_cons_succ]
    replace hB := bl_trans hB hbn
    clear ka la kb lb
    have ka := (Box.past hB xA).cell
    have la := (Box.past hB xA).lt
    have kb := (Box.past hB xB).cell
    have lb := (Box.past hB xB).lt
    refine wpAnyV_one 13 (by kernel_rfl) ?_
    intro W hW
    replace hB := bl_trans hB hW
    refine wpOp_step rfl (fun K hK => ?_)
    go_simp
    (with_reducible refine (cY2 W).mono ?_)
    rintro e wn ⟨vs, rfl, hos, hbn⟩
    go_simp
    refine hK _ _ ⟨hbn, ?_⟩
    clear hK K
    try simp only [Act.put, List.getElem_toArray, List.getElem_cons_zero, List.getElem_cons_succ, List.setIfInBounds_toArray, List.set_cons_zero, List.set_cons_succ]
    replace hod := (hod.kept hW).kept hbn
    replace hB := bl_trans hB hbn
    clear ka la kb lb
    have ka := (Box.past hB xA).cell
    have la := (Box.past hB xA).lt
    have kb := (Box.past hB xB).cell
    have lb := (Box.past hB xB).lt
    refine wpAnyV_one 14 (by kernel_rfl) ?_
    intro W hW
    replace hB := bl_trans hB hW
    have hq3 := (hod.kept hW).rd
    have hq4 := (hos.kept hW).rd
    refine wpOp_step rfl (fun K hK => ?_)
    go_simp
    (with_reducible refine (same_eq _ _ _ _ hq3 hq4).mono ?_)
    rintro e wn ⟨rfl, hbn⟩
    go_simp
    refine hK _ _ ⟨hbn, ?_⟩
    clear hK K
    try simp only [Act.put, List.getElem_toArray, List.getElem_cons_zero, List.getElem_cons_succ, List.setIfInBounds_toArray, List.set_cons_zero, List.set_cons_succ]
    replace hB := bl_trans hB hbn
    clear ka la kb lb
    have ka := (Box.past hB xA).cell
    have la := (Box.past hB xA).lt
    have kb := (Box.past hB xB).cell
    have lb := (Box.past hB xB).lt
    refine wpAnyV_takeG (A := ?A15z) 15 rfl (by kernel_rfl) (by kernel_rfl) (by kernel_rfl) (fun _ _ _ _ h => h) ?q15z ?r15z
    case q15z =>
      intro Y
      try simp only [List.getElem_toArray, List.getElem_cons_zero, List.getElem_cons_succ]
      go_big_quiet_step (fail)
      refine wpQuiet_nil ?_
      rfl
    refine wpAnyV_takeG (A := ?A16z) 16 rfl (by kernel_rfl) (by kernel_rfl) (by kernel_rfl) (fun _ _ _ _ h => h) ?q16z ?r16z
    case q16z =>
      intro Y
      try simp only [List.getElem_toArray, List.getElem_cons_zero, List.getElem_cons_succ]
      go_big_quiet_step (fail)
      refine wpQuiet_nil ?_
      rfl
    refine wpAnyV_one 17 (by kernel_rfl) ?_
    intro W hW
    replace hB := bl_trans hB hW
    refine wpOp_step rfl (fun K hK => ?_)
    go_simp
    (with_reducible refine (cK _ hB).mono ?_)
    rintro e wn ⟨rfl, hbn⟩
    go_simp
    refine hK _ _ ⟨hbn, ?_⟩
    clear hK K
    try simp only [Act.put, List.getElem_toArray, List.getElem_cons_zero, List.getElem_cons_succ, List.setIfInBounds_toArray, List.set_cons_zero, List.set_cons_succ]
    replace hB := bl_trans hB hbn
    clear ka la kb lb
    have ka := (Box.past hB xA).cell
    have la := (Box.past hB xA).lt
    have kb := (Box.past hB xB).cell
    have lb := (Box.past hB xB).lt
    refine wpAnyV_takeG (A := ?A18z) 18 rfl (by kernel_rfl) (by kernel_rfl) (by kernel_rfl) (fun _ _ _ _ h => h) ?q18z ?r18z
    case q18z =>
      intro Y
      try simp only [List.getElem_toArray, List.getElem_cons_zero, List.getElem_cons_succ]
      go_big_quiet_step (fail)
      refine wpQuiet_nil ?_
      rfl
    refine wpAnyV_takeG (A := ?A19z) 19 rfl (by kernel_rfl) (by kernel_rfl) (by kernel_rfl) (fun _ _ _ _ h => h) ?q19z ?r19z
    case q19z =>
      intro Y
      try simp only [List.getElem_toArray, List.getElem_cons_zero, List.getElem_cons_succ]
      go_big_quiet_step (fail)
      refine wpQuiet_nil ?_
      rfl
    refine wpAnyV_done (by kernel_rfl) ?_ _
    intro W hW
    replace hB := bl_trans hB hW
    clear hW
    go_wp2_with fail
    go_ret
    exact ⟨rfl, bl_trans hb0 hB⟩

set_option maxRecDepth 100000 in
theorem styleCodes_lifted (os : Os) (started : os.Started) (H : Type) (enc : TypeId × Value → H) :
    ReturnsInHanded {} Tryd.checked os 5 .any (fun w args => (Rows.styleCodesSpec.pre enc Tryd.prog Tryd.f5 [] false w args ∧ laidMetH Tryd.prog laid4 w) ∧ sizedMet enc Tryd.prog Tryd.f5 (OpenSpec.ofChange Rows.styleCodesSpec) false w args)
      (Rows.styleCodesSpec.post enc Tryd.prog Tryd.f5 false true false false) := by
  refine returnsInHanded_of_change_and (C := Tryd.checked) (X := fun w _ => laidMetH Tryd.prog laid4 w) (fun _ _ _ hh h => h.of_heap hh) Tryd.own started (by kernel_rfl) Tryd.func5
    (ChangeSpec.witness_shaped (enc := enc) (C := Tryd.checked) (os := os) (X := fun w _ => laidMetH Tryd.prog laid4 w) false (World.doorLaid Tryd.prog 400 os) #[.agg #[.int .i64 0, .int .u8 0, .int .u8 0, .int .u8 0, .int .u8 0, .int .i64 0, .int .u8 0, .int .u8 0, .int .u8 0, .int .u8 0, .int .u8 0], .agg #[.int .i64 0, .int .u8 0, .int .u8 0, .int .u8 0, .int .u8 0, .int .i64 0, .int .u8 0, .int .u8 0, .int .u8 0, .int .u8 0, .int .u8 0]] 8 rfl (World.shaped_of_RefB (by kernel_rfl) (by kernel_rfl)) (by kernel_rfl) (by kernel_rfl) (by kernel_rfl) (door_met os _)) ?_
  intro W base args ds gs before hval0 hW _ _ hL _
  have hval : ∀ (j : Nat) t v, Tryd.f5.params[j]? = some t → args[j]? = some v → Value.okWide Tryd.prog W .any base t v := hval0
  have hW' := hW
  obtain ⟨p, q, hA0, hV, rfl, hfz, hnd⟩ := hW
  have hA : DataW.TrodAll enc Tryd.prog W 0 (fun _ => true) true Tryd.f5.params.toList args.toList ds p := hA0
  rw [Tryd.params5] at hA hval
  obtain ⟨v0, v1, d0, d1, p0, p1, rfl, rfl, rfl, h0, h1⟩ := trodAll_two hA
  obtain ⟨rfl, rfl⟩ := trodVars_none hV
  obtain ⟨pn0, rfl, hp0⟩ := open_pen (hval 0 27 v0 rfl rfl) h0
  obtain ⟨pn1, rfl, hp1⟩ := open_pen (hval 1 27 v1 rfl rfl) h1
  clear hA0 hval0
  have hT := gl_of_laid hL
  refine (styleCodes_any pn0 pn1 W hT hp0 hp1).mono fun e W' ⟨he, hw⟩ => ?_
  exact ⟨_, he, post_law Tryd.laidOut rfl hW' (by kernel_rfl) rfl Tryd.underlying4 rfl hw⟩

theorem styleCodes_row : Rows.StyleCodesSaid :=
  OpenClaim.holds_of_wide 5 Tryd.f5 rfl rfl rfl rfl rfl rfl rfl ⟨rfl, rfl, rfl, rfl, rfl⟩ rfl rfl rfl rfl rfl (by kernel_rfl) Tryd.func5 (by kernel_rfl)
    (of_decide_eq_true (by kernel_rfl)) (by unfold Func.isWrapper; first | (rw [if_pos (by decide +kernel)]; kernel_rfl) | (rw [if_neg (by decide +kernel)]; exact ⟨rfl, rfl⟩))
    (fun os started H enc _ => styleCodes_lifted os started H enc)

set_option maxHeartbeats 8000000 in
set_option maxRecDepth 100000 in
/-- THE TIED CARD. -/
theorem styleCodes_holds : Rows.StyleCodesCardSaid :=
  Claim7.holds_tied_plain_at .later [] [.data, .data, .data, .data] true (true, "a3470dac668e4131d9f8441a592fc5b44021ebc5f310932b83913053633c592d") false
    styleCodes_row (fun _ h => by cases h) (by kernel_rfl) (fun _ h => by cases h) styleCodes_row_tie rfl ⟨rfl, rfl⟩ (by kernel_rfl) rfl
    (fun f fn hf hfn => by
      obtain rfl : f = 5 := Option.some.inj ((show Tryd.prog.funcNamed "scrollback/scrollbacklaw21.StyleCodes" = some 5 by kernel_rfl).symm.trans hf) |>.symm
      obtain rfl : fn = Tryd.f5 := (Option.some.inj (Tryd.func5.symm.trans hfn)).symm
      exact ⟨by kernel_rfl, fun j t ht => by
        rw [Tryd.params5] at ht
        have hm : t ∈ [27, 27] := by simpa using Array.mem_of_getElem? ht
        have hall : ([27, 27].all fun u => !Tryd.prog.wantsStandIn u) = true := by kernel_rfl
        exact (show Tryd.prog.wantsStandIn t = false by simpa using List.all_eq_true.1 hall t hm)⟩)
    (by kernel_rfl)

end Go.Proofs.YtdoeiaekimbecaaDoor
