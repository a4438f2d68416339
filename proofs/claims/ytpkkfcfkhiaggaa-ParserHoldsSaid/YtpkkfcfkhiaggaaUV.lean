/- utf: the reference's step and all bytes. -/
import Derived.Test.YtpkkfcfkhiaggaaUU
import Derived.Test.YtpkkfcfkhiaggaaLate
import Derived.Outline
set_option linter.unusedSimpArgs false
set_option linter.unusedVariables false
set_option linter.unnecessarySimpa false
namespace Go.Proofs.Ytpkkfcfkhiaggaa
open Go.RowKit
attribute [local go_sem ↓] Go.wp_at_zero Go.wp_at_succ

/-- What the reference's step says: the next state's bytes and the runes. -/
def RefStep (w : World) (s o : List Int) (e : Ending) (w' : World) : Prop :=
  ∃ sv v, e = .returned (.tuple #[.agg #[sv], v]) ∧ Rd w' .u8 sv s ∧ Fresh w sv ∧ Rd w' .i32 v o ∧ Fresh w v ∧ Below w.heap.size w w'
set_option maxRecDepth 100000 in
set_option maxHeartbeats 1000000 in
theorem rstep_A (sv : Value) (bs : List Int) (c : Int) (w : World) (hs : Rd w .u8 sv bs) (hwf : Wf bs) (hc : Byte c) (hi : isB (bs ++ [c]) = true) (hw : wholeB (bs ++ [c]) = true) :
    Calls Try.prog 56 #[.agg #[sv], .int .u8 c] w (RefStep w [] [runeR (bs ++ [c])]) := by
  have hlen := hwf.len
  have HI := Lib.hid hi
  have HW := Lib.hid hw
  have hs1 := hs.below ((Below.refl _ _).alloc (Nat.le_refl _) (.cells #[sv] 33))
  have hs2 := hs1.below ((Below.refl _ _).alloc (Nat.le_refl _) (.cells #[.slice none 0 0] 33))
  have hbx0 : Box ((w.alloc (.cells #[sv] 33)).alloc (.cells #[.slice none 0 0] 33)) (w.heap.size + 1) #[.slice none 0 0] 33 := Box.new _ _ _ (by simp)
  have hbs0 : Box ((w.alloc (.cells #[sv] 33)).alloc (.cells #[.slice none 0 0] 33)) w.heap.size #[sv] 33 := Box.alloc (Box.new _ _ _ rfl) _
  have hbel0 : Below w.heap.size w ((w.alloc (.cells #[sv] 33)).alloc (.cells #[.slice none 0 0] 33)) := bl_alloc ((Below.refl _ _).alloc (Nat.le_refl _) _) _
  clear hi hw
  go_enter Try.func56, Try.ntmps56
  go_wp2_with (first | (at_builtin; refine wpList_app rfl _ _ 22 5 .u8 1 rfl Try.underlying22 el8 (w.heap.size + 2) _ _ [] bs (Own.nil _ _ _ _) hs2 rfl rfl (by simp [maxLen] <;> omega) (by simp <;> omega) (by simp) ?_; intro v1 w1 hown1 hgrow1 _; have hbx1 := (hgrow1.block (w.heap.size + 1) (by simp)).trans hbx0; have hbs1 := (hgrow1.block w.heap.size (by simp)).trans hbs0) | (at_builtin; refine wpList_app rfl _ _ 22 5 .u8 1 rfl Try.underlying22 el8 (w.heap.size + 2) _ _ ([] ++ bs) [c] (Own.kept hown1 ((Below.refl _ _).alloc (Nat.le_refl _) _)) (Rd.lit1 _ _ _ _ _ (by simp)) rfl rfl (by simp [maxLen] <;> omega) (by simp <;> omega) (by have h := hgrow1.size; simp at h ⊢ <;> omega) ?_; intro v2 w2 hown2 hgrow2 _; have hbx2 := (hgrow2.block (w.heap.size + 1) (by simp)).trans (Box.alloc hbx1 _); have hbs2 := (hgrow2.block w.heap.size (by simp)).trans (Box.alloc hbs1 _); have hoff2 := Own.off hown2 (D := w.heap.size + 1) (by omega); have hrd2 : Rd w2 .u8 v2 (bs ++ [c]) := (by simpa using Own.rd hown2); have hfr2 : Fresh w v2 := hrd2.freshOf (fun g h => by have := (Own.block hown2 g h).1; omega); obtain ⟨p2, n2, c2, hv2⟩ := hrd2.shape; clear hown2; subst hv2) | (go_at_call 71; refine (begins_of _ bs c true true _ hrd2 hwf hc HI HW).mono ?_; rintro e w3 ⟨rfl, hbl3⟩; have hbx3 := (hbl3.block _ (Box.lt hbx2)).trans hbx2; have hbs3 := (hbl3.block _ (Box.lt hbs2)).trans hbs2; have s1 := Box.cell hbs3; have s2 := Box.free hbs3; have s3 := Box.lt hbs3; have hrd3 := hrd2.below hbl3; have y1 := Box.cell hbx3; have y2 := Box.free hbx3; have y3 := Box.lt hbx3) | (go_at_call 72; refine (rune_any _ bs c _ hrd3 hwf hc HI.out HW.out).mono ?_; rintro e w4 ⟨rfl, hbl4⟩; have hbx4 := (hbl4.block _ (Box.lt hbx3)).trans hbx3; clear y1 y2 y3; have y1 := Box.cell hbx4; have y2 := Box.free hbx4; have y3 := Box.lt hbx4))
  have hbel : Below w.heap.size w w4 := bl_trans (bl_trans ((bl_alloc (hbel0.trans (hgrow1.mono (by omega))) _).trans (hgrow2.mono (by omega))) hbl3) hbl4
  have hsz := hbel.size
  have hlt := Box.lt hbx4
  refine ret_row_tmp (n := 1) rfl rfl Try.underlying33 rfl (by kernel_rfl) rfl ⟨_, by simp (maxDischargeDepth := 6) [go_sem, Box.row hbx4, y3] <;> rfl, rfl, ?_⟩
  exact ⟨.slice none 0 0, _, rfl, Rd.nil _ _, Fresh.nil _ _ _, Rd.lit1 _ _ _ _ _ (by simp), Fresh.at (by simpa using hbel.size), bl_alloc (hbel.setCell (by simp) _) _⟩

set_option maxRecDepth 100000 in
set_option maxHeartbeats 1000000 in
theorem rstep_B (sv : Value) (bs : List Int) (c : Int) (w : World) (hs : Rd w .u8 sv bs) (hwf : Wf bs) (hc : Byte c) (hi : isB (bs ++ [c]) = true) (hw : wholeB (bs ++ [c]) = false) :
    Calls Try.prog 56 #[.agg #[sv], .int .u8 c] w (RefStep w (bs ++ [c]) []) := by
  have hlen := hwf.len
  have HI := Lib.hid hi
  have HW := Lib.hid hw
  have hs1 := hs.below ((Below.refl _ _).alloc (Nat.le_refl _) (.cells #[sv] 33))
  have hs2 := hs1.below ((Below.refl _ _).alloc (Nat.le_refl _) (.cells #[.slice none 0 0] 33))
  have hbx0 : Box ((w.alloc (.cells #[sv] 33)).alloc (.cells #[.slice none 0 0] 33)) (w.heap.size + 1) #[.slice none 0 0] 33 := Box.new _ _ _ (by simp)
  have hbs0 : Box ((w.alloc (.cells #[sv] 33)).alloc (.cells #[.slice none 0 0] 33)) w.heap.size #[sv] 33 := Box.alloc (Box.new _ _ _ rfl) _
  have hbel0 : Below w.heap.size w ((w.alloc (.cells #[sv] 33)).alloc (.cells #[.slice none 0 0] 33)) := bl_alloc ((Below.refl _ _).alloc (Nat.le_refl _) _) _
  clear hi hw
  go_enter Try.func56, Try.ntmps56
  go_wp2_with (first | (at_builtin; refine wpList_app rfl _ _ 22 5 .u8 1 rfl Try.underlying22 el8 (w.heap.size + 2) _ _ [] bs (Own.nil _ _ _ _) hs2 rfl rfl (by simp [maxLen] <;> omega) (by simp <;> omega) (by simp) ?_; intro v1 w1 hown1 hgrow1 _; have hbx1 := (hgrow1.block (w.heap.size + 1) (by simp)).trans hbx0; have hbs1 := (hgrow1.block w.heap.size (by simp)).trans hbs0) | (at_builtin; refine wpList_app rfl _ _ 22 5 .u8 1 rfl Try.underlying22 el8 (w.heap.size + 2) _ _ ([] ++ bs) [c] (Own.kept hown1 ((Below.refl _ _).alloc (Nat.le_refl _) _)) (Rd.lit1 _ _ _ _ _ (by simp)) rfl rfl (by simp [maxLen] <;> omega) (by simp <;> omega) (by have h := hgrow1.size; simp at h ⊢ <;> omega) ?_; intro v2 w2 hown2 hgrow2 _; have hbx2 := (hgrow2.block (w.heap.size + 1) (by simp)).trans (Box.alloc hbx1 _); have hbs2 := (hgrow2.block w.heap.size (by simp)).trans (Box.alloc hbs1 _); have hoff2 := Own.off hown2 (D := w.heap.size + 1) (by omega); have hrd2 : Rd w2 .u8 v2 (bs ++ [c]) := (by simpa using Own.rd hown2); have hfr2 : Fresh w v2 := hrd2.freshOf (fun g h => by have := (Own.block hown2 g h).1; omega); obtain ⟨p2, n2, c2, hv2⟩ := hrd2.shape; clear hown2; subst hv2) | (go_at_call 71; refine (begins_of _ bs c true false _ hrd2 hwf hc HI HW).mono ?_; rintro e w3 ⟨rfl, hbl3⟩; have hbx3 := (hbl3.block _ (Box.lt hbx2)).trans hbx2; have hbs3 := (hbl3.block _ (Box.lt hbs2)).trans hbs2; have s1 := Box.cell hbs3; have s2 := Box.free hbs3; have s3 := Box.lt hbs3; have hrd3 := hrd2.below hbl3; have y1 := Box.cell hbx3; have y2 := Box.free hbx3; have y3 := Box.lt hbx3))
  have hbel : Below w.heap.size w w3 := bl_trans ((bl_alloc (hbel0.trans (hgrow1.mono (by omega))) _).trans (hgrow2.mono (by omega))) hbl3
  refine ret_row_tmp (n := 1) rfl rfl Try.underlying33 rfl (by kernel_rfl) rfl ⟨_, by simp (maxDischargeDepth := 6) [go_sem, Box.row hbx3, y3] <;> rfl, rfl, ?_⟩
  exact ⟨_, _, rfl, hrd3.kept (Bar.grown (Bar.set (Bar.refl (w.heap.size + 1) w3) 0 _)) (.inr hoff2), hfr2, Rd.nil _ _, Fresh.nil _ _ _, hbel.setCell (by simp) _⟩

set_option maxRecDepth 100000 in
set_option maxHeartbeats 1000000 in
theorem rstep_C (sv : Value) (bs : List Int) (c : Int) (w : World) (hs : Rd w .u8 sv bs) (hwf : Wf bs) (hc : Byte c) (y : Bool) (hn : bs = []) (hi : isB (bs ++ [c]) = false) (hw : wholeB (bs ++ [c]) = y) :
    Calls Try.prog 56 #[.agg #[sv], .int .u8 c] w (RefStep w [] [65533]) := by
  have hlen := hwf.len
  have HI := Lib.hid hi
  have HW := Lib.hid hw
  have hs1 := hs.below ((Below.refl _ _).alloc (Nat.le_refl _) (.cells #[sv] 33))
  have hs2 := hs1.below ((Below.refl _ _).alloc (Nat.le_refl _) (.cells #[.slice none 0 0] 33))
  have hbx0 : Box ((w.alloc (.cells #[sv] 33)).alloc (.cells #[.slice none 0 0] 33)) (w.heap.size + 1) #[.slice none 0 0] 33 := Box.new _ _ _ (by simp)
  have hbs0 : Box ((w.alloc (.cells #[sv] 33)).alloc (.cells #[.slice none 0 0] 33)) w.heap.size #[sv] 33 := Box.alloc (Box.new _ _ _ rfl) _
  have hbel0 : Below w.heap.size w ((w.alloc (.cells #[sv] 33)).alloc (.cells #[.slice none 0 0] 33)) := bl_alloc ((Below.refl _ _).alloc (Nat.le_refl _) _) _
  subst hn
  obtain ⟨ps, cs, rfl, _, _, _⟩ := hs
  clear hi hw
  go_enter Try.func56, Try.ntmps56
  go_wp2_with (first | (at_builtin; refine wpList_app rfl _ _ 22 5 .u8 1 rfl Try.underlying22 el8 (w.heap.size + 2) _ _ [] [] (Own.nil _ _ _ _) hs2 rfl rfl (by simp [maxLen] <;> omega) (by simp <;> omega) (by simp) ?_; intro v1 w1 hown1 hgrow1 _; have hbx1 := (hgrow1.block (w.heap.size + 1) (by simp)).trans hbx0; have hbs1 := (hgrow1.block w.heap.size (by simp)).trans hbs0) | (at_builtin; refine wpList_app rfl _ _ 22 5 .u8 1 rfl Try.underlying22 el8 (w.heap.size + 2) _ _ ([] ++ []) [c] (Own.kept hown1 ((Below.refl _ _).alloc (Nat.le_refl _) _)) (Rd.lit1 _ _ _ _ _ (by simp)) rfl rfl (by simp [maxLen] <;> omega) (by simp <;> omega) (by have h := hgrow1.size; simp at h ⊢ <;> omega) ?_; intro v2 w2 hown2 hgrow2 _; have hbx2 := (hgrow2.block (w.heap.size + 1) (by simp)).trans (Box.alloc hbx1 _); have hbs2 := (hgrow2.block w.heap.size (by simp)).trans (Box.alloc hbs1 _); have hoff2 := Own.off hown2 (D := w.heap.size + 1) (by omega); have hrd2 : Rd w2 .u8 v2 ([] ++ [c]) := (by simpa using Own.rd hown2); have hfr2 : Fresh w v2 := hrd2.freshOf (fun g h => by have := (Own.block hown2 g h).1; omega); obtain ⟨p2, n2, c2, hv2⟩ := hrd2.shape; clear hown2; subst hv2) | (go_at_call 71; refine (begins_of _ [] c false y _ hrd2 hwf hc HI HW).mono ?_; rintro e w3 ⟨rfl, hbl3⟩; have hbx3 := (hbl3.block _ (Box.lt hbx2)).trans hbx2; have hbs3 := (hbl3.block _ (Box.lt hbs2)).trans hbs2; have s1 := Box.cell hbs3; have s2 := Box.free hbs3; have s3 := Box.lt hbs3; have hrd3 := hrd2.below hbl3; have y1 := Box.cell hbx3; have y2 := Box.free hbx3; have y3 := Box.lt hbx3))
  have hbel : Below w.heap.size w w3 := bl_trans ((bl_alloc (hbel0.trans (hgrow1.mono (by omega))) _).trans (hgrow2.mono (by omega))) hbl3
  refine ret_row_tmp (n := 1) rfl rfl Try.underlying33 rfl (by kernel_rfl) rfl ⟨_, by simp (maxDischargeDepth := 6) [go_sem, Box.row hbx3, y3] <;> rfl, rfl, ?_⟩
  exact ⟨.slice none 0 0, _, rfl, Rd.nil _ _, Fresh.nil _ _ _, Rd.lit1 _ _ _ _ _ (by simp), Fresh.at (by simpa using hbel.size), bl_alloc (hbel.setCell (by simp) _) _⟩

theorem rstep_nil (sv : Value) (c : Int) (w : World) (hs : Rd w .u8 sv []) (hc : Byte c) : Calls Try.prog 56 #[.agg #[sv], .int .u8 c] w (RefStep w (stepS [] c) (stepO [] c)) := by
  have hr := ref_nil c hc
  rw [← hr.1, ← hr.2]
  cases hi : isB ([] ++ [c]) with
  | true =>
    cases hw : wholeB ([] ++ [c]) with
    | true =>
      rw [show refS [] c = [] by simp only [refS, hi, hw]; rfl, show refO [] c = [runeR ([] ++ [c])] by simp only [refO, hi, hw]; rfl]
      exact rstep_A sv [] c w hs .nil hc hi hw
    | false =>
      rw [show refS [] c = [] ++ [c] by simp only [refS, hi, hw]; rfl, show refO [] c = [] by simp only [refO, hi, hw]; rfl]
      exact rstep_B sv [] c w hs .nil hc hi hw
  | false =>
    rw [show refS [] c = [] by simp only [refS, hi]; rfl, show refO [] c = [65533] by simp only [refO, hi]; rfl]
    exact rstep_C sv [] c w hs .nil hc _ rfl hi rfl

set_option maxRecDepth 100000 in
set_option maxHeartbeats 1000000 in
theorem rstep_D (sv : Value) (bs : List Int) (c : Int) (w : World) (hs : Rd w .u8 sv bs) (hwf : Wf bs) (hc : Byte c) (y : Bool) (hn : bs ≠ []) (hi : isB (bs ++ [c]) = false) (hw : wholeB (bs ++ [c]) = y) :
    Calls Try.prog 56 #[.agg #[sv], .int .u8 c] w (RefStep w (stepS [] c) (65533 :: stepO [] c)) := by
  have hlen := hwf.len
  have HI := Lib.hid hi
  have HW := Lib.hid hw
  have hs1 := hs.below ((Below.refl _ _).alloc (Nat.le_refl _) (.cells #[sv] 33))
  have hs2 := hs1.below ((Below.refl _ _).alloc (Nat.le_refl _) (.cells #[.slice none 0 0] 33))
  have hbx0 : Box ((w.alloc (.cells #[sv] 33)).alloc (.cells #[.slice none 0 0] 33)) (w.heap.size + 1) #[.slice none 0 0] 33 := Box.new _ _ _ (by simp)
  have hbs0 : Box ((w.alloc (.cells #[sv] 33)).alloc (.cells #[.slice none 0 0] 33)) w.heap.size #[sv] 33 := Box.alloc (Box.new _ _ _ rfl) _
  have hbel0 : Below w.heap.size w ((w.alloc (.cells #[sv] 33)).alloc (.cells #[.slice none 0 0] 33)) := bl_alloc ((Below.refl _ _).alloc (Nat.le_refl _) _) _
  have hl := List.length_pos_iff.2 hn
  have zl : ((bs.length : Int) == 0) = false := by rw [beq_eq_false_iff_ne]; omega
  clear hn
  obtain ⟨ps, cs, rfl, _, _, _⟩ := hs
  clear hi hw
  go_enter Try.func56, Try.ntmps56
  go_wp2_with (first | (at_builtin; refine wpList_app rfl _ _ 22 5 .u8 1 rfl Try.underlying22 el8 (w.heap.size + 2) _ _ [] bs (Own.nil _ _ _ _) hs2 rfl rfl (by simp [maxLen] <;> omega) (by simp <;> omega) (by simp) ?_; intro v1 w1 hown1 hgrow1 _; have hbx1 := (hgrow1.block (w.heap.size + 1) (by simp)).trans hbx0; have hbs1 := (hgrow1.block w.heap.size (by simp)).trans hbs0) | (at_builtin; refine wpList_app rfl _ _ 22 5 .u8 1 rfl Try.underlying22 el8 (w.heap.size + 2) _ _ ([] ++ bs) [c] (Own.kept hown1 ((Below.refl _ _).alloc (Nat.le_refl _) _)) (Rd.lit1 _ _ _ _ _ (by simp)) rfl rfl (by simp [maxLen] <;> omega) (by simp <;> omega) (by have h := hgrow1.size; simp at h ⊢ <;> omega) ?_; intro v2 w2 hown2 hgrow2 _; have hbx2 := (hgrow2.block (w.heap.size + 1) (by simp)).trans (Box.alloc hbx1 _); have hbs2 := (hgrow2.block w.heap.size (by simp)).trans (Box.alloc hbs1 _); have hoff2 := Own.off hown2 (D := w.heap.size + 1) (by omega); have hrd2 : Rd w2 .u8 v2 (bs ++ [c]) := (by simpa using Own.rd hown2); have hfr2 : Fresh w v2 := hrd2.freshOf (fun g h => by have := (Own.block hown2 g h).1; omega); obtain ⟨p2, n2, c2, hv2⟩ := hrd2.shape; clear hown2; subst hv2) | (go_at_call 71; refine (begins_of _ bs c false y _ hrd2 hwf hc HI HW).mono ?_; rintro e w3 ⟨rfl, hbl3⟩; have hbx3 := (hbl3.block _ (Box.lt hbx2)).trans hbx2; have hbs3 := (hbl3.block _ (Box.lt hbs2)).trans hbs2; have s1 := Box.cell hbs3; have s2 := Box.free hbs3; have s3 := Box.lt hbs3; have hrd3 := hrd2.below hbl3; have y1 := Box.cell hbx3; have y2 := Box.free hbx3; have y3 := Box.lt hbx3) | (go_at_call 56; refine (rstep_nil (.slice none 0 0) c _ (Rd.nil _ _) hc).mono ?_; rintro e w4 ⟨nv, v, rfl, hnv, hnf, hv, _, hbl4⟩; obtain ⟨pn, nn, cn, hnv2⟩ := hnv.shape; subst hnv2; obtain ⟨pv, nvv, cv, hv2⟩ := hv.shape; subst hv2; have hbx4 := (hbl4.block _ (Box.lt hbx3)).trans hbx3; clear y1 y2 y3 s1 s2 s3; have y1 := Box.cell hbx4; have y2 := Box.free hbx4; have y3 := Box.lt hbx4))
  have hbel : Below w.heap.size w w4 := bl_trans (bl_trans ((bl_alloc (hbel0.trans (hgrow1.mono (by omega))) _).trans (hgrow2.mono (by omega))) hbl3) hbl4
  have hol : (stepO [] c).length ≤ 2 := stepO_len [] c
  have hS : Box (w4.alloc (.cells #[.slice pn nn cn] 33)).drew w4.heap.size #[.slice pn nn cn] 33 := Box.drew (Box.new _ _ _ rfl)
  refine wp_region_late (fun W => Box W w4.heap.size #[.slice pn nn cn] 33) [4] (by kernel_rfl) ?_
  refine wpAnyG_load (v := ?v0) 0 rfl (by kernel_rfl) (by kernel_rfl) (by kernel_rfl) (by kernel_rfl) (fun _ _ _ h => h) (Or.inl ⟨by rfl, ?h0⟩) hS (fun _ => ?r0)
  case h0 => (intro W hW; have q1 := Box.cell hW; go_simp; try with_reducible rfl)
  try simp only [Act.put, List.getElem_toArray, List.getElem_cons_zero, List.getElem_cons_succ, List.setIfInBounds_toArray, List.set_cons_zero, List.set_cons_succ]
  refine wpAnyG_pure (v := ?v2) 2 rfl (by kernel_rfl) (by kernel_rfl) (by kernel_rfl) (by kernel_rfl) (fun _ _ _ h => h) (Or.inl ⟨by rfl, ?h2⟩) (fun _ => hS) (fun _ => ?r2)
  case h2 => (intro w _; go_simp; try with_reducible rfl)
  try simp only [Act.put, List.getElem_toArray, List.getElem_cons_zero, List.getElem_cons_succ, List.setIfInBounds_toArray, List.set_cons_zero, List.set_cons_succ]
  refine wpAnyG_one 1 rfl (by kernel_rfl) ?_
  refine wpOp_step rfl (fun K hK => ?_)
  go_simp
  refine hK _ _ ⟨fun _ => Box.drew (Box.alloc (Box.new w4 _ _ rfl) _), ?_⟩
  clear hK K
  try simp only [Act.put, List.getElem_toArray, List.getElem_cons_zero, List.getElem_cons_succ, List.setIfInBounds_toArray, List.set_cons_zero, List.set_cons_succ]
  refine wpAnyG_one 3 rfl (by kernel_rfl) ?_
  refine wpOp_step rfl (fun K hK => ?_)
  refine step_appw (by rfl) (.tmp 46) (.tmp 47) 45 21 .i32 4 (by rfl) Try.underlying45 el32 (w4.heap.size + 1) _ _ [65533] (stepO [] c) (Own.kept (Own.lit1 (w4.alloc (.cells #[.slice pn nn cn] 33)) 21 .i32 65533 (w4.heap.size + 1) (w4.heap.size + 1) (by simp) (by simp)) ((Below.refl _ _).drew)) (hv.below (((Below.refl _ _).alloc (Nat.le_refl _) _).alloc (by simp) _).drew) (by rfl) (by rfl) (by simp [maxLen] <;> omega) (by simp <;> omega) (by simp) ?_
  intro v' w5 hown' hgrow hwhere
  have hrow : ∀ g, Value.ownBlock (.slice (some ⟨w4.heap.size + 1, 0, none⟩) 1 1) = some g → g = w4.heap.size + 1 := fun g h => by simp [Value.ownBlock] at h; exact h.symm
  have hbx5 : Box w5 (w.heap.size + 1) #[.slice none 0 0] 33 := (hgrow.block _ (by simp; omega) (fun e => by have := hrow _ e.symm; omega)).trans (Box.drew (Box.alloc (Box.alloc hbx4 _) _))
  have hS5 : Box w5 w4.heap.size #[.slice pn nn cn] 33 := (hgrow.block _ (by simp; omega) (fun e => by have := hrow _ e.symm; omega)).trans (Box.drew (Box.alloc (Box.new w4 _ _ rfl) _))
  refine hK _ _ ⟨fun _ => hS5, ?_⟩
  clear hK K
  try simp only [Act.put, List.getElem_toArray, List.getElem_cons_zero, List.getElem_cons_succ, List.setIfInBounds_toArray, List.set_cons_zero, List.set_cons_succ]
  clear y1 y2 y3
  have y1 := Box.cell hbx5
  have y2 := Box.free hbx5
  have y3 := Box.lt hbx5
  refine wpAnyG_one 4 rfl (by kernel_rfl) ?_
  refine wpOp_step rfl (fun K hK => ?_)
  go_simp
  refine hK _ _ ⟨(fun h => absurd (h 4 (by simp)) (of_decide_eq_true (by kernel_rfl))), ?_⟩
  clear hK K
  try simp only [Act.put, List.getElem_toArray, List.getElem_cons_zero, List.getElem_cons_succ, List.setIfInBounds_toArray, List.set_cons_zero, List.set_cons_succ]
  refine wpAnyG_pure (v := ?v5) 5 rfl (by kernel_rfl) (by kernel_rfl) (by kernel_rfl) (by kernel_rfl) (fun _ _ _ h => h) (Or.inl ⟨by rfl, ?h5⟩) (fun h => absurd (h 4 (by simp)) (of_decide_eq_true (by kernel_rfl))) (fun _ => ?r5)
  case h5 => (intro w _; go_simp; try with_reducible rfl)
  try simp only [Act.put, List.getElem_toArray, List.getElem_cons_zero, List.getElem_cons_succ, List.setIfInBounds_toArray, List.set_cons_zero, List.set_cons_succ]
  refine wpAnyG_done (by kernel_rfl) ?_ _
  go_wp2_with fail
  refine ret_row_tmp (n := 1) rfl rfl Try.underlying33 rfl (by kernel_rfl) rfl ⟨_, by simp (maxDischargeDepth := 6) [go_sem, Box.row hbx5, y3] <;> rfl, rfl, ?_⟩
  have hbw : Below w.heap.size w w5 := app_below (bl_alloc (bl_alloc hbel _) _).drew hgrow (fun g h => by have := hrow g h; have := hbel.size; omega)
  have hnv5 : Rd w5 .u8 (.slice pn nn cn) (stepS [] c) := (hnv.below (((Below.refl _ _).alloc (Nat.le_refl _) _).alloc (by simp) _).drew).kept hgrow (by
    cases he : (Value.slice pn nn cn).ownBlock with
    | none => exact .inl rfl
    | some g => exact .inr (fun e => by have := hrow g e.symm; have := hnv.in g he; omega))
  have hx4 := Box.lt hbx4
  have hx3 := Box.lt hbx3
  have hs3 : w.heap.size ≤ w3.heap.size := by omega
  exact ⟨_, v', rfl, hnv5.kept (Bar.grown (Bar.set (Bar.refl (w.heap.size + 1) w5) 0 _)) (.inr (fun e => by have := hnv.fresh hnf _ e; omega)), hnf.older hs3, (Own.rd hown').kept (Bar.grown (Bar.set (Bar.refl (w.heap.size + 1) w5) 0 _)) (.inr (hown'.off (by omega))), (Own.rd hown').freshOf (fun g h => by have := (Own.block hown' g h).1; omega), hbw.setCell (by simp) _⟩

theorem rstep_any (sv : Value) (bs : List Int) (c : Int) (w : World) (hs : Rd w .u8 sv bs) (hwf : Wf bs) (hc : Byte c) : Calls Try.prog 56 #[.agg #[sv], .int .u8 c] w (RefStep w (stepS bs c) (stepO bs c)) := by
  by_cases hn : bs = []
  · subst hn; exact rstep_nil sv c w hs hc
  · have hr := ref_step bs c hwf hc
    have hr0 := ref_nil c hc
    rw [← hr.1, ← hr.2]
    cases hi : isB (bs ++ [c]) with
    | true =>
      cases hw : wholeB (bs ++ [c]) with
      | true =>
        rw [show refS bs c = [] by simp only [refS, hi, hw]; rfl, show refO bs c = [runeR (bs ++ [c])] by simp only [refO, hi, hw]; rfl]
        exact rstep_A sv bs c w hs hwf hc hi hw
      | false =>
        rw [show refS bs c = bs ++ [c] by simp only [refS, hi, hw]; rfl, show refO bs c = [] by simp only [refO, hi, hw]; rfl]
        exact rstep_B sv bs c w hs hwf hc hi hw
    | false =>
      rw [show refS bs c = refS [] c by simp [refS, hi, hn], show refO bs c = 65533 :: refO [] c by simp [refO, hi, hn], hr0.1, hr0.2]
      exact rstep_D sv bs c w hs hwf hc _ hn hi rfl

end Go.Proofs.Ytpkkfcfkhiaggaa
