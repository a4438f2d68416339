/- pointer: what the law's model does at an event. -/
import Derived.Test.YtfhigmogcpocpaaDoorG
import Derived.Outline
set_option linter.unusedSimpArgs false
set_option linter.unusedVariables false
set_option linter.unnecessarySimpa false
namespace Go.Proofs.YtfhigmogcpocpaaDoor
open Go.RowKit

def fb (b : Int) (l : List Int) : List Int := l.filter fun z => !decide (z = b)
theorem fb_len (b : Int) (l : List Int) : (fb b l).length ≤ l.length := List.length_filter_le _ _
theorem fb_next (b : Int) (l : List Int) (k : Nat) (h : k < l.length) : fb b (l.take (k + 1)) = if l[k] = b then fb b (l.take k) else fb b (l.take k) ++ [l[k]] := by
  unfold fb
  rw [List.take_succ_eq_append_getElem h, List.filter_append]
  by_cases he : l[k] = b <;> simp [he]
theorem mv_code (m : Int) (e x y z : Bool) (a0 a1 : Int) (t : Bool) (r c : Int) : (moveN ⟨m, e, x, y, z, a0, a1, t⟩ r c).2 = true → mvN ⟨m, e, x, y, z, a0, a1, t⟩ 0 = (moveN ⟨m, e, x, y, z, a0, a1, t⟩ r c).1 := by
  unfold moveN mvN
  intro h
  by_cases e1 : a0 = r <;> by_cases e2 : a1 = c <;> cases x <;> cases y <;> cases z <;> cases t <;> simp_all
theorem mv_sent (m : Int) (e x y z : Bool) (a0 a1 : Int) (t : Bool) (r c : Int) (n : Nat) (hm : 0 ≤ m ∧ m ≤ 3) (hn : 0 < n ↔ (x = true ∨ y = true ∨ z = true)) : (moveN ⟨m, e, x, y, z, a0, a1, t⟩ r c).2 = ((decide (m = 3) || (decide (m = 2) && decide (0 < n))) && !(t && (decide (a0 = r) && decide (a1 = c)))) := by
  have h0 : decide (0 < n) = (x || y || z) := by rw [Bool.eq_iff_iff]; simp [hn, or_assoc]
  rw [h0]
  have h2 : decide (2 ≤ m) = (decide (m = 3) || decide (m = 2)) := by rw [Bool.eq_iff_iff]; simp; omega
  unfold moveN
  rw [h2]
  by_cases e1 : a0 = r <;> by_cases e2 : a1 = c <;> cases x <;> cases y <;> cases z <;> cases t <;> simp_all
theorem MidM.grow {M bx : Nat} {w : World} {p : Pt} {n : Nat} {v0 : Value} {k b r c : Int} {sh al ct : Bool} {cv sv : Value} {wx wy : World} (h : MidM M bx w p n v0 k b r c sh al ct cv sv wx) (hb : Below wx.heap.size wx wy) : MidM M bx w p n v0 k b r c sh al ct cv sv wy := by
  obtain ⟨sl, l, cd, h1, h2, h3, h4, h5, h6, h7, h8, h9, h10, h11, h12⟩ := h
  exact ⟨sl, l, cd, h1, h2, h3, h4, (hb.block M h5.lt).trans h5, h6.below hb, h7, h8, h9, (hb.block bx h10.lt).trans h10, h11.below hb, h12⟩
theorem strSize3 (A B C : Int) : (strOfNums [A, B, C]).size = 3 := rfl
theorem MoA.below {w w' : World} {M D : Nat} (h : MoA w M D) (hM : M < w.heap.size) (hb : Below w.heap.size w w') : MoA w' M D := fun v hv => h v (by rw [← hb.cell (p := ⟨M, 2, none⟩) hM]; exact hv)
theorem elI : (Tryd.prog.info? 3).map (fun i => (i.zero, i.size, i.bytes)) = some (some (.int .i64 0), 1, 8) := by kernel_rfl

set_option maxHeartbeats 8000000 in
set_option maxRecDepth 100000 in
theorem mdo_ok (M : Nat) (m : Int) (e x y z : Bool) (a0 a1 : Int) (t : Bool) (n : Nat) (k b r c : Int) (sh al ct : Bool) (w : World) (h : MoB w M ⟨m, e, x, y, z, a0, a1, t⟩ n) (hn : n ≤ 1000) (hv : validE k b r c = true) : Calls Tryd.prog 11 #[.pointer (some ⟨M, 0, none⟩), .agg #[.int .i64 k, .int .i64 b, .int .i64 r, .int .i64 c, .bool sh, .bool al, .bool ct]] w (MDoE M ⟨m, e, x, y, z, a0, a1, t⟩ n k b r c sh al ct w) := by
  obtain ⟨sl, l, hx, hrd0, hap0, hln, hmem, hm0, hm3⟩ := h
  simp only at hx hm0 hm3
  obtain ⟨p1, cap1, rfl, l1, mx1, c1⟩ := hrd0
  have hrd : Rd w .i64 (.slice p1 l.length cap1) l := ⟨p1, cap1, rfl, l1, mx1, c1⟩
  have hap : Apart (.slice p1 l.length cap1) M := hap0
  have C1 := Lib.hid c1
  have L1 := Lib.hid l1
  clear c1 l1 mx1 hap0
  have hlM := hx.lt
  have hcM := hx.cell
  have hMne : w.heap.size ≠ M := by omega
  have hcr := code_range ⟨m, e, x, y, z, a0, a1, t⟩ k b r c hv
  have hmd := md_range sh al ct
  have xe0 : Box (w.alloc (.cells #[.int .i64 k, .int .i64 b, .int .i64 r, .int .i64 c, .bool sh, .bool al, .bool ct] 24)) w.heap.size #[.int .i64 k, .int .i64 b, .int .i64 r, .int .i64 c, .bool sh, .bool al, .bool ct] 24 := Box.new _ _ _ rfl
  have hb0 : Below w.heap.size w (w.alloc (.cells #[.int .i64 k, .int .i64 b, .int .i64 r, .int .i64 c, .bool sh, .bool al, .bool ct] 24)) := bl_alloc (Below.refl _ _) _
  have hv0 := hv
  unfold validE at hv
  have hv := of_decide_eq_true hv
  obtain ⟨hkk, hrc⟩ := hv
  have hm03 := And.intro hm0 hm3
  have hsm : decide (0 < m) = !decide (m = 0) := by by_cases h0 : m = 0 <;> simp [h0] <;> omega
  have HSM := Lib.hid hsm
  clear hsm
  go_enter Tryd.func11, Tryd.ntmps11
  go_wp2_with fail
  first | refine wp_grow2 (by kernel_rfl) (by kernel_rfl) ?_ | refine wp_grow (by kernel_rfl) (by kernel_rfl) ?_
  repeat (go_big_quiet_step (fail))
  refine wpQuiet_nil ?_
  rintro _ ⟨X, rfl⟩
  obtain ⟨W0, hW0e, hW0, xe⟩ : ∃ W0, X.world = W0 ∧ Below w.heap.size w W0 ∧ Box W0 w.heap.size #[.int .i64 k, .int .i64 b, .int .i64 r, .int .i64 c, .bool sh, .bool al, .bool ct] 24 := ⟨_, rfl, bl_trans hb0 X.grow, Box.gw xe0⟩
  rw [hW0e]
  clear hW0e X hb0 xe0
  have ce := xe.cell
  have le := xe.lt
  have xm : Box W0 M _ _ := (hW0.block M hlM).trans hx
  have cm := xm.cell
  have fm := xm.free
  have lm := xm.lt
  go_upto_block 0 with fail
  go_cut [5, 6] (fun cv sv wx => MidM M w.heap.size w ⟨m, e, x, y, z, a0, a1, t⟩ n (.slice p1 l.length cap1) k b r c sh al ct cv sv wx)
  case first =>
    rcases hkk with ⟨rfl | rfl, h1, h2⟩ | ⟨rfl | rfl | rfl, rfl⟩
    · as_aux_lemma =>
        have hb13 : 1 ≤ b ∧ b ≤ 3 := ⟨h1, h2⟩
        have HC : Hid (codeN ⟨m, e, x, y, z, a0, a1, t⟩ 1 b r c = (b - 1, !decide (m = 0) && !hasB ⟨m, e, x, y, z, a0, a1, t⟩ b)) := rfl
        have t1 : IntKind.i64.wrap (b - 1) = b - 1 := IntWalk.i64_in _ (by omega)
        have cH := fun W (hb : Below w.heap.size w W) => mheld_any M m e x y z a0 a1 t (.slice p1 l.length cap1) l b W ((hb.block M hlM).trans hx) (hrd.below hb)
        have hbl0 : Below w.heap.size w W0 := hW0
        obtain ⟨q, hq⟩ : ∃ q, hasB ⟨m, e, x, y, z, a0, a1, t⟩ b = q := ⟨_, rfl⟩
        rw [hmem b, hq] at cH
        have HQ := Lib.hid hq
        clear hq
        cases q
        · go_wp2_with (go_at_call 21; (with_reducible refine (cH _ hbl0).mono ?_); rintro e w2 ⟨rfl, hb2⟩)
          have hl2 : Below w.heap.size w w2 := bl_trans hbl0 hb2
          have xm2 : Box w2 M _ _ := (hl2.block M hlM).trans hx
          have cm2 := xm2.cell
          have fm2 := xm2.free
          have lm2 := xm2.lt
          have xe2 : Box w2 w.heap.size #[.int .i64 1, .int .i64 b, .int .i64 r, .int .i64 c, .bool sh, .bool al, .bool ct] 24 := (hb2.block _ xe.lt).trans xe
          have ce2 := xe2.cell
          have le2 := xe2.lt
          have hr2 := hrd.below hl2
          clear cH
          have hS : Below w2.heap.size w2 w2.drew := (Below.refl _ _).drew
          refine wp_region_late (fun Z => Below w2.heap.size w2 Z) [12] (by kernel_rfl) ?_
          refine wpAnyG_pure (v := ?v0k) 0 rfl (by kernel_rfl) (by kernel_rfl) (by kernel_rfl) (by kernel_rfl) (fun _ _ _ h => h) (Or.inl ⟨by rfl, ?h0k⟩) (fun _ => hS) (fun _ => ?r0k)
          case h0k => (intro w _; go_simp; try with_reducible rfl)
          try simp only [Act.put, List.getElem_toArray, List.getElem_cons_zero, List.getElem_cons_succ, List.setIfInBounds_toArray, List.set_cons_zero, List.set_cons_succ]
          refine wpAnyG_pure (v := ?v1k) 1 rfl (by kernel_rfl) (by kernel_rfl) (by kernel_rfl) (by kernel_rfl) (fun _ _ _ h => h) (Or.inl ⟨by rfl, ?h1k⟩) (fun _ => hS) (fun _ => ?r1k)
          case h1k => (intro w _; go_simp; try with_reducible rfl)
          try simp only [Act.put, List.getElem_toArray, List.getElem_cons_zero, List.getElem_cons_succ, List.setIfInBounds_toArray, List.set_cons_zero, List.set_cons_succ]
          refine wpAnyG_pure (v := ?v2k) 2 rfl (by kernel_rfl) (by kernel_rfl) (by kernel_rfl) (by kernel_rfl) (fun _ _ _ h => h) (Or.inl ⟨by rfl, ?h2k⟩) (fun _ => hS) (fun _ => ?r2k)
          case h2k => (intro w _; go_simp; try with_reducible rfl)
          try simp only [Act.put, List.getElem_toArray, List.getElem_cons_zero, List.getElem_cons_succ, List.setIfInBounds_toArray, List.set_cons_zero, List.set_cons_succ]
          refine wpAnyG_pure (v := ?v3k) 3 rfl (by kernel_rfl) (by kernel_rfl) (by kernel_rfl) (by kernel_rfl) (fun _ _ _ h => h) (Or.inl ⟨by rfl, ?h3k⟩) (fun _ => hS) (fun _ => ?r3k)
          case h3k => (intro w _; go_simp; try with_reducible rfl)
          try simp only [Act.put, List.getElem_toArray, List.getElem_cons_zero, List.getElem_cons_succ, List.setIfInBounds_toArray, List.set_cons_zero, List.set_cons_succ]
          refine wpAnyG_load (v := ?v4k) 4 rfl (by kernel_rfl) (by kernel_rfl) (by kernel_rfl) (by kernel_rfl) (fun _ _ _ h => h) (Or.inl ⟨by rfl, ?h4k⟩) hS (fun _ => ?r4k)
          case h4k => (intro Z hZ; have hZc := (hZ.block M lm2).trans xm2; have cz := Box.cell hZc; have lz := Box.lt hZc; clear hZc; go_simp; try with_reducible rfl)
          try simp only [Act.put, List.getElem_toArray, List.getElem_cons_zero, List.getElem_cons_succ, List.setIfInBounds_toArray, List.set_cons_zero, List.set_cons_succ]
          refine wpAnyG_pure (v := ?v6k) 6 rfl (by kernel_rfl) (by kernel_rfl) (by kernel_rfl) (by kernel_rfl) (fun _ _ _ h => h) (Or.inl ⟨by rfl, ?h6k⟩) (fun _ => hS) (fun _ => ?r6k)
          case h6k => (intro w _; go_simp; try with_reducible rfl)
          try simp only [Act.put, List.getElem_toArray, List.getElem_cons_zero, List.getElem_cons_succ, List.setIfInBounds_toArray, List.set_cons_zero, List.set_cons_succ]
          refine wpAnyG_load (v := ?v7k) 7 rfl (by kernel_rfl) (by kernel_rfl) (by kernel_rfl) (by kernel_rfl) (fun _ _ _ h => h) (Or.inl ⟨by rfl, ?h7k⟩) hS (fun _ => ?r7k)
          case h7k => (intro Z hZ; have hZc := (hZ.block w.heap.size le2).trans xe2; have cz := Box.cell hZc; have lz := Box.lt hZc; clear hZc; go_simp; try with_reducible rfl)
          try simp only [Act.put, List.getElem_toArray, List.getElem_cons_zero, List.getElem_cons_succ, List.setIfInBounds_toArray, List.set_cons_zero, List.set_cons_succ]
          refine wpAnyG_two 5 8 (by kernel_rfl) ?_ ?_
          · refine wpOp_step rfl (fun K hK => ?_)
            refine step_appw (by rfl) (.const (.slice none 0 0)) (.tmp 31) 31 3 .i64 8 (by rfl) Tryd.underlying31 elI w2.heap.size _ _ [] l (Own.nil _ _ _ _) (hr2.below ((Below.refl _ _).drew)) (by rfl) (by rfl) (by simp only [List.length_nil, List.length_append, List.length_singleton, maxLen]; omega) (by simp only [List.length_nil, List.length_append, List.length_singleton]; omega) (by simp) ?_
            intro v1 w3 hown hgrow hwh
            have hb3 : Below w2.heap.size w2 w3 := app_below ((Below.refl _ _).drew) hgrow (fun g h => by simp [Value.ownBlock] at h)
            refine hK _ _ ⟨fun _ => hb3, ?_⟩
            clear hK K
            try simp only [Act.put, List.getElem_toArray, List.getElem_cons_zero, List.getElem_cons_succ, List.setIfInBounds_toArray, List.set_cons_zero, List.set_cons_succ]
            refine wpAnyG_one 8 rfl (by kernel_rfl) ?_
            refine wpOp_step rfl (fun K hK => ?_)
            go_simp
            refine hK _ _ ⟨fun _ => bl_alloc hb3 _, ?_⟩
            clear hK K
            try simp only [Act.put, List.getElem_toArray, List.getElem_cons_zero, List.getElem_cons_succ, List.setIfInBounds_toArray, List.set_cons_zero, List.set_cons_succ]
            refine wpAnyG_one 9 rfl (by kernel_rfl) ?_
            refine wpOp_step rfl (fun K hK => ?_)
            refine step_appw (by rfl) (.tmp 32) (.tmp 35) 31 3 .i64 8 (by rfl) Tryd.underlying31 elI w2.heap.size _ _ ([] ++ l) [b] (hown.kept (bl_alloc (Below.refl _ _) _)) (Rd.lit1 _ _ _ _ _ rfl) (by rfl) (by rfl) (by simp only [List.length_nil, List.length_append, List.length_singleton, maxLen]; omega) (by simp only [List.length_nil, List.length_append, List.length_singleton]; omega) (by first | (have := hb3.size; exact this) | (simp; have := hb3.size; omega)) ?_
            intro v2 w4 hown2 hgrow2 hwh2
            have hb4 : Below w2.heap.size w2 w4 := app_below (bl_alloc hb3 _) hgrow2 (fun g h => (hown.block g h).1)
            obtain ⟨p2, n2, c2, hv2⟩ := hown2.rd.shape
            subst hv2
            refine hK _ _ ⟨fun _ => hb4, ?_⟩
            clear hK K
            try simp only [Act.put, List.getElem_toArray, List.getElem_cons_zero, List.getElem_cons_succ, List.setIfInBounds_toArray, List.set_cons_zero, List.set_cons_succ]
            refine wpAnyG_pure (v := ?v10k) 10 rfl (by kernel_rfl) (by kernel_rfl) (by kernel_rfl) (by kernel_rfl) (fun _ _ _ h => h) (Or.inl ⟨by rfl, ?h10k⟩) (fun _ => hb4) (fun _ => ?r10k)
            case h10k => (intro w _; go_simp; try with_reducible rfl)
            try simp only [Act.put, List.getElem_toArray, List.getElem_cons_zero, List.getElem_cons_succ, List.setIfInBounds_toArray, List.set_cons_zero, List.set_cons_succ]
            refine wpAnyG_pure (v := ?v11k) 11 rfl (by kernel_rfl) (by kernel_rfl) (by kernel_rfl) (by kernel_rfl) (fun _ _ _ h => h) (Or.inl ⟨by rfl, ?h11k⟩) (fun _ => hb4) (fun _ => ?r11k)
            case h11k => (intro w _; go_simp; try with_reducible rfl)
            try simp only [Act.put, List.getElem_toArray, List.getElem_cons_zero, List.getElem_cons_succ, List.setIfInBounds_toArray, List.set_cons_zero, List.set_cons_succ]
            have xm4 : Box w4 M _ _ := (hb4.block M lm2).trans xm2
            clear cm2 fm2
            have cm4 := xm4.cell
            have fm4 := xm4.free
            have lm4 := xm4.lt
            refine wpAnyG_one 12 rfl (by kernel_rfl) ?_
            refine wpOp_step rfl (fun K hK => ?_)
            go_simp
            refine hK _ _ ⟨(fun h => absurd (h 12 (by simp)) (of_decide_eq_true (by kernel_rfl))), ?_⟩
            clear hK K
            try simp only [Act.put, List.getElem_toArray, List.getElem_cons_zero, List.getElem_cons_succ, List.setIfInBounds_toArray, List.set_cons_zero, List.set_cons_succ]
            refine wpAnyG_done (by kernel_rfl) ?_ _
            go_wp2_with fail
            go_meet
            refine ⟨_, [] ++ l ++ [b], b - 1, rfl, by omega, fun _ => rfl, ?_, Box.as (Box.set xm4 2 _) (by simp), (hown2.rd).bar (apart_of (hown2.off lm2)) (Bar.set (Bar.refl M w4) 2 _), apart_of (hown2.off lm2), by simp only [List.length_nil, List.length_append, List.length_singleton]; omega, fun b' => ?_, Box.set_other ((hb4.block _ le2).trans xe2) hMne 2 _, ((Bar.refl M w).below (bl_trans hl2 hb4)).set 2 _, fun D hD _ => apart_of (hown2.off (Nat.lt_of_lt_of_le hD hl2.size))⟩
            · have := HQ.out
              rw [HC.out, this]
              simpa using HSM.out
            · rw [has_press _ _ _ _ _ hb13, ← hmem b']
              simp [or_comm]
          · refine wpOp_step rfl (fun K hK => ?_)
            go_simp
            refine hK _ _ ⟨fun _ => bl_alloc (Below.refl _ _).drew _, ?_⟩
            clear hK K
            try simp only [Act.put, List.getElem_toArray, List.getElem_cons_zero, List.getElem_cons_succ, List.setIfInBounds_toArray, List.set_cons_zero, List.set_cons_succ]
            have hrb : Rd (w2.drew.alloc (.cells #[.int .i64 b] 3)) .i64 (.slice (some ⟨w2.heap.size, 0, none⟩) 1 1) [b] := Rd.lit1 w2.drew _ _ _ _ rfl
            refine wpAnyG_one 5 rfl (by kernel_rfl) ?_
            refine wpOp_step rfl (fun K hK => ?_)
            refine step_appw (by rfl) (.const (.slice none 0 0)) (.tmp 31) 31 3 .i64 8 (by rfl) Tryd.underlying31 elI w2.heap.size _ _ [] l (Own.nil _ _ _ _) (hr2.below (bl_alloc (Below.refl _ _).drew _)) (by rfl) (by rfl) (by simp only [List.length_nil, List.length_append, List.length_singleton, maxLen]; omega) (by simp only [List.length_nil, List.length_append, List.length_singleton]; omega) (by simp) ?_
            intro v1 w3 hown hgrow hwh
            have hb3 : Below w2.heap.size w2 w3 := app_below (bl_alloc (Below.refl _ _).drew _) hgrow (fun g h => by simp [Value.ownBlock] at h)
            refine hK _ _ ⟨fun _ => hb3, ?_⟩
            clear hK K
            try simp only [Act.put, List.getElem_toArray, List.getElem_cons_zero, List.getElem_cons_succ, List.setIfInBounds_toArray, List.set_cons_zero, List.set_cons_succ]
            have hrb3 := hrb.kept hgrow (.inr (by simp [Value.ownBlock]))
            refine wpAnyG_one 9 rfl (by kernel_rfl) ?_
            refine wpOp_step rfl (fun K hK => ?_)
            refine step_appw (by rfl) (.tmp 32) (.tmp 35) 31 3 .i64 8 (by rfl) Tryd.underlying31 elI w2.heap.size _ _ ([] ++ l) [b] (hown) (hrb3) (by rfl) (by rfl) (by simp only [List.length_nil, List.length_append, List.length_singleton, maxLen]; omega) (by simp only [List.length_nil, List.length_append, List.length_singleton]; omega) (by first | (have := hb3.size; exact this) | (simp; have := hb3.size; omega)) ?_
            intro v2 w4 hown2 hgrow2 hwh2
            have hb4 : Below w2.heap.size w2 w4 := app_below (hb3) hgrow2 (fun g h => (hown.block g h).1)
            obtain ⟨p2, n2, c2, hv2⟩ := hown2.rd.shape
            subst hv2
            refine hK _ _ ⟨fun _ => hb4, ?_⟩
            clear hK K
            try simp only [Act.put, List.getElem_toArray, List.getElem_cons_zero, List.getElem_cons_succ, List.setIfInBounds_toArray, List.set_cons_zero, List.set_cons_succ]
            refine wpAnyG_pure (v := ?v10kb) 10 rfl (by kernel_rfl) (by kernel_rfl) (by kernel_rfl) (by kernel_rfl) (fun _ _ _ h => h) (Or.inl ⟨by rfl, ?h10kb⟩) (fun _ => hb4) (fun _ => ?r10kb)
            case h10kb => (intro w _; go_simp; try with_reducible rfl)
            try simp only [Act.put, List.getElem_toArray, List.getElem_cons_zero, List.getElem_cons_succ, List.setIfInBounds_toArray, List.set_cons_zero, List.set_cons_succ]
            refine wpAnyG_pure (v := ?v11kb) 11 rfl (by kernel_rfl) (by kernel_rfl) (by kernel_rfl) (by kernel_rfl) (fun _ _ _ h => h) (Or.inl ⟨by rfl, ?h11kb⟩) (fun _ => hb4) (fun _ => ?r11kb)
            case h11kb => (intro w _; go_simp; try with_reducible rfl)
            try simp only [Act.put, List.getElem_toArray, List.getElem_cons_zero, List.getElem_cons_succ, List.setIfInBounds_toArray, List.set_cons_zero, List.set_cons_succ]
            have xm4 : Box w4 M _ _ := (hb4.block M lm2).trans xm2
            clear cm2 fm2
            have cm4 := xm4.cell
            have fm4 := xm4.free
            have lm4 := xm4.lt
            refine wpAnyG_one 12 rfl (by kernel_rfl) ?_
            refine wpOp_step rfl (fun K hK => ?_)
            go_simp
            refine hK _ _ ⟨(fun h => absurd (h 12 (by simp)) (of_decide_eq_true (by kernel_rfl))), ?_⟩
            clear hK K
            try simp only [Act.put, List.getElem_toArray, List.getElem_cons_zero, List.getElem_cons_succ, List.setIfInBounds_toArray, List.set_cons_zero, List.set_cons_succ]
            refine wpAnyG_done (by kernel_rfl) ?_ _
            go_wp2_with fail
            go_meet
            refine ⟨_, [] ++ l ++ [b], b - 1, rfl, by omega, fun _ => rfl, ?_, Box.as (Box.set xm4 2 _) (by simp), (hown2.rd).bar (apart_of (hown2.off lm2)) (Bar.set (Bar.refl M w4) 2 _), apart_of (hown2.off lm2), by simp only [List.length_nil, List.length_append, List.length_singleton]; omega, fun b' => ?_, Box.set_other ((hb4.block _ le2).trans xe2) hMne 2 _, ((Bar.refl M w).below (bl_trans hl2 hb4)).set 2 _, fun D hD _ => apart_of (hown2.off (Nat.lt_of_lt_of_le hD hl2.size))⟩
            · have := HQ.out
              rw [HC.out, this]
              simpa using HSM.out
            · rw [has_press _ _ _ _ _ hb13, ← hmem b']
              simp [or_comm]
        · go_wp2_with (go_at_call 21; (with_reducible refine (cH _ hbl0).mono ?_); rintro e w2 ⟨rfl, hb2⟩)
          have hl2 : Below w.heap.size w w2 := bl_trans hbl0 hb2
          have HE : Hid ((codeN ⟨m, e, x, y, z, a0, a1, t⟩ 1 b r c).2 = false) := by have := HQ.out; unfold Hid; rw [HC.out, this]; simp
          go_meet
          refine ⟨_, l, b - 1, rfl, by omega, fun h => absurd h (by rw [HE.out]; decide), by rw [HE.out], (hl2.block M hlM).trans hx, hrd.below hl2, hap, by omega, fun b' => ?_, (hb2.block _ xe.lt).trans xe, (Bar.refl M w).below hl2, fun _ _ h => h⟩
          rw [has_press _ _ _ _ _ hb13, hmem b']
          by_cases hbb : b' = b
          · subst hbb; rw [HQ.out]; simp
          · simp [hbb]
    · as_aux_lemma =>
        have hb13 : 1 ≤ b ∧ b ≤ 3 := ⟨h1, h2⟩
        have HC : Hid (codeN ⟨m, e, x, y, z, a0, a1, t⟩ 2 b r c = (b - 1, !decide (m = 0) && hasB ⟨m, e, x, y, z, a0, a1, t⟩ b)) := rfl
        have t1 : IntKind.i64.wrap (b - 1) = b - 1 := IntWalk.i64_in _ (by omega)
        have cH := fun W (hb : Below w.heap.size w W) => mheld_any M m e x y z a0 a1 t (.slice p1 l.length cap1) l b W ((hb.block M hlM).trans hx) (hrd.below hb)
        have hbl0 : Below w.heap.size w W0 := hW0
        obtain ⟨q, hq⟩ : ∃ q, hasB ⟨m, e, x, y, z, a0, a1, t⟩ b = q := ⟨_, rfl⟩
        rw [hmem b, hq] at cH
        have HQ := Lib.hid hq
        clear hq
        cases q
        all_goals
          go_wp2_with (go_at_call 21; (with_reducible refine (cH _ hbl0).mono ?_); rintro e w2 ⟨rfl, hb2⟩)
          have hl2 : Below w.heap.size w w2 := bl_trans hbl0 hb2
          have xm2 : Box w2 M _ _ := (hl2.block M hlM).trans hx
          have xe2 : Box w2 w.heap.size #[.int .i64 2, .int .i64 b, .int .i64 r, .int .i64 c, .bool sh, .bool al, .bool ct] 24 := (hb2.block _ xe.lt).trans xe
          clear cH
          go_loopw [7, 8] (fun u i wr => ∃ kk : Nat, kk ≤ l.length ∧ i = .int .i64 kk ∧ Own wr w2.heap.size 3 .i64 u (fb b (l.take kk)) ∧ Below w2.heap.size w2 wr) (fun _ i _ => l.length - (intOf i).toNat)
          case atStart => exact ⟨0, by omega, rfl, Own.nil _ _ _ _, Below.refl _ _⟩
          case round =>
            obtain ⟨kk, hkl, rfl, hou, hbel⟩ := hrel
            have xmr : Box wr M _ _ := (hbel.block M xm2.lt).trans xm2
            have xer : Box wr w.heap.size _ _ := (hbel.block _ xe2.lt).trans xe2
            have cmr := xmr.cell
            have fmr := xmr.free
            have lmr := xmr.lt
            have cer := xer.cell
            have ler := xer.lt
            by_cases hlt : kk < l.length
            · obtain ⟨b1, o1, rfl, q1, d1⟩ := Rd.at C1.out L1.out hlt
              have d3 : wr.cell? ⟨b1, o1 + kk, none⟩ = some (.int .i64 l[kk]) := by rw [(bl_trans hl2 hbel).cell (p := ⟨b1, _, none⟩) q1]; exact d1
              have q3 : b1 < wr.heap.size := Nat.lt_of_lt_of_le q1 (bl_trans hl2 hbel).size
              clear d1
              have hfl := fb_len b (l.take kk)
              rw [List.length_take] at hfl
              have hfl2 : (fb b (l.take kk)).length ≤ 1000 := by omega
              clear hfl
              have HN := Lib.hid (fb_next b l kk hlt)
              obtain ⟨v, hv'⟩ : ∃ v, l[kk] = v := ⟨_, rfl⟩
              rw [hv'] at d3 HN
              clear hv'
              have r1 : (0 : Int) ≤ (kk : Int) := by omega
              have r2 : (kk : Int) < (l.length : Int) := by omega
              by_cases he : v = b
              · subst he
                go_wp2_with fail
                first | refine wp_grow2 (by kernel_rfl) (by kernel_rfl) ?_ | refine wp_grow (by kernel_rfl) (by kernel_rfl) ?_
                repeat (go_big_quiet_step (fail))
                refine wpQuiet_nil ?_
                rintro _ ⟨X, rfl⟩
                go_wp2_with fail
                go_roundw
                have hrel2 : Own X.world w2.heap.size 3 .i64 _ (fb v (l.take (kk + 1))) ∧ Below w2.heap.size w2 X.world := ⟨by rw [HN.out]; (first | rw [if_pos rfl] | rw [if_pos trivial]); exact hou.kept X.grow, bl_trans hbel X.grow⟩
                case rel => first | exact ⟨kk + 1, by omega, by go_num, hrel2⟩ | ((repeat apply Exists.intro); exact ⟨⟨kk + 1, by omega, by go_num, hrel2⟩, rfl⟩)
                case measure => simp [intOf]; omega
              · have he' : (v != b) = true := by simpa using he
                go_wp2_with fail
                first | refine wp_grow2 (by kernel_rfl) (by kernel_rfl) ?_ | refine wp_grow (by kernel_rfl) (by kernel_rfl) ?_
                repeat (go_big_quiet_step (fail))
                refine wpQuiet_nil ?_
                rintro _ ⟨X, rfl⟩
                go_wp2_with (at_builtin; refine wpList_appw rfl _ _ 31 3 .i64 8 rfl Tryd.underlying31 elI w2.heap.size _ _ (fb b (l.take kk)) [v] (hou.kept (bl_alloc X.grow _)) (Rd.lit1 _ _ _ _ _ rfl) rfl rfl (by simp only [List.length_nil, List.length_append, List.length_singleton, maxLen]; omega) (by simp only [List.length_nil, List.length_append, List.length_singleton]; omega) (by have := (bl_trans hbel X.grow).size; simp; omega) ?_; intro v' w3 hown hgrow hwh)
                go_roundw
                have hrel2 : Own w3 w2.heap.size 3 .i64 v' (fb b (l.take (kk + 1))) ∧ Below w2.heap.size w2 w3 := ⟨by rw [HN.out, if_neg he]; exact hown, app_below (bl_alloc (bl_trans hbel X.grow) _) hgrow (fun g h => (hou.block g h).1)⟩
                clear hown hgrow hwh
                case rel => first | exact ⟨kk + 1, by omega, by go_num, hrel2⟩ | ((repeat apply Exists.intro); exact ⟨⟨kk + 1, by omega, by go_num, hrel2⟩, rfl⟩)
                case measure => simp [intOf]; omega
            · rw [List.take_of_length_le (by omega)] at hou
              have HOU := Lib.hid hou
              obtain ⟨p2, n2, c2, hv2⟩ := hou.rd.shape
              subst hv2
              have hfl := fb_len b l
              clear hou
              go_wp2_with fail
              go_meet
              have hou := HOU.out
              refine ⟨_, fb b l, b - 1, rfl, by omega, fun _ => rfl, ?_, Box.as (Box.set xmr 2 _) (by simp), (hou.rd).bar (apart_of (hou.off xm2.lt)) (Bar.set (Bar.refl M wr) 2 _), apart_of (hou.off xm2.lt), by omega, fun b' => ?_, Box.set_other xer hMne 2 _, ((Bar.refl M w).below (bl_trans hl2 hbel)).set 2 _, fun D hD _ => apart_of (hou.off (Nat.lt_of_lt_of_le hD hl2.size))⟩
              · have := HQ.out
                rw [HC.out, this]
                simpa using HSM.out
              · rw [has_release _ _ _ _ _ hb13, ← hmem b']
                simp [fb, and_comm]
    · as_aux_lemma =>
        have HMV := Lib.hid (mv_code m e x y z a0 a1 t r c)
        have hany := any_held l ⟨m, e, x, y, z, a0, a1, t⟩ hmem
        have HANY := Lib.hid hany
        clear hany
        go_wp2_with fail
        go_loopw [5, 9] (fun cc i wr => ∃ j : Nat, j ≤ 3 ∧ i = .int .i64 j ∧ cc = .int .i64 (mvN ⟨m, e, x, y, z, a0, a1, t⟩ j) ∧ Below W0.heap.size W0 wr) (fun _ i _ => (intOf i).toNat)
        case atStart => exact ⟨3, by omega, rfl, rfl, Below.refl _ _⟩
        case round =>
          obtain ⟨j, hj, rfl, rfl, hbel⟩ := hrel
          have hlr := bl_trans hW0 hbel
          have xmr : Box wr M _ _ := (hbel.block M lm).trans xm
          have xer : Box wr w.heap.size _ _ := (hbel.block _ le).trans xe
          by_cases hlt : 1 ≤ j
          · have cH := fun W (hb : Below w.heap.size w W) => mheld_any M m e x y z a0 a1 t (.slice p1 l.length cap1) l (j : Int) W ((hb.block M hlM).trans hx) (hrd.below hb)
            obtain ⟨q, hq⟩ : ∃ q, hasB ⟨m, e, x, y, z, a0, a1, t⟩ (j : Int) = q := ⟨_, rfl⟩
            rw [hmem (j : Int), hq] at cH
            have HN : Hid (mvN ⟨m, e, x, y, z, a0, a1, t⟩ (j - 1) = if q then 31 + (j : Int) else mvN ⟨m, e, x, y, z, a0, a1, t⟩ j) := by
              rw [← hq]
              have h3 : j = 1 ∨ j = 2 ∨ j = 3 := by omega
              rcases h3 with rfl | rfl | rfl <;> cases x <;> cases y <;> cases z <;> rfl
            clear hq
            have r1 : (1 : Int) ≤ (j : Int) := by omega
            have r2 : (j : Int) ≤ 3 := by omega
            have t1 : IntKind.i64.wrap (31 + (j : Int)) = 31 + (j : Int) := IntWalk.i64_in _ (by omega)
            have t2 : IntKind.i64.wrap ((j : Int) - 1) = (j : Int) - 1 := IntWalk.i64_in _ (by omega)
            have hmr := mvN_range ⟨m, e, x, y, z, a0, a1, t⟩ j
            generalize mvN ⟨m, e, x, y, z, a0, a1, t⟩ j = mj at *
            cases q
            · go_wp2_with (go_at_call 21; (with_reducible refine (cH _ hlr).mono ?_); rintro e w2 ⟨rfl, hb2⟩)
              go_roundw
              case rel => first | exact ⟨j - 1, by omega, by simp; omega, by rw [HN.out]; rfl, bl_trans hbel hb2⟩ | ((repeat apply Exists.intro); exact ⟨⟨j - 1, by omega, by simp; omega, by rw [HN.out]; rfl, bl_trans hbel hb2⟩, rfl⟩)
              case measure => simp [intOf]; omega
            · go_wp2_with (go_at_call 21; (with_reducible refine (cH _ hlr).mono ?_); rintro e w2 ⟨rfl, hb2⟩)
              go_roundw
              case rel => first | exact ⟨j - 1, by omega, by simp; omega, by rw [HN.out]; rfl, bl_trans hbel hb2⟩ | ((repeat apply Exists.intro); exact ⟨⟨j - 1, by omega, by simp; omega, by rw [HN.out]; rfl, bl_trans hbel hb2⟩, rfl⟩)
              case measure => simp [intOf]; omega
          · obtain rfl : j = 0 := by omega
            have cmr := xmr.cell
            have fmr := xmr.free
            have lmr := xmr.lt
            have cer := xer.cell
            have ler := xer.lt
            clear cm fm lm ce le hcM xm xe
            have hr0 := mvN_range ⟨m, e, x, y, z, a0, a1, t⟩ 0
            have hMV : ∀ (S : Bool), S = (moveN ⟨m, e, x, y, z, a0, a1, t⟩ r c).2 → MidM M w.heap.size w ⟨m, e, x, y, z, a0, a1, t⟩ n (.slice p1 l.length cap1) 3 0 r c sh al ct (.int .i64 (mvN ⟨m, e, x, y, z, a0, a1, t⟩ 0)) (.bool S) wr := fun S hS => ⟨_, l, mvN ⟨m, e, x, y, z, a0, a1, t⟩ 0, rfl, by omega, fun h => HMV.out h, congrArg Value.bool hS, xmr, hrd.below hlr, hap, by omega, fun b' => by rw [has_other _ _ _ _ _ _ (by decide) (by decide)]; exact hmem b', xer, (Bar.refl M w).below hlr, fun _ _ h => h⟩
            have HM := Lib.hid hMV
            clear hMV xmr xer
            generalize mvN ⟨m, e, x, y, z, a0, a1, t⟩ 0 = mv0 at *
            have hms : m = 3 ∨ (m = 2 ∧ 0 < l.length) ∨ (m = 2 ∧ l.length = 0) ∨ (m ≠ 2 ∧ m ≠ 3) := by omega
            rcases hms with rfl | ⟨rfl, hl0⟩ | ⟨rfl, hl0⟩ | ⟨hn2, hn3⟩
            · have hpl : t = false ∨ (t = true ∧ a0 ≠ r) ∨ (t = true ∧ a0 = r ∧ a1 ≠ c) ∨ (t = true ∧ a0 = r ∧ a1 = c) := by cases t <;> simp <;> omega
              rcases hpl with rfl | ⟨rfl, hp⟩ | ⟨rfl, rfl, hp⟩ | ⟨rfl, rfl, rfl⟩
              · have HV := Lib.hid (HM.out true (by rw [mv_sent _ _ _ _ _ _ _ _ _ _ l.length hm03 HANY.out]; simp))
                clear HM HANY HMV
                go_wp2_with fail
                first | refine wp_grow2 (by kernel_rfl) (by kernel_rfl) ?_ | refine wp_grow (by kernel_rfl) (by kernel_rfl) ?_
                repeat (go_big_quiet_step (fail))
                refine wpQuiet_nil ?_
                rintro _ ⟨X, rfl⟩
                go_wp2_with fail
                go_meet
                exact HV.out.grow X.grow
              · have hp2 : (a0 != r) = true := by simpa using hp
                have HV := Lib.hid (HM.out true (by rw [mv_sent _ _ _ _ _ _ _ _ _ _ l.length hm03 HANY.out]; simp [hp]))
                clear HM HANY HMV
                go_wp2_with fail
                first | refine wp_grow2 (by kernel_rfl) (by kernel_rfl) ?_ | refine wp_grow (by kernel_rfl) (by kernel_rfl) ?_
                repeat (go_big_quiet_step (fail))
                refine wpQuiet_nil ?_
                rintro _ ⟨X, rfl⟩
                go_wp2_with fail
                go_meet
                exact HV.out.grow X.grow
              · have hp2 : (a1 != c) = true := by simpa using hp
                have HV := Lib.hid (HM.out true (by rw [mv_sent _ _ _ _ _ _ _ _ _ _ l.length hm03 HANY.out]; simp [hp]))
                clear HM HANY HMV
                go_wp2_with fail
                first | refine wp_grow2 (by kernel_rfl) (by kernel_rfl) ?_ | refine wp_grow (by kernel_rfl) (by kernel_rfl) ?_
                repeat (go_big_quiet_step (fail))
                refine wpQuiet_nil ?_
                rintro _ ⟨X, rfl⟩
                go_wp2_with fail
                go_meet
                exact HV.out.grow X.grow
              · have HV := Lib.hid (HM.out false (by rw [mv_sent _ _ _ _ _ _ _ _ _ _ l.length hm03 HANY.out]; simp))
                clear HM HANY HMV
                go_wp2_with fail
                first | refine wp_grow2 (by kernel_rfl) (by kernel_rfl) ?_ | refine wp_grow (by kernel_rfl) (by kernel_rfl) ?_
                repeat (go_big_quiet_step (fail))
                refine wpQuiet_nil ?_
                rintro _ ⟨X, rfl⟩
                go_wp2_with fail
                go_meet
                exact HV.out.grow X.grow
            · have hpl : t = false ∨ (t = true ∧ a0 ≠ r) ∨ (t = true ∧ a0 = r ∧ a1 ≠ c) ∨ (t = true ∧ a0 = r ∧ a1 = c) := by cases t <;> simp <;> omega
              rcases hpl with rfl | ⟨rfl, hp⟩ | ⟨rfl, rfl, hp⟩ | ⟨rfl, rfl, rfl⟩
              · have hl1 : (0 : Int) < (l.length : Int) := by omega
                have HV := Lib.hid (HM.out true (by rw [mv_sent _ _ _ _ _ _ _ _ _ _ l.length hm03 HANY.out]; simp [hl0]))
                clear HM HANY HMV
                go_wp2_with fail
                first | refine wp_grow2 (by kernel_rfl) (by kernel_rfl) ?_ | refine wp_grow (by kernel_rfl) (by kernel_rfl) ?_
                repeat (go_big_quiet_step (fail))
                refine wpQuiet_nil ?_
                rintro _ ⟨X, rfl⟩
                go_wp2_with fail
                go_meet
                exact HV.out.grow X.grow
              · have hl1 : (0 : Int) < (l.length : Int) := by omega
                have hp2 : (a0 != r) = true := by simpa using hp
                have HV := Lib.hid (HM.out true (by rw [mv_sent _ _ _ _ _ _ _ _ _ _ l.length hm03 HANY.out]; simp [hl0, hp]))
                clear HM HANY HMV
                go_wp2_with fail
                first | refine wp_grow2 (by kernel_rfl) (by kernel_rfl) ?_ | refine wp_grow (by kernel_rfl) (by kernel_rfl) ?_
                repeat (go_big_quiet_step (fail))
                refine wpQuiet_nil ?_
                rintro _ ⟨X, rfl⟩
                go_wp2_with fail
                go_meet
                exact HV.out.grow X.grow
              · have hl1 : (0 : Int) < (l.length : Int) := by omega
                have hp2 : (a1 != c) = true := by simpa using hp
                have HV := Lib.hid (HM.out true (by rw [mv_sent _ _ _ _ _ _ _ _ _ _ l.length hm03 HANY.out]; simp [hl0, hp]))
                clear HM HANY HMV
                go_wp2_with fail
                first | refine wp_grow2 (by kernel_rfl) (by kernel_rfl) ?_ | refine wp_grow (by kernel_rfl) (by kernel_rfl) ?_
                repeat (go_big_quiet_step (fail))
                refine wpQuiet_nil ?_
                rintro _ ⟨X, rfl⟩
                go_wp2_with fail
                go_meet
                exact HV.out.grow X.grow
              · have hl1 : (0 : Int) < (l.length : Int) := by omega
                have HV := Lib.hid (HM.out false (by rw [mv_sent _ _ _ _ _ _ _ _ _ _ l.length hm03 HANY.out]; simp [hl0]))
                clear HM HANY HMV
                go_wp2_with fail
                first | refine wp_grow2 (by kernel_rfl) (by kernel_rfl) ?_ | refine wp_grow (by kernel_rfl) (by kernel_rfl) ?_
                repeat (go_big_quiet_step (fail))
                refine wpQuiet_nil ?_
                rintro _ ⟨X, rfl⟩
                go_wp2_with fail
                go_meet
                exact HV.out.grow X.grow
            · have hl1 : ¬ (0 : Int) < (l.length : Int) := by omega
              have HV := Lib.hid (HM.out false (by rw [mv_sent _ _ _ _ _ _ _ _ _ _ l.length hm03 HANY.out]; simp [hl0]))
              clear HM HANY HMV
              go_wp2_with fail
              first | refine wp_grow2 (by kernel_rfl) (by kernel_rfl) ?_ | refine wp_grow (by kernel_rfl) (by kernel_rfl) ?_
              repeat (go_big_quiet_step (fail))
              refine wpQuiet_nil ?_
              rintro _ ⟨X, rfl⟩
              go_wp2_with fail
              go_meet
              exact HV.out.grow X.grow
            · have hn2b : (m == 2) = false := by simpa using hn2
              have hn3b : (m == 3) = false := by simpa using hn3
              have HV := Lib.hid (HM.out false (by rw [mv_sent _ _ _ _ _ _ _ _ _ _ l.length hm03 HANY.out]; simp [hn2, hn3]))
              clear HM HANY HMV
              go_wp2_with fail
              first | refine wp_grow2 (by kernel_rfl) (by kernel_rfl) ?_ | refine wp_grow (by kernel_rfl) (by kernel_rfl) ?_
              repeat (go_big_quiet_step (fail))
              refine wpQuiet_nil ?_
              rintro _ ⟨X, rfl⟩
              go_wp2_with fail
              go_meet
              exact HV.out.grow X.grow
    · as_aux_lemma =>
        go_wp2_with fail
        go_meet
        refine ⟨_, l, 64, rfl, by omega, fun _ => rfl, ?_, (hW0.block M hlM).trans hx, hrd.below hW0, hap, by omega, fun b' => ?_, xe, (Bar.refl M w).below hW0, fun _ _ h => h⟩
        · show _ = Value.bool (!decide (m = 0))
          exact congrArg Value.bool HSM.out
        · rw [has_other _ _ _ _ _ _ (by decide) (by decide)]; exact hmem b'
    · as_aux_lemma =>
        go_wp2_with fail
        go_meet
        refine ⟨_, l, 65, rfl, by omega, fun _ => rfl, ?_, (hW0.block M hlM).trans hx, hrd.below hW0, hap, by omega, fun b' => ?_, xe, (Bar.refl M w).below hW0, fun _ _ h => h⟩
        · show _ = Value.bool (!decide (m = 0))
          exact congrArg Value.bool HSM.out
        · rw [has_other _ _ _ _ _ _ (by decide) (by decide)]; exact hmem b'
  case rest =>
    as_aux_lemma =>
      obtain ⟨sl2, l2, cd, rfl, hcd, hcode, rfl, xm2, hr2, hap2, hl2, hmem2, xe2, hbar, hapD⟩ := hcut
      obtain ⟨sent, hsent⟩ : ∃ s, (codeN ⟨m, e, x, y, z, a0, a1, t⟩ k b r c).2 = s := ⟨_, rfl⟩
      rw [hsent] at hcode ⊢
      have HC := Lib.hid hcode
      have HS := Lib.hid hsent
      have HM2 := Lib.hid hmem2
      clear hcode hsent cm fm lm ce le xm xe hcM HSM hmem2
      simp only at xm2
      go_wp2_with fail
      have hTr : ∀ u1 u2 u3 : World, Bar M u1 u2 → Bar M u2 u3 → Bar M u1 u3 := fun _ _ _ h1 h2 => Bar.trans h1 h2
      have hGr : ∀ u1 u2 : World, Gr u1 u2 → Bar M u1 u2 := fun _ _ h1 => Below.bar _ h1
      refine wp_region_V (fun u1 u2 => Bar M u1 u2) (by kernel_rfl) ?_
      obtain ⟨W6, hW6, xm6, xe6, hb6⟩ : ∃ W6, wc.drew = W6 ∧ Box W6 M #[.int .i64 m, .bool e, sl2, .bool t, .int .i64 a0, .int .i64 a1] 33 ∧ Box W6 w.heap.size #[.int .i64 k, .int .i64 b, .int .i64 r, .int .i64 c, .bool sh, .bool al, .bool ct] 24 ∧ Bar M wc W6 := ⟨_, rfl, xm2, xe2, (Bar.refl M wc).drew⟩
      rw [hW6]
      clear hW6
      refine wpAnyV_takeS hTr hGr (A := ?A0) 0 rfl (by kernel_rfl) (by kernel_rfl) (by kernel_rfl) (fun _ _ _ _ h => h) ?q0 ?r0
      case q0 =>
        intro W hW
        try simp only [List.getElem_toArray, List.getElem_cons_zero, List.getElem_cons_succ]
        go_big_quiet_step (fail)
        refine wpQuiet_nil ?_
        rfl
      refine wpAnyV_takeS hTr hGr (A := ?A1) 1 rfl (by kernel_rfl) (by kernel_rfl) (by kernel_rfl) (fun _ _ _ _ h => h) ?q1 ?r1
      case q1 =>
        intro W hW
        try simp only [List.getElem_toArray, List.getElem_cons_zero, List.getElem_cons_succ]
        go_big_quiet_step (fail)
        refine wpQuiet_nil ?_
        rfl
      refine wpAnyV_takeS hTr hGr (A := ?A2) 2 rfl (by kernel_rfl) (by kernel_rfl) (by kernel_rfl) (fun _ _ _ _ h => h) ?q2 ?r2
      case q2 =>
        intro W hW
        try simp only [List.getElem_toArray, List.getElem_cons_zero, List.getElem_cons_succ]
        go_big_quiet_step (fail)
        refine wpQuiet_nil ?_
        rfl
      refine wpAnyV_takeS hTr hGr (A := ?A3) 3 rfl (by kernel_rfl) (by kernel_rfl) (by kernel_rfl) (fun _ _ _ _ h => h) ?q3 ?r3
      case q3 =>
        intro W hW
        try simp only [List.getElem_toArray, List.getElem_cons_zero, List.getElem_cons_succ]
        go_big_quiet_step (fail)
        refine wpQuiet_nil ?_
        rfl
      refine wpAnyV_takeS hTr hGr (A := ?A4) 4 rfl (by kernel_rfl) (by kernel_rfl) (by kernel_rfl) (fun _ _ _ _ h => h) ?q4 ?r4
      case q4 =>
        intro W hW
        have hxW : Box W w.heap.size _ _ := (hW.block _ hMne xe6.lt).trans xe6; have cxW := hxW.cell; have lxW := hxW.lt
        try simp only [List.getElem_toArray, List.getElem_cons_zero, List.getElem_cons_succ]
        go_big_quiet_step (fail)
        refine wpQuiet_nil ?_
        rfl
      refine wpAnyV_takeS hTr hGr (A := ?A5) 5 rfl (by kernel_rfl) (by kernel_rfl) (by kernel_rfl) (fun _ _ _ _ h => h) ?q5 ?r5
      case q5 =>
        intro W hW
        try simp only [List.getElem_toArray, List.getElem_cons_zero, List.getElem_cons_succ]
        go_big_quiet_step (fail)
        refine wpQuiet_nil ?_
        rfl
      refine wpAnyV_takeS hTr hGr (A := ?A6) 6 rfl (by kernel_rfl) (by kernel_rfl) (by kernel_rfl) (fun _ _ _ _ h => h) ?q6 ?r6
      case q6 =>
        intro W hW
        have hxW : Box W w.heap.size _ _ := (hW.block _ hMne xe6.lt).trans xe6; have cxW := hxW.cell; have lxW := hxW.lt
        try simp only [List.getElem_toArray, List.getElem_cons_zero, List.getElem_cons_succ]
        go_big_quiet_step (fail)
        refine wpQuiet_nil ?_
        rfl
      refine wpAnyV_takeS hTr hGr (A := ?A7) 7 rfl (by kernel_rfl) (by kernel_rfl) (by kernel_rfl) (fun _ _ _ _ h => h) ?q7 ?r7
      case q7 =>
        intro W hW
        try simp only [List.getElem_toArray, List.getElem_cons_zero, List.getElem_cons_succ]
        go_big_quiet_step (fail)
        refine wpQuiet_nil ?_
        rfl
      refine wpAnyV_takeS hTr hGr (A := ?A8) 8 rfl (by kernel_rfl) (by kernel_rfl) (by kernel_rfl) (fun _ _ _ _ h => h) ?q8 ?r8
      case q8 =>
        intro W hW
        try simp only [List.getElem_toArray, List.getElem_cons_zero, List.getElem_cons_succ]
        go_big_quiet_step (fail)
        refine wpQuiet_nil ?_
        rfl
      refine wpAnyV_one 9 (by kernel_rfl) ?_
      intro W hW
      have xmW : Box W M _ _ := (hW.block M xm6.lt).trans xm6
      have cW := xmW.cell
      have fW := xmW.free
      have lW := xmW.lt
      refine wpOp_step rfl (fun K hK => ?_)
      go_simp
      refine hK _ _ ⟨(Bar.refl M W).set _ _, ?_⟩
      clear hK K
      try simp only [Act.put, List.getElem_toArray, List.getElem_cons_zero, List.getElem_cons_succ, List.setIfInBounds_toArray, List.set_cons_zero, List.set_cons_succ]
      obtain ⟨W7, hW7, xm7, hb7⟩ : ∃ W7, W.setCell ⟨M, 3, none⟩ (.bool true) = W7 ∧ Box W7 M _ 33 ∧ Bar M wc W7 := ⟨_, rfl, xmW.set 3 _, (hb6.below hW).set 3 _⟩
      rw [hW7]
      clear hW7 cW fW lW xmW hW xm6 hb6 W
      refine wpAnyV_takeS hTr hGr (A := ?A10) 10 rfl (by kernel_rfl) (by kernel_rfl) (by kernel_rfl) (fun _ _ _ _ h => h) ?q10 ?r10
      case q10 =>
        intro W hW
        try simp only [List.getElem_toArray, List.getElem_cons_zero, List.getElem_cons_succ]
        go_big_quiet_step (fail)
        refine wpQuiet_nil ?_
        rfl
      refine wpAnyV_takeS hTr hGr (A := ?A11) 11 rfl (by kernel_rfl) (by kernel_rfl) (by kernel_rfl) (fun _ _ _ _ h => h) ?q11 ?r11
      case q11 =>
        intro W hW
        try simp only [List.getElem_toArray, List.getElem_cons_zero, List.getElem_cons_succ]
        go_big_quiet_step (fail)
        refine wpQuiet_nil ?_
        rfl
      refine wpAnyV_one 12 (by kernel_rfl) ?_
      intro W hW
      have xmW : Box W M _ _ := (hW.block M xm7.lt).trans xm7
      have cW := xmW.cell
      have fW := xmW.free
      have lW := xmW.lt
      refine wpOp_step rfl (fun K hK => ?_)
      go_simp
      refine hK _ _ ⟨(Bar.refl M W).set _ _, ?_⟩
      clear hK K
      try simp only [Act.put, List.getElem_toArray, List.getElem_cons_zero, List.getElem_cons_succ, List.setIfInBounds_toArray, List.set_cons_zero, List.set_cons_succ]
      obtain ⟨W8, hW8, xm8, hb8⟩ : ∃ W8, W.setCell ⟨M, 4, none⟩ (.int .i64 r) = W8 ∧ Box W8 M _ 33 ∧ Bar M wc W8 := ⟨_, rfl, xmW.set 4 _, (hb7.below hW).set 4 _⟩
      rw [hW8]
      clear hW8 cW fW lW xmW hW xm7 hb7 W
      refine wpAnyV_takeS hTr hGr (A := ?A13) 13 rfl (by kernel_rfl) (by kernel_rfl) (by kernel_rfl) (fun _ _ _ _ h => h) ?q13 ?r13
      case q13 =>
        intro W hW
        try simp only [List.getElem_toArray, List.getElem_cons_zero, List.getElem_cons_succ]
        go_big_quiet_step (fail)
        refine wpQuiet_nil ?_
        rfl
      refine wpAnyV_takeS hTr hGr (A := ?A14) 14 rfl (by kernel_rfl) (by kernel_rfl) (by kernel_rfl) (fun _ _ _ _ h => h) ?q14 ?r14
      case q14 =>
        intro W hW
        try simp only [List.getElem_toArray, List.getElem_cons_zero, List.getElem_cons_succ]
        go_big_quiet_step (fail)
        refine wpQuiet_nil ?_
        rfl
      refine wpAnyV_one 15 (by kernel_rfl) ?_
      intro W hW
      have xmW : Box W M _ _ := (hW.block M xm8.lt).trans xm8
      have cW := xmW.cell
      have fW := xmW.free
      have lW := xmW.lt
      refine wpOp_step rfl (fun K hK => ?_)
      go_simp
      refine hK _ _ ⟨(Bar.refl M W).set _ _, ?_⟩
      clear hK K
      try simp only [Act.put, List.getElem_toArray, List.getElem_cons_zero, List.getElem_cons_succ, List.setIfInBounds_toArray, List.set_cons_zero, List.set_cons_succ]
      obtain ⟨W9, hW9, xm9, hb9⟩ : ∃ W9, W.setCell ⟨M, 5, none⟩ (.int .i64 c) = W9 ∧ Box W9 M _ 33 ∧ Bar M wc W9 := ⟨_, rfl, xmW.set 5 _, (hb8.below hW).set 5 _⟩
      rw [hW9]
      clear hW9 cW fW lW xmW hW xm8 hb8 W
      refine wpAnyV_done (by kernel_rfl) ?_ _
      intro W1 hW
      have xm1 : Box W1 M #[.int .i64 m, .bool e, sl2, .bool true, .int .i64 r, .int .i64 c] 33 := Box.as ((hW.block M xm9.lt).trans xm9) (by simp)
      have hbc := hb9.below hW
      have xe1 : Box W1 w.heap.size #[.int .i64 k, .int .i64 b, .int .i64 r, .int .i64 c, .bool sh, .bool al, .bool ct] 24 := (hbc.block _ hMne xe2.lt).trans xe2
      have hr1 : Rd W1 .i64 sl2 l2 := hr2.bar hap2 hbc
      have hb1 : Bar M w W1 := hbar.trans hbc
      clear hbc hW xm9 hb9 xe6 hTr hGr

      as_aux_lemma =>
        go_upto_region 31 with fail
        have HMo : Hid (MoB W1 M (afterP ⟨m, e, x, y, z, a0, a1, t⟩ k b r c) (n + 1)) := ⟨sl2, l2, xm1, hr1, hap2, hl2, HM2.out, hm0, hm3⟩
        have HMA : Hid (∀ D, D < w.heap.size → MoA w M D → MoA W1 M D) := fun D hD h v hv => by
          have e1 := h (.slice p1 l.length cap1) (hx.cell 2)
          have e2 := hapD D hD e1
          have e3 : W1.cell? ⟨M, 2, none⟩ = some sl2 := xm1.cell 2
          rw [e3] at hv
          cases hv
          exact e2
        clear hapD
        clear hr1 hr2 xm2 xe2 HM2 hbar
        have cm1 := xm1.cell
        have lm1 := xm1.lt
        have ce1 := xe1.cell
        have le1 := xe1.lt
        have q1 : 0 ≤ partN sh al ct 1 ∧ partN sh al ct 1 ≤ 4 := by cases sh <;> simp [partN]
        have q2 : 0 ≤ partN sh al ct 2 ∧ partN sh al ct 2 ≤ 12 := by cases sh <;> cases al <;> simp [partN]
        have HP1 : Hid (partN sh al ct 1 = if sh then 4 else 0) := rfl
        have HP2 : Hid (partN sh al ct 2 = partN sh al ct 1 + if al then 8 else 0) := rfl
        have HP3 : Hid (mdN sh al ct = partN sh al ct 2 + if ct then 16 else 0) := rfl
        generalize partN sh al ct 1 = pa1 at *
        generalize partN sh al ct 2 = pa2 at *
        obtain ⟨md, hmd2⟩ : ∃ md, mdN sh al ct = md := ⟨_, rfl⟩
        rw [hmd2] at hmd HP3
        have hmd4 : md % 4 = 0 := by rw [← hmd2]; cases sh <;> cases al <;> cases ct <;> decide
        have HMD := Lib.hid hmd2
        clear hmd2
        go_upto_if 154 with fail
        go_cut [5] (fun cv wx => cv = .int .i64 (cd + pa1) ∧ W1 = wx)
        case first =>
          have HF := HP1.out
          clear HP1 HP2 HP3 HMo HS HC HMD HMA
          cases sh
          · have HG : Hid (cd = cd + pa1) := by simp only [Bool.false_eq_true, ↓reduceIte] at HF; unfold Hid; omega
            clear HF
            go_wp2_with fail
            go_meet
            exact ⟨congrArg (Value.int .i64) HG.out, rfl⟩
          · have HG : Hid (cd + 4 = cd + pa1) := by simp only [↓reduceIte] at HF; unfold Hid; omega
            clear HF
            go_wp2_with fail
            go_meet
            exact ⟨congrArg (Value.int .i64) HG.out, rfl⟩
        case rest =>
          obtain ⟨rfl, rfl⟩ := hcut
          as_aux_lemma =>
            go_upto_if 158 with fail
            go_cut [5] (fun cv wx => cv = .int .i64 (cd + pa2) ∧ W1 = wx)
            case first =>
              have HF := HP2.out
              clear HP1 HP2 HP3 HMo HS HC HMD HMA
              cases al
              · have HG : Hid (cd + pa1 = cd + pa2) := by simp only [Bool.false_eq_true, ↓reduceIte] at HF; unfold Hid; omega
                clear HF
                go_wp2_with fail
                go_meet
                exact ⟨congrArg (Value.int .i64) HG.out, rfl⟩
              · have HG : Hid (cd + pa1 + 8 = cd + pa2) := by simp only [↓reduceIte] at HF; unfold Hid; omega
                clear HF
                go_wp2_with fail
                go_meet
                exact ⟨congrArg (Value.int .i64) HG.out, rfl⟩
            case rest =>
              obtain ⟨rfl, rfl⟩ := hcut
              as_aux_lemma =>
                go_upto_if 162 with fail
                go_cut [5] (fun cv wx => cv = .int .i64 (cd + md) ∧ W1 = wx)
                case first =>
                  have HF := HP3.out
                  clear HP1 HP2 HP3 HMo HS HC HMD HMA
                  cases ct
                  · have HG : Hid (cd + pa2 = cd + md) := by simp only [Bool.false_eq_true, ↓reduceIte] at HF; unfold Hid; omega
                    clear HF
                    go_wp2_with fail
                    go_meet
                    exact ⟨congrArg (Value.int .i64) HG.out, rfl⟩
                  · have HG : Hid (cd + pa2 + 16 = cd + md) := by simp only [↓reduceIte] at HF; unfold Hid; omega
                    clear HF
                    go_wp2_with fail
                    go_meet
                    exact ⟨congrArg (Value.int .i64) HG.out, rfl⟩
                case rest =>
                  obtain ⟨rfl, rfl⟩ := hcut
                  as_aux_lemma =>
                    clear HP1 HP2 HP3 q1 q2
                    have HD : Hid (doS ⟨m, e, x, y, z, a0, a1, t⟩ k b r c sh al ct = if sent = true then outS e k ((codeN ⟨m, e, x, y, z, a0, a1, t⟩ k b r c).1 + md) r c else ⟨#[]⟩) := by
                      unfold Hid doS
                      rw [HS.out, HMD.out]
                    cases sent
                    · clear HC
                      go_wp2_with fail
                      go_ret
                      exact ⟨by rw [HD.out]; rfl, HMo.out, hb1, HMA.out⟩
                    · rw [← HC.out rfl] at HD
                      have HCD := Lib.hid (HC.out rfl)
                      clear HC HS HMD
                      have t1 : IntKind.i64.wrap (r + 1) = r + 1 := IntWalk.i64_in _ (by omega)
                      have t2 : IntKind.i64.wrap (c + 1) = c + 1 := IntWalk.i64_in _ (by omega)
                      cases e
                      · have hx2 := HD.out
                        rw [if_pos rfl] at hx2
                        unfold outS at hx2
                        rw [if_neg (by decide)] at hx2
                        clear HD t1 t2
                        by_cases hbig : 223 ≤ r ∨ 223 ≤ c
                        · rw [if_pos hbig] at hx2
                          have HX := Lib.hid hx2
                          clear hx2
                          by_cases hr : 223 ≤ r
                          · clear hbig
                            go_wp2_with fail
                            go_ret
                            exact ⟨by rw [HX.out]; rfl, HMo.out, hb1, HMA.out⟩
                          · have hc : 223 ≤ c := by omega
                            clear hbig
                            go_wp2_with fail
                            go_ret
                            exact ⟨by rw [HX.out]; rfl, HMo.out, hb1, HMA.out⟩
                        · rw [if_neg hbig] at hx2
                          have hr : ¬ 223 ≤ r := fun h => hbig (.inl h)
                          have hc : ¬ 223 ≤ c := fun h => hbig (.inr h)
                          clear hbig
                          have v1 : IntKind.u8.wrap (33 + c) = 33 + c := by simp [IntKind.wrap, IntKind.signed, IntKind.bits]; omega
                          have v2 : IntKind.u8.wrap (33 + r) = 33 + r := by simp [IntKind.wrap, IntKind.signed, IntKind.bits]; omega
                          have kc := fun (A B C : Int) (W : World) => run_str (P := Tryd.prog) 45 9 5 Tryd.underlying45 Tryd.underlying5 Tryd.underlying9 (Rd.lit3 W 5 .u8 A B C W.heap.size rfl)
                          have ss3 := fun (A B C : Int) => strSize3 A B C
                          by_cases h2 : k = 2
                          · subst h2
                            have hcb : cd = b - 1 := HCD.out
                            have hb3 : 1 ≤ b ∧ b ≤ 3 := by omega
                            rw [if_pos rfl, show cd + md - (cd + md) % 4 + 3 = md + 3 by omega] at hx2
                            have HX := Lib.hid hx2
                            clear hx2 HCD
                            have v3 : IntKind.u8.wrap (32 + (cd + md - (b - 1) + 3)) = md + 35 := by rw [show 32 + (cd + md - (b - 1) + 3) = md + 35 by omega]; simp [IntKind.wrap, IntKind.signed, IntKind.bits]; omega
                            have hcb0 : 0 ≤ cd + md - (b - 1) ∧ cd + md - (b - 1) ≤ 40 := by omega
                            have HCB := Lib.hid hcb
                            clear hcb
                            go_wp2_with fail
                            go_ret
                            exact ⟨by rw [HX.out, strOf6, show md + 3 + 32 = md + 35 by omega, show c + 33 = 33 + c by omega, show r + 33 = 33 + r by omega]; rfl, HMo.out.below (bl_alloc (Below.refl _ _) _), hb1.alloc _, fun D hD h => (HMA.out D hD h).below xm1.lt (bl_alloc (Below.refl _ _) _)⟩
                          · have h2' : (k == 2) = false := by simpa using h2
                            rw [if_neg h2] at hx2
                            have HX := Lib.hid hx2
                            clear hx2 HCD
                            have v3 : IntKind.u8.wrap (32 + (cd + md)) = 32 + (cd + md) := by simp [IntKind.wrap, IntKind.signed, IntKind.bits]; omega
                            go_wp2_with fail
                            go_ret
                            exact ⟨by rw [HX.out, strOf6, show cd + md + 32 = 32 + (cd + md) by omega, show c + 33 = 33 + c by omega, show r + 33 = 33 + r by omega]; rfl, HMo.out.below (bl_alloc (Below.refl _ _) _), hb1.alloc _, fun D hD h => (HMA.out D hD h).below xm1.lt (bl_alloc (Below.refl _ _) _)⟩
                      · have hx2 := HD.out
                        rw [if_pos rfl] at hx2
                        have k1 := numS_size (cd + md) (by omega) (by omega)
                        have k2 := numS_size (r + 1) (by omega) (by omega)
                        have k3 := numS_size (c + 1) (by omega) (by omega)
                        have c1 := fun W => dec_s (cd + md) W (by omega) (by omega)
                        have c2 := fun W => dec_s (r + 1) W (by omega) (by omega)
                        have c3 := fun W => dec_s (c + 1) W (by omega) (by omega)
                        unfold outS longS at hx2
                        rw [if_pos rfl] at hx2
                        have HX := Lib.hid hx2
                        clear hx2 HD
                        generalize numS (cd + md) = s1 at *
                        generalize numS (r + 1) = s2 at *
                        generalize numS (c + 1) = s3 at *
                        by_cases h2 : k = 2
                        all_goals
                          first | (subst h2) | (have h2' : (k == 2) = false := by simpa using h2)
                          go_wp2_with fail
                          first | refine wp_grow2 (by kernel_rfl) (by kernel_rfl) ?_ | refine wp_grow (by kernel_rfl) (by kernel_rfl) ?_
                          repeat (go_big_quiet_step (first | (go_at_call 22; with_reducible exact GW.call (c1 _)) | (go_at_call 22; with_reducible exact GW.call (c2 _)) | (go_at_call 22; with_reducible exact GW.call (c3 _))))
                          refine wpQuiet_nil ?_
                          rintro _ ⟨X, rfl⟩
                          go_wp2_with fail
                          go_ret
                          exact ⟨by rw [HX.out]; (first | rw [if_pos rfl] | rw [if_pos trivial] | rw [if_neg h2]); rfl, HMo.out.below X.grow, hb1.below X.grow, fun D hD h => (HMA.out D hD h).below xm1.lt X.grow⟩

end Go.Proofs.YtfhigmogcpocpaaDoor
