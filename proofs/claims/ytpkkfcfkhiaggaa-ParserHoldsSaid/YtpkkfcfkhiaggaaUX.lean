/- utf: the reference over all bytes. -/
import Derived.Test.YtpkkfcfkhiaggaaUV
import Derived.Test.YtpkkfcfkhiaggaaLate
import Derived.Outline
set_option linter.unusedSimpArgs false
set_option linter.unusedVariables false
set_option linter.unnecessarySimpa false
namespace Go.Proofs.Ytpkkfcfkhiaggaa
open Go.RowKit
attribute [local go_sem ↓] Go.wp_at_zero Go.wp_at_succ

/-- What the reference's Feed says. -/
def RefFed (w : World) (s o : List Int) (e : Ending) (w' : World) : Prop :=
  ∃ sv v, e = .returned (.tuple #[.agg #[sv], v]) ∧ Rd w' .u8 sv s ∧ Own w' w.heap.size 21 .i32 v o ∧ (∀ g, v.ownBlock = some g → sv.ownBlock ≠ some g) ∧ Below w.heap.size w w'

set_option maxRecDepth 100000 in
set_option maxHeartbeats 1000000 in
theorem rfeed_any (sv vb : Value) (bs l : List Int) (w : World) (hs : Rd w .u8 sv bs) (hwf : Wf bs) (hb : Rd w .u8 vb l) (hl : ∀ x ∈ l, Byte x) (hlen : l.length ≤ 1000000000) :
    Calls Try.prog 30 #[.agg #[sv], vb] w (RefFed w (feedS bs l) (feedO bs l)) := by
  obtain ⟨p1, cap1, rfl, l1, m1, c1⟩ := hb
  have hbl := hwf.len
  unfold maxLen at m1
  obtain ⟨ps, ns, cs, hsv⟩ := hs.shape
  subst hsv
  have hs2 := hs.below (((Below.refl _ _).alloc (Nat.le_refl _) (.cells #[.slice ps ns cs] 33)).alloc (by simp) (.cells #[.slice none 0 0] 33))
  go_enter Try.func30, Try.ntmps30
  go_wp2_with fail
  go_loopw [6, 7] (fun v i wr => ∃ (k : Nat) (sv' : Value), k ≤ l.length ∧ i = .int .i64 k ∧ Own wr (w.heap.size + 2) 21 .i32 v (feedO bs (l.take k)) ∧ Box wr w.heap.size #[sv'] 33 ∧ Box wr (w.heap.size + 1) #[.slice none 0 0] 33 ∧ Rd wr .u8 sv' (feedS bs (l.take k)) ∧ (∀ g, v.ownBlock = some g → sv'.ownBlock ≠ some g) ∧ (∀ g, sv'.ownBlock = some g → g ≠ w.heap.size ∧ g ≠ w.heap.size + 1) ∧ Below w.heap.size w wr) (fun _ i _ => l.length - (intOf i).toNat)
  case atStart => exact ⟨0, _, by omega, rfl, Own.nil _ _ _ _, Box.alloc (Box.new _ _ _ rfl) _, Box.new _ _ _ (by simp), hs2, fun g h => by simp [Value.ownBlock] at h, fun g h => by have := hs.in g h; omega, (by repeat (first | with_reducible exact Below.refl _ _ | with_reducible assumption | with_reducible exact GW.grow _ | with_reducible refine bl_alloc ?_ _ | with_reducible refine Below.drew ?_ | (with_reducible refine Below.setCell ?_ ?_ _; rotate_left; focus (simp; first | done | omega)) | with_reducible refine bl_trans ?_ (GW.grow _) | (with_reducible refine bl_trans ?_ (by assumption))))⟩
  case round =>
    obtain ⟨k, sv', hk, rfl, hown, hbx, hbr, hrd, hoff, hne, hbel⟩ := hrel
    obtain ⟨p9, n9, c9, hsv⟩ := hrd.shape
    subst hsv
    have y1 := Box.cell hbx
    have y2 := Box.free hbx
    have y3 := Box.lt hbx
    by_cases hlt : k < l.length
    · obtain ⟨b1, o1, rfl, q1, d1⟩ := Rd.at c1 l1 hlt
      have d3 : wr.cell? ⟨b1, o1 + k, none⟩ = some (.int .u8 l[k]) := by rw [hbel.cell (p := ⟨b1, _, none⟩) q1]; exact d1
      clear c1 d1
      have r1 : (0 : Int) ≤ (k : Int) := by omega
      have r2 : (k : Int) < (l.length : Int) := by omega
      have hsz := hbel.size
      have q2 : b1 < wr.heap.size := by omega
      have hwk : Wf (feedS bs (l.take k)) := feedS_wf _ _ hwf (fun c hc => hl c (List.mem_of_mem_take hc))
      have hbk : Byte l[k] := hl _ (List.getElem_mem _)
      have hfl := feed_len (l.take k) bs hwf (fun c hc => hl c (List.mem_of_mem_take hc))
      have htl : (l.take k).length ≤ k := List.length_take_le _ _
      have hol := stepO_len (feedS bs (l.take k)) l[k]
      have e1 := Lib.hid (feedO_succ bs l k hlt)
      have e2 := Lib.hid (feedS_succ bs l k hlt)
      go_wp2_with fail
      have hS : Below wr.heap.size wr wr.drew := (Below.refl _ _).drew
      refine wp_region_late (fun Z => Below wr.heap.size wr Z) [10] (by kernel_rfl) ?_
      refine wpAnyG_load (v := ?v0) 0 rfl (by kernel_rfl) (by kernel_rfl) (by kernel_rfl) (by kernel_rfl) (fun _ _ _ h => h) (Or.inl ⟨by rfl, ?h0⟩) hS (fun _ => ?r0)
      case h0 => (intro Z hZ; obtain ⟨z1, z2⟩ := bcell hZ; go_simp; try with_reducible rfl)
      try simp only [Act.put, List.getElem_toArray, List.getElem_cons_zero, List.getElem_cons_succ, List.setIfInBounds_toArray, List.set_cons_zero, List.set_cons_succ]
      refine wpAnyG_pure (v := ?v1) 1 rfl (by kernel_rfl) (by kernel_rfl) (by kernel_rfl) (by kernel_rfl) (fun _ _ _ h => h) (Or.inl ⟨by rfl, ?h1⟩) (fun _ => hS) (fun _ => ?r1)
      case h1 => (intro w _; go_simp; try with_reducible rfl)
      try simp only [Act.put, List.getElem_toArray, List.getElem_cons_zero, List.getElem_cons_succ, List.setIfInBounds_toArray, List.set_cons_zero, List.set_cons_succ]
      refine wpAnyG_pure (v := ?v2) 2 rfl (by kernel_rfl) (by kernel_rfl) (by kernel_rfl) (by kernel_rfl) (fun _ _ _ h => h) (Or.inl ⟨by rfl, ?h2⟩) (fun _ => hS) (fun _ => ?r2)
      case h2 => (intro w _; go_simp; try with_reducible rfl)
      try simp only [Act.put, List.getElem_toArray, List.getElem_cons_zero, List.getElem_cons_succ, List.setIfInBounds_toArray, List.set_cons_zero, List.set_cons_succ]
      refine wpAnyG_pure (v := ?v3) 3 rfl (by kernel_rfl) (by kernel_rfl) (by kernel_rfl) (by kernel_rfl) (fun _ _ _ h => h) (Or.inl ⟨by rfl, ?h3⟩) (fun _ => hS) (fun _ => ?r3)
      case h3 => (intro w _; go_simp; try with_reducible rfl)
      try simp only [Act.put, List.getElem_toArray, List.getElem_cons_zero, List.getElem_cons_succ, List.setIfInBounds_toArray, List.set_cons_zero, List.set_cons_succ]
      refine wpAnyG_load (v := ?v4) 4 rfl (by kernel_rfl) (by kernel_rfl) (by kernel_rfl) (by kernel_rfl) (fun _ _ _ h => h) (Or.inl ⟨by rfl, ?h4⟩) hS (fun _ => ?r4)
      case h4 => (intro Z hZ; obtain ⟨z1, z2⟩ := bcell hZ; go_simp; try with_reducible rfl)
      try simp only [Act.put, List.getElem_toArray, List.getElem_cons_zero, List.getElem_cons_succ, List.setIfInBounds_toArray, List.set_cons_zero, List.set_cons_succ]
      refine wpAnyG_two 5 9 (by kernel_rfl) ?_ ?_
      · have hcur : Below wr.heap.size wr wr.drew := (Below.refl _ _).drew
        refine wpOp_step rfl (fun K hK => ?_)
        go_simp
        refine (rstep_any _ _ l[k] _ (hrd.below hcur) hwk hbk).mono ?_
        rintro e w1 ⟨nv, v1, rfl, hnv, hnf, hv1, hvf, hbl1⟩
        obtain ⟨pn, nn, cn, hnv2⟩ := hnv.shape
        subst hnv2
        obtain ⟨pv, nvv, cv, hv2⟩ := hv1.shape
        subst hv2
        have hcur1 : Below wr.heap.size wr w1 := bl_trans hcur hbl1
        go_simp
        refine hK _ _ ⟨fun _ => hcur1, ?_⟩
        clear hK K
        try simp only [Act.put, List.getElem_toArray, List.getElem_cons_zero, List.getElem_cons_succ, List.setIfInBounds_toArray, List.set_cons_zero, List.set_cons_succ]
        refine wpAnyG_pure (v := ?v6) 6 rfl (by kernel_rfl) (by kernel_rfl) (by kernel_rfl) (by kernel_rfl) (fun _ _ _ h => h) (Or.inl ⟨by rfl, ?h6⟩) (fun _ => hcur1) (fun _ => ?r6)
        case h6 => (intro w _; go_simp; try with_reducible rfl)
        try simp only [Act.put, List.getElem_toArray, List.getElem_cons_zero, List.getElem_cons_succ, List.setIfInBounds_toArray, List.set_cons_zero, List.set_cons_succ]
        refine wpAnyG_pure (v := ?v7) 7 rfl (by kernel_rfl) (by kernel_rfl) (by kernel_rfl) (by kernel_rfl) (fun _ _ _ h => h) (Or.inl ⟨by rfl, ?h7⟩) (fun _ => hcur1) (fun _ => ?r7)
        case h7 => (intro w _; go_simp; try with_reducible rfl)
        try simp only [Act.put, List.getElem_toArray, List.getElem_cons_zero, List.getElem_cons_succ, List.setIfInBounds_toArray, List.set_cons_zero, List.set_cons_succ]
        refine wpAnyG_pure (v := ?v8) 8 rfl (by kernel_rfl) (by kernel_rfl) (by kernel_rfl) (by kernel_rfl) (fun _ _ _ h => h) (Or.inl ⟨by rfl, ?h8⟩) (fun _ => hcur1) (fun _ => ?r8)
        case h8 => (intro w _; go_simp; try with_reducible rfl)
        try simp only [Act.put, List.getElem_toArray, List.getElem_cons_zero, List.getElem_cons_succ, List.setIfInBounds_toArray, List.set_cons_zero, List.set_cons_succ]
        refine wpAnyG_one 9 rfl (by kernel_rfl) ?_
        refine wpOp_step rfl (fun K hK => ?_)
        go_simp
        refine hK _ _ ⟨fun _ => bl_alloc hcur1 _, ?_⟩
        clear hK K
        try simp only [Act.put, List.getElem_toArray, List.getElem_cons_zero, List.getElem_cons_succ, List.setIfInBounds_toArray, List.set_cons_zero, List.set_cons_succ]
        refine wpAnyG_one 10 rfl (by kernel_rfl) ?_
        refine wpOp_step rfl (fun K hK => ?_)
        go_simp
        refine hK _ _ ⟨fun _ => bl_alloc hcur1 _, ?_⟩
        clear hK K
        try simp only [Act.put, List.getElem_toArray, List.getElem_cons_zero, List.getElem_cons_succ, List.setIfInBounds_toArray, List.set_cons_zero, List.set_cons_succ]
        refine wpAnyG_pure (v := ?v11) 11 rfl (by kernel_rfl) (by kernel_rfl) (by kernel_rfl) (by kernel_rfl) (fun _ _ _ h => h) (Or.inl ⟨by rfl, ?h11⟩) (fun _ => bl_alloc hcur1 _) (fun _ => ?r11)
        case h11 => (intro w _; go_simp; try with_reducible rfl)
        try simp only [Act.put, List.getElem_toArray, List.getElem_cons_zero, List.getElem_cons_succ, List.setIfInBounds_toArray, List.set_cons_zero, List.set_cons_succ]
        have hnf0 : Fresh wr (.slice pn nn cn) := hnf
        have hvf0 : Fresh wr (.slice pv nvv cv) := hvf
        refine wpAnyG_done (by kernel_rfl) ?_ _
        refine then_name (fun W => Box W w1.heap.size #[.slice pn nn cn] 33 ∧ Rd W .u8 (.slice pn nn cn) (stepS (feedS bs (l.take k)) l[k]) ∧ Rd W .i32 (.slice pv nvv cv) (stepO (feedS bs (l.take k)) l[k]) ∧ Below wr.heap.size wr W) ⟨?_, ?_, ?_, ?_⟩ ?_
        · exact Box.new _ _ _ rfl
        · exact hnv.below ((Below.refl _ _).alloc (Nat.le_refl _) _)
        · exact hv1.below ((Below.refl _ _).alloc (Nat.le_refl _) _)
        · exact bl_alloc hcur1 _
        clear hnv hv1 hnf hvf hbl1 hcur1
        intro W ⟨hZ, hRn, hRv, hB⟩
        have hfn : ∀ g, (Value.slice pn nn cn).ownBlock = some g → wr.heap.size ≤ g := hRn.fresh hnf0
        have hfv : ∀ g, (Value.slice pv nvv cv).ownBlock = some g → wr.heap.size ≤ g := hRv.fresh hvf0
        have hX : Box W w.heap.size #[.slice p9 n9 c9] 33 := (hB.block _ y3).trans hbx
        have hlr := Box.lt hbr
        have hX1 : Box W (w.heap.size + 1) #[.slice none 0 0] 33 := (hB.block _ hlr).trans hbr
        clear y1 y2
        have y1 := Box.cell hX
        have y2 := Box.free hX
        have y4 := Box.lt hX
        have x1 := Box.cell hZ
        have x2 := Box.free hZ
        have x3 := Box.lt hZ
        have hbarX : Bar w.heap.size W (W.setCell ⟨w.heap.size, 0, none⟩ (.slice pn nn cn)) := Bar.set (Bar.refl _ _) 0 _
        have hownX := Own.bar (Own.kept hown hB) hbarX (hown.off (by omega))
        have hRvX := hRv.kept hbarX.grown (.inr (fun e => by have := hfv _ e; omega))
        have hRnX := hRn.kept hbarX.grown (.inr (fun e => by have := hfn _ e; omega))
        have hWs := hB.size
        go_wp2_with (at_builtin; refine wpList_appw rfl _ _ 45 21 .i32 4 rfl Try.underlying45 el32 (w.heap.size + 2) _ _ (feedO bs (l.take k)) (stepO (feedS bs (l.take k)) l[k]) hownX hRvX rfl rfl (by simp only [maxLen]; omega) (by omega) (by simp; omega) ?_; intro v' w3 hown' hgrow hwhere)
        go_roundw
        have hrel2 : Own w3 (w.heap.size + 2) 21 .i32 v' (feedO bs (l.take (k + 1))) ∧ Box w3 w.heap.size #[.slice pn nn cn] 33 ∧ Box w3 (w.heap.size + 1) #[.slice none 0 0] 33 ∧ Rd w3 .u8 (.slice pn nn cn) (feedS bs (l.take (k + 1))) ∧ (∀ g, v'.ownBlock = some g → (Value.slice pn nn cn).ownBlock ≠ some g) ∧ (∀ g, (Value.slice pn nn cn).ownBlock = some g → g ≠ w.heap.size ∧ g ≠ w.heap.size + 1) ∧ Below w.heap.size w w3 := by
          refine ⟨by rw [e1.out]; exact hown', (hgrow.block _ (by simp; omega) (fun e => by have := (hown.block _ e.symm).1; omega)).trans (Box.as (Box.set hX 0 _) (by simp)), (hgrow.block _ (by simp; omega) (fun e => by have := (hown.block _ e.symm).1; omega)).trans (Box.set_other hX1 (by omega) 0 _), ?_, ?_, ?_, ?_⟩
          · rw [e2.out]
            refine hRnX.kept hgrow ?_
            cases he : (Value.slice pn nn cn).ownBlock with
            | none => exact .inl rfl
            | some g => exact .inr (fun e => by have := hfn g he; have := (hown.block g e.symm).2; omega)
          · intro g hg e
            have := hfn g e
            have h5 := hRn.in g e
            rcases hwhere with h | h
            · rw [h] at hg; have := (hown.block g hg).2; omega
            · rw [h] at hg; simp at hg; omega
          · intro g hg
            have := hfn g hg
            omega
          · exact app_below ((bl_trans hbel hB).setCell (by simp) _) hgrow (fun g h => by have := (hown.block g h).1; omega)
        clear hown' hgrow hwhere
        case rel => first | exact ⟨k + 1, .slice pn nn cn, by omega, by go_num, hrel2⟩ | ((repeat apply Exists.intro); exact ⟨⟨k + 1, .slice pn nn cn, by omega, by go_num, hrel2⟩, rfl⟩)
        case measure => simp [intOf]; omega
      · have hcur : Below wr.heap.size wr (wr.drew.alloc (.cells #[.slice none 0 0] 33)) := bl_alloc (Below.refl _ _).drew _
        refine wpOp_step rfl (fun K hK => ?_)
        go_simp
        refine hK _ _ ⟨fun _ => hcur, ?_⟩
        clear hK K
        try simp only [Act.put, List.getElem_toArray, List.getElem_cons_zero, List.getElem_cons_succ, List.setIfInBounds_toArray, List.set_cons_zero, List.set_cons_succ]

        refine wpAnyG_one 5 rfl (by kernel_rfl) ?_
        refine wpOp_step rfl (fun K hK => ?_)
        go_simp
        refine (rstep_any _ _ l[k] _ (hrd.below hcur) hwk hbk).mono ?_
        rintro e w1 ⟨nv, v1, rfl, hnv, hnf, hv1, hvf, hbl1⟩
        obtain ⟨pn, nn, cn, hnv2⟩ := hnv.shape
        subst hnv2
        obtain ⟨pv, nvv, cv, hv2⟩ := hv1.shape
        subst hv2
        have hcur1 : Below wr.heap.size wr w1 := bl_trans hcur hbl1
        go_simp
        refine hK _ _ ⟨fun _ => hcur1, ?_⟩
        clear hK K
        try simp only [Act.put, List.getElem_toArray, List.getElem_cons_zero, List.getElem_cons_succ, List.setIfInBounds_toArray, List.set_cons_zero, List.set_cons_succ]
        have hbz := (hbl1.block wr.heap.size (by simp)).trans (Box.new wr.drew #[.slice none 0 0] 33 (b := wr.heap.size) rfl)
        have z1 := Box.cell hbz
        have z2 := Box.free hbz
        have z3 := Box.lt hbz
        refine wpAnyG_pure (v := ?v6b) 6 rfl (by kernel_rfl) (by kernel_rfl) (by kernel_rfl) (by kernel_rfl) (fun _ _ _ h => h) (Or.inl ⟨by rfl, ?h6b⟩) (fun _ => hcur1) (fun _ => ?r6b)
        case h6b => (intro w _; go_simp; try with_reducible rfl)
        try simp only [Act.put, List.getElem_toArray, List.getElem_cons_zero, List.getElem_cons_succ, List.setIfInBounds_toArray, List.set_cons_zero, List.set_cons_succ]
        refine wpAnyG_pure (v := ?v7b) 7 rfl (by kernel_rfl) (by kernel_rfl) (by kernel_rfl) (by kernel_rfl) (fun _ _ _ h => h) (Or.inl ⟨by rfl, ?h7b⟩) (fun _ => hcur1) (fun _ => ?r7b)
        case h7b => (intro w _; go_simp; try with_reducible rfl)
        try simp only [Act.put, List.getElem_toArray, List.getElem_cons_zero, List.getElem_cons_succ, List.setIfInBounds_toArray, List.set_cons_zero, List.set_cons_succ]
        refine wpAnyG_pure (v := ?v8b) 8 rfl (by kernel_rfl) (by kernel_rfl) (by kernel_rfl) (by kernel_rfl) (fun _ _ _ h => h) (Or.inl ⟨by rfl, ?h8b⟩) (fun _ => hcur1) (fun _ => ?r8b)
        case h8b => (intro w _; go_simp; try with_reducible rfl)
        try simp only [Act.put, List.getElem_toArray, List.getElem_cons_zero, List.getElem_cons_succ, List.setIfInBounds_toArray, List.set_cons_zero, List.set_cons_succ]
        refine wpAnyG_one 10 rfl (by kernel_rfl) ?_
        refine wpOp_step rfl (fun K hK => ?_)
        go_simp
        refine hK _ _ ⟨fun _ => hcur1.setCell (Nat.le_refl _) _, ?_⟩
        clear hK K
        try simp only [Act.put, List.getElem_toArray, List.getElem_cons_zero, List.getElem_cons_succ, List.setIfInBounds_toArray, List.set_cons_zero, List.set_cons_succ]
        refine wpAnyG_pure (v := ?v11b) 11 rfl (by kernel_rfl) (by kernel_rfl) (by kernel_rfl) (by kernel_rfl) (fun _ _ _ h => h) (Or.inl ⟨by rfl, ?h11b⟩) (fun _ => hcur1.setCell (Nat.le_refl _) _) (fun _ => ?r11b)
        case h11b => (intro w _; go_simp; try with_reducible rfl)
        try simp only [Act.put, List.getElem_toArray, List.getElem_cons_zero, List.getElem_cons_succ, List.setIfInBounds_toArray, List.set_cons_zero, List.set_cons_succ]
        have hnf0 : Fresh wr (.slice pn nn cn) := hnf.older (by simp)
        have hvf0 : Fresh wr (.slice pv nvv cv) := hvf.older (by simp)
        have hzb : Bar wr.heap.size w1 (w1.setCell ⟨wr.heap.size, 0, none⟩ (.slice pn nn cn)) := Bar.set (Bar.refl _ _) 0 _
        refine wpAnyG_done (by kernel_rfl) ?_ _
        refine then_name (fun W => Box W wr.heap.size #[.slice pn nn cn] 33 ∧ Rd W .u8 (.slice pn nn cn) (stepS (feedS bs (l.take k)) l[k]) ∧ Rd W .i32 (.slice pv nvv cv) (stepO (feedS bs (l.take k)) l[k]) ∧ Below wr.heap.size wr W) ⟨?_, ?_, ?_, ?_⟩ ?_
        · exact Box.as (Box.set hbz 0 _) (by simp)
        · exact hnv.kept hzb.grown (.inr (fun e => by have := hnv.fresh hnf _ e; simp at this; omega))
        · exact hv1.kept hzb.grown (.inr (fun e => by have := hv1.fresh hvf _ e; simp at this; omega))
        · exact hcur1.setCell (Nat.le_refl _) _
        clear hnv hv1 hnf hvf hbl1 hcur1 z1 z2 z3 hbz hzb
        intro W ⟨hZ, hRn, hRv, hB⟩
        have hfn : ∀ g, (Value.slice pn nn cn).ownBlock = some g → wr.heap.size ≤ g := hRn.fresh hnf0
        have hfv : ∀ g, (Value.slice pv nvv cv).ownBlock = some g → wr.heap.size ≤ g := hRv.fresh hvf0
        have hX : Box W w.heap.size #[.slice p9 n9 c9] 33 := (hB.block _ y3).trans hbx
        have hlr := Box.lt hbr
        have hX1 : Box W (w.heap.size + 1) #[.slice none 0 0] 33 := (hB.block _ hlr).trans hbr
        clear y1 y2
        have y1 := Box.cell hX
        have y2 := Box.free hX
        have y4 := Box.lt hX
        have x1 := Box.cell hZ
        have x2 := Box.free hZ
        have x3 := Box.lt hZ
        have hbarX : Bar w.heap.size W (W.setCell ⟨w.heap.size, 0, none⟩ (.slice pn nn cn)) := Bar.set (Bar.refl _ _) 0 _
        have hownX := Own.bar (Own.kept hown hB) hbarX (hown.off (by omega))
        have hRvX := hRv.kept hbarX.grown (.inr (fun e => by have := hfv _ e; omega))
        have hRnX := hRn.kept hbarX.grown (.inr (fun e => by have := hfn _ e; omega))
        have hWs := hB.size
        go_wp2_with (at_builtin; refine wpList_appw rfl _ _ 45 21 .i32 4 rfl Try.underlying45 el32 (w.heap.size + 2) _ _ (feedO bs (l.take k)) (stepO (feedS bs (l.take k)) l[k]) hownX hRvX rfl rfl (by simp only [maxLen]; omega) (by omega) (by simp; omega) ?_; intro v' w3 hown' hgrow hwhere)
        go_roundw
        have hrel2 : Own w3 (w.heap.size + 2) 21 .i32 v' (feedO bs (l.take (k + 1))) ∧ Box w3 w.heap.size #[.slice pn nn cn] 33 ∧ Box w3 (w.heap.size + 1) #[.slice none 0 0] 33 ∧ Rd w3 .u8 (.slice pn nn cn) (feedS bs (l.take (k + 1))) ∧ (∀ g, v'.ownBlock = some g → (Value.slice pn nn cn).ownBlock ≠ some g) ∧ (∀ g, (Value.slice pn nn cn).ownBlock = some g → g ≠ w.heap.size ∧ g ≠ w.heap.size + 1) ∧ Below w.heap.size w w3 := by
          refine ⟨by rw [e1.out]; exact hown', (hgrow.block _ (by simp; omega) (fun e => by have := (hown.block _ e.symm).1; omega)).trans (Box.as (Box.set hX 0 _) (by simp)), (hgrow.block _ (by simp; omega) (fun e => by have := (hown.block _ e.symm).1; omega)).trans (Box.set_other hX1 (by omega) 0 _), ?_, ?_, ?_, ?_⟩
          · rw [e2.out]
            refine hRnX.kept hgrow ?_
            cases he : (Value.slice pn nn cn).ownBlock with
            | none => exact .inl rfl
            | some g => exact .inr (fun e => by have := hfn g he; have := (hown.block g e.symm).2; omega)
          · intro g hg e
            have := hfn g e
            have h5 := hRn.in g e
            rcases hwhere with h | h
            · rw [h] at hg; have := (hown.block g hg).2; omega
            · rw [h] at hg; simp at hg; omega
          · intro g hg
            have := hfn g hg
            omega
          · exact app_below ((bl_trans hbel hB).setCell (by simp) _) hgrow (fun g h => by have := (hown.block g h).1; omega)
        clear hown' hgrow hwhere
        case rel => first | exact ⟨k + 1, .slice pn nn cn, by omega, by go_num, hrel2⟩ | ((repeat apply Exists.intro); exact ⟨⟨k + 1, .slice pn nn cn, by omega, by go_num, hrel2⟩, rfl⟩)
        case measure => simp [intOf]; omega
    · have hlr := Box.lt hbr
      have x1 := Box.cell hbr
      have x2 := Box.free hbr
      rw [List.take_of_length_le (by omega)] at hown hrd
      clear c1
      go_wp2_with fail
      refine ret_row_tmp (n := 1) rfl rfl Try.underlying33 rfl (by kernel_rfl) rfl ⟨_, by simp (maxDischargeDepth := 6) [go_sem, Box.row hbr, hlr] <;> rfl, rfl, ?_⟩
      have hbar1 : Bar (w.heap.size + 1) wr (wr.setCell ⟨w.heap.size + 1, 0, none⟩ (.slice p9 n9 c9)) := Bar.set (Bar.refl _ _) 0 _
      exact ⟨_, _, rfl, hrd.kept hbar1.grown (.inr (fun e => (hne _ e).2 rfl)), Own.weaken (Own.bar hown hbar1 (hown.off (by omega))) (by omega), hoff, hbel.setCell (by simp) _⟩

/-! The reference's bytes of a rune. -/
theorem enc1_bad (r : Int) (h : validR r = false) : enc1 r = [239, 191, 189] := by simp [enc1, h, enc0]
set_option maxRecDepth 100000 in
set_option maxHeartbeats 1000000 in
theorem bytes_good (r : Int) (w : World) (h : validR r = true) :
    Calls Try.prog 46 #[.int .i32 r] w (RetOwn w 5 .u8 (enc1 r)) := by
  have hr : 0 ≤ r ∧ r ≤ 1114111 := by simp [validR] at h; omega
  have H := Lib.hid h
  have E : Hid (enc1 r = enc0 r) := by unfold Hid; simp [enc1, h]
  clear h
  rw [E.out]
  by_cases s1 : r < 128
  · rw [show enc0 r = [r] by unfold enc0; rw [if_pos s1]]
    go_enter Try.func46, Try.ntmps46
    go_wp2_with (go_at_call 45; refine (validRef_true _ _ H).mono ?_; rintro e w1 ⟨rfl, rfl⟩)
    go_ret
    exact ⟨_, rfl, Own.new w 5 .u8 [r] _ _ rfl (Nat.le_refl _) (by simp [maxLen]), bl_alloc (Below.refl _ _) _⟩
  by_cases s2 : r < 2048
  · rw [show enc0 r = [192 + r / 64, 128 + r % 64] by unfold enc0; rw [if_neg s1, if_pos s2]]
    go_enter Try.func46, Try.ntmps46
    go_wp2_with (go_at_call 45; refine (validRef_true _ _ H).mono ?_; rintro e w1 ⟨rfl, rfl⟩)
    go_ret
    exact ⟨_, rfl, Own.new w 5 .u8 [192 + r / 64, 128 + r % 64] _ _ rfl (Nat.le_refl _) (by simp [maxLen]), bl_alloc (Below.refl _ _) _⟩
  by_cases s3 : r < 65536
  · rw [show enc0 r = [224 + r / 4096, 128 + r / 64 % 64, 128 + r % 64] by unfold enc0; rw [if_neg s1, if_neg s2, if_pos s3]]
    go_enter Try.func46, Try.ntmps46
    go_wp2_with (go_at_call 45; refine (validRef_true _ _ H).mono ?_; rintro e w1 ⟨rfl, rfl⟩)
    go_ret
    exact ⟨_, rfl, Own.new w 5 .u8 [224 + r / 4096, 128 + r / 64 % 64, 128 + r % 64] _ _ rfl (Nat.le_refl _) (by simp [maxLen]), bl_alloc (Below.refl _ _) _⟩
  · rw [show enc0 r = [240 + r / 262144, 128 + r / 4096 % 64, 128 + r / 64 % 64, 128 + r % 64] by unfold enc0; rw [if_neg s1, if_neg s2, if_neg s3]]
    go_enter Try.func46, Try.ntmps46
    go_wp2_with (go_at_call 45; refine (validRef_true _ _ H).mono ?_; rintro e w1 ⟨rfl, rfl⟩)
    go_ret
    exact ⟨_, rfl, Own.new w 5 .u8 [240 + r / 262144, 128 + r / 4096 % 64, 128 + r / 64 % 64, 128 + r % 64] _ _ rfl (Nat.le_refl _) (by simp [maxLen]), bl_alloc (Below.refl _ _) _⟩

theorem bytes_any (r : Int) (w : World) : Calls Try.prog 46 #[.int .i32 r] w (RetOwn w 5 .u8 (enc1 r)) := by
  cases h : validR r with
  | true => exact bytes_good r w h
  | false =>
    have H := Lib.hid h
    have e : enc1 r = enc1 65533 := by rw [enc1_bad r h, enc1]; simp [validR, enc0]
    rw [e]
    clear h e
    go_enter Try.func46, Try.ntmps46
    go_wp2_with (first | (go_at_call 45; refine (validRef_false _ _ H).mono ?_; rintro e w1 ⟨rfl, rfl⟩) | (go_at_call 46; refine (bytes_good 65533 _ (by decide)).mono ?_; rintro e w1 ⟨v, rfl, hv, hb⟩))
    go_ret
    exact ⟨_, rfl, hv, hb⟩

end Go.Proofs.Ytpkkfcfkhiaggaa
