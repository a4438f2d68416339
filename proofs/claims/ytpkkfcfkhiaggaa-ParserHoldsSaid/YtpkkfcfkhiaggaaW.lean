/- parser: the reference over bytes. Printed by mk_w.py. -/
import Derived.Test.YtpkkfcfkhiaggaaV
import Derived.Deep.CutBlock
import Derived.Deep.DeepCutAuto
import Derived.Outline
set_option linter.unusedSimpArgs false
set_option linter.unusedVariables false
set_option linter.unnecessarySimpa false
namespace Go.Proofs.Ytpkkfcfkhiaggaa
open Go.RowKit
open Go.Proofs.Ytpkkfcfkhiaggaa.Pm (fineR addB addO bldQ refL bldC BldV bldC_len)

/-- What holds of the reference's state after so many runes. -/
structure ROk (m : Nat) (s : Rs) : Prop where
  op : s.op ≤ 4
  bt : ∀ x ∈ s.sq, Byte x
  le : s.sq.length ≤ m
theorem ROk.zero : ROk 0 rs0 := ⟨Nat.zero_le _, by simp [rs0], Nat.zero_le _⟩
theorem ROk.mono {m n : Nat} {s : Rs} (h : ROk m s) (k : m ≤ n) : ROk n s := ⟨h.op, h.bt, Nat.le_trans h.le k⟩
theorem rone_ok {m : Nat} {s : Rs} (r : Int) (h : ROk m s) : ROk (m + 4) (rsOne s r).1 ∧ (rsOne s r).1.d = s.d := by
  have key : ∀ {c : Prop} [Decidable c] {a b : Rs × List Ac}, (ROk (m + 4) a.1 ∧ a.1.d = s.d) → (ROk (m + 4) b.1 ∧ b.1.d = s.d) → ROk (m + 4) (if c then a else b).1 ∧ (if c then a else b).1.d = s.d := by
    intro c _ a b ha hb
    split
    · exact ha
    · exact hb
  have h0 : ROk (m + 4) s := h.mono (by omega)
  have hto : ∀ o, o ≤ 4 → ROk (m + 4) (rto s o) ∧ (rto s o).d = s.d := fun o ho => ⟨⟨ho, by simp [rto], Nat.zero_le _⟩, rfl⟩
  have hand : ROk (m + 4) (rand s r) ∧ (rand s r).d = s.d := by
    refine ⟨⟨h.op, fun x hx => ?_, ?_⟩, rfl⟩
    · rcases List.mem_append.1 hx with hx | hx
      · exact h.bt x hx
      · exact enc1_byte r x hx
    · show (s.sq ++ enc1 r).length ≤ _
      have := enc1_len r
      have := h.le
      rw [List.length_append]; omega
  unfold rsOne escR conR
  repeat' (refine key ?_ ?_)
  all_goals first | exact ⟨h0, rfl⟩ | exact hand | exact hto _ (by decide)
theorem rstep_ok {m : Nat} {s : Rs} (r : Int) (h : ROk m s) : ROk (m + 4) (rsStep s r).1 ∧ (rsStep s r).1.d = s.d := by
  unfold rsStep
  split
  · have h1 : ROk 0 (rsOne s 27).1 ∧ (rsOne s 27).1.d = s.d := by
      unfold rsOne
      rw [if_pos rfl]
      exact ⟨⟨by show (1 : Nat) ≤ 4; decide, by simp [rto], Nat.zero_le _⟩, rfl⟩
    have h2 := rone_ok (r - 64) h1.1
    exact ⟨h2.1.mono (by omega), h2.2.trans h1.2⟩
  · exact rone_ok r h
theorem rrun_ok {m : Nat} {s : Rs} (l : List Int) (h : ROk m s) : ROk (m + 4 * l.length) (rsRun s l).1 ∧ (rsRun s l).1.d = s.d := by
  induction l generalizing m s with
  | nil => exact ⟨h, rfl⟩
  | cons r l ih =>
    have h1 := rstep_ok r h
    have h2 := ih h1.1
    exact ⟨h2.1.mono (by rw [List.length_cons]; omega), h2.2.trans h1.2⟩
theorem rstep_few (s : Rs) (r : Int) : (rsStep s r).2.length ≤ 2 := by
  unfold rsStep
  split
  · have h1 := rone_few s 27
    have h2 := rone_few (rsOne s 27).1 (r - 64)
    show (_ ++ _ : List Ac).length ≤ 2
    rw [List.length_append]; omega
  · have := rone_few s r; omega
theorem rrun_few (s : Rs) (l : List Int) : (rsRun s l).2.length ≤ 2 * l.length := by
  induction l generalizing s with
  | nil => exact Nat.zero_le _
  | cons r l ih =>
    have h1 := rstep_few s r
    have h2 := ih (rsStep s r).1
    show (_ ++ _ : List Ac).length ≤ _
    rw [List.length_append, List.length_cons]; omega
/-- What the reference's Write says. -/
def RWr (w : World) (r : Rs × List Ac) (e : Ending) (w' : World) : Prop :=
  ∃ q c v xs, e = .returned (.tuple #[.agg #[.string (opS r.1.op), .string (strOfNums r.1.sq), .slice q r.1.d.length c], v]) ∧ xs.map Prod.fst = r.2 ∧ OwnX w' w.heap.size v xs ∧ Below w.heap.size w w'
set_option maxHeartbeats 8000000 in
set_option maxRecDepth 100000 in
theorem rwrite_any (v : Value) (l : List Int) (w : World) (hb : Rd w .u8 v l) (hl : ∀ x ∈ l, Byte x) (hlen : l.length ≤ 20000) : Calls Try.prog 10 #[.agg #[.string ⟨#[]⟩, .string ⟨#[]⟩, .slice none 0 0], v] w (RWr w (rsWrite rs0 l)) := by
  have hfl := feed_len l [] .nil hl
  rw [List.length_nil, Nat.zero_add] at hfl
  have cF : ∀ W, Below w.heap.size w W → Calls Try.prog 30 #[.agg #[.slice none 0 0], v] W (RefFed W (feedS [] l) (feedO [] l)) := fun W hW => rfeed_any _ _ _ _ W (Rd.nil _ _) .nil (hb.below hW) hl (by omega)
  show Calls _ _ _ _ (RWr w (rsRun ⟨0, [], feedS [] l⟩ (feedO [] l)))
  generalize feedS [] l = d at *
  generalize feedO [] l = rs at *
  obtain ⟨pv, nv, cv, hv⟩ := hb.shape
  subst hv
  have hW1 : Below w.heap.size w ((w.alloc (.cells #[.string ⟨#[]⟩, .string ⟨#[]⟩, .slice none 0 0] 35)).alloc (.cells #[.string ⟨#[]⟩, .string ⟨#[]⟩, .slice none 0 0] 35)) := bl_alloc (bl_alloc (Below.refl _ _) _) _
  have hA : Box ((w.alloc (.cells #[.string ⟨#[]⟩, .string ⟨#[]⟩, .slice none 0 0] 35)).alloc (.cells #[.string ⟨#[]⟩, .string ⟨#[]⟩, .slice none 0 0] 35)) w.heap.size #[.string ⟨#[]⟩, .string ⟨#[]⟩, .slice none 0 0] 35 := (by first | with_reducible assumption | (apply Box.as; (focus (repeat (first | with_reducible assumption | (with_reducible apply Box.new; simp; done) | with_reducible apply Box.gw | with_reducible apply Box.drew | with_reducible apply Box.alloc | with_reducible apply Box.set | (with_reducible apply Box.set_other; case hg => omega)))); rfl))
  have hR : Box ((w.alloc (.cells #[.string ⟨#[]⟩, .string ⟨#[]⟩, .slice none 0 0] 35)).alloc (.cells #[.string ⟨#[]⟩, .string ⟨#[]⟩, .slice none 0 0] 35)) (w.heap.size + 1) #[.string ⟨#[]⟩, .string ⟨#[]⟩, .slice none 0 0] 35 := (by first | with_reducible assumption | (apply Box.as; (focus (repeat (first | with_reducible assumption | (with_reducible apply Box.new; simp; done) | with_reducible apply Box.gw | with_reducible apply Box.drew | with_reducible apply Box.alloc | with_reducible apply Box.set | (with_reducible apply Box.set_other; case hg => omega)))); rfl))
  have c1 := cF _ hW1
  have hz2 : ((w.alloc (.cells #[.string ⟨#[]⟩, .string ⟨#[]⟩, .slice none 0 0] 35)).alloc (.cells #[.string ⟨#[]⟩, .string ⟨#[]⟩, .slice none 0 0] 35)).heap.size = w.heap.size + 2 := by simp
  clear cF
  go_enter Try.func10, Try.ntmps10
  go_wp2_with (first | (go_at_call 30; (with_reducible refine c1.mono ?_); rintro e w1 ⟨sv, vr, rfl, hsv, hvr, hoff, hb1⟩; obtain ⟨q, c, hsv2⟩ := Rd.lits hsv; subst hsv2; obtain ⟨qr, nr, hvr2⟩ := Rd.lits hvr.rd; subst hvr2; have xA := Box.past hb1 hA; have xR := Box.past hb1 hR; have xc := xA.cell; have xf := xA.free; have xl := xA.lt))
  have hA2 : Box (w1.setCell ⟨w.heap.size, 2, none⟩ (.slice q d.length c)) w.heap.size #[.string ⟨#[]⟩, .string ⟨#[]⟩, .slice q d.length c] 35 := xA.set 2 _
  have hR2 : Box (w1.setCell ⟨w.heap.size, 2, none⟩ (.slice q d.length c)) (w.heap.size + 1) #[.string ⟨#[]⟩, .string ⟨#[]⟩, .slice none 0 0] 35 := xR.set_other (by omega) 2 _
  have hsz1 := hb1.size
  have hrd1 := hvr.rd
  have hoD : (Value.slice qr rs.length nr).ownBlock ≠ some w.heap.size := fun e => by have := (hvr.block _ e).1; omega
  clear xc xf xl
  clear hsv hvr hoff
  go_loopw [8, 9] (fun v i wr => ∃ k : Nat, k ≤ rs.length ∧ i = .int .i64 k ∧ ∃ xs : List AV, xs.map Prod.fst = (rsRun ⟨0, [], d⟩ (rs.take k)).2 ∧ OwnX wr w1.heap.size v xs ∧ Bar w.heap.size w1 wr ∧ Box wr w.heap.size #[.string (opS (rsRun ⟨0, [], d⟩ (rs.take k)).1.op), .string (strOfNums (rsRun ⟨0, [], d⟩ (rs.take k)).1.sq), .slice q d.length c] 35 ∧ Box wr (w.heap.size + 1) #[.string ⟨#[]⟩, .string ⟨#[]⟩, .slice none 0 0] 35) (fun _ i _ => rs.length - (intOf i).toNat)
  case atStart => exact ⟨0, by omega, rfl, [], rfl, OwnX.nil _ _, ((Bar.refl _ _).set 2 _).alloc _, hA2.alloc _, hR2.alloc _⟩
  case round =>
    obtain ⟨k, hk, rfl, xs, hk1, k2, hbar, hbx, hbr⟩ := hrel
    have y1 := Box.cell hbx
    have y2 := Box.free hbx
    have y3 := Box.lt hbx
    by_cases hlt : k < rs.length
    · have hrw := rd_bar hrd1 hoD hbar
      obtain ⟨q9, c9, he9, hlc, hcm, hcell⟩ := hrw
      injection he9 with e1 e2 e3
      subst e1 e3
      obtain ⟨bb, off, hq, hbb, hc9⟩ := Rd.at hcell hlc hlt
      subst hq
      clear hcell
      unfold maxLen at hcm
      have hfew := rrun_few ⟨0, [], d⟩ (rs.take k)
      have hok := rrun_ok (rs.take k) (m := 0) (s := ⟨0, [], d⟩) ⟨Nat.zero_le _, by simp, Nat.zero_le _⟩
      rw [List.length_take] at hfew hok
      have hxl := len_fst hk1
      have hsn := rsRun_snoc ⟨0, [], d⟩ (rs.take k) rs[k]
      rw [← List.take_succ_eq_append_getElem hlt] at hsn
      have hdd := hok.2
      have cS := fun W => rxstep_any (rsRun ⟨0, [], d⟩ (rs.take k)).1 q d.length c rs[k] W hok.1.op hok.1.bt (by have := hok.1.le; omega)
      have hf2 := rstep_few (rsRun ⟨0, [], d⟩ (rs.take k)).1 rs[k]
      generalize hs1 : (rsRun ⟨0, [], d⟩ (rs.take k)).1 = s1 at *
      generalize (rsRun ⟨0, [], d⟩ (rs.take k)).2 = l1 at *
      generalize hr0 : rs[k] = r0 at *
      generalize rsStep s1 r0 = s2 at *
      have HSN := Lib.hid hsn
      clear hsn hr0 hok hs1 hdd
      have hA1 : w.heap.size < w1.heap.size := by omega
      have z1 : (0 : Int) ≤ (k : Int) := by omega
      have z2 : (k : Int) < (rs.length : Int) := by omega
      go_wp2_with fail
      have hS : Below wr.heap.size wr wr.drew := (Below.refl _ _).drew
      refine wp_region_late (fun Z => Below wr.heap.size wr Z) [10] (by kernel_rfl) ?_
      refine wpAnyG_load (v := ?v0) 0 rfl (by kernel_rfl) (by kernel_rfl) (by kernel_rfl) (by kernel_rfl) (fun _ _ _ h => h) (Or.inl ⟨by rfl, ?h0⟩) hS (fun _ => ?r0)
      case h0 => (intro Z hZ; obtain ⟨z1, z2⟩ := bcell hZ; go_simp; try with_reducible rfl)
      try simp only [Act.put, List.getElem_toArray, List.getElem_cons_zero, List.getElem_cons_succ, List.setIfInBounds_toArray, List.set_cons_zero, List.set_cons_succ]
      refine wpAnyG_pure (v := ?v1) 1 rfl (by kernel_rfl) (by kernel_rfl) (by kernel_rfl) (by kernel_rfl) (fun _ _ _ h => h) (Or.inl ⟨by rfl, ?h1⟩) (fun _ => hS) (fun _ => ?r1)
      case h1 => (intro w _; go_simp; try with_reducible rfl)
      try simp only [Act.put, List.getElem_toArray, List.getElem_cons_zero, List.getElem_cons_succ, List.setIfInBounds_toArray, List.set_cons_zero, List.set_cons_succ]
      refine wpAnyG_pure (v := ?v2) 2 rfl (by kernel_rfl) (by kernel_rfl) (by kernel_rfl) (by kernel_rfl) (fun _ _ _ h => h) (Or.inl ⟨by rfl, ?h2⟩) (fun _ => hS) (fun _ => ?r2)
      case h2 => (intro w _; go_simp; try with_reducible rfl)
      try simp only [Act.put, List.getElem_toArray, List.getElem_cons_zero, List.getElem_cons_succ, List.setIfInBounds_toArray, List.set_cons_zero, List.set_cons_succ]
      refine wpAnyG_pure (v := ?v3) 3 rfl (by kernel_rfl) (by kernel_rfl) (by kernel_rfl) (by kernel_rfl) (fun _ _ _ h => h) (Or.inl ⟨by rfl, ?h3⟩) (fun _ => hS) (fun _ => ?r3)
      case h3 => (intro w _; go_simp; try with_reducible rfl)
      try simp only [Act.put, List.getElem_toArray, List.getElem_cons_zero, List.getElem_cons_succ, List.setIfInBounds_toArray, List.set_cons_zero, List.set_cons_succ]
      refine wpAnyG_load (v := ?v4) 4 rfl (by kernel_rfl) (by kernel_rfl) (by kernel_rfl) (by kernel_rfl) (fun _ _ _ h => h) (Or.inl ⟨by rfl, ?h4⟩) hS (fun _ => ?r4)
      case h4 => (intro Z hZ; obtain ⟨z1, z2⟩ := bcell hZ; go_simp; try with_reducible rfl)
      try simp only [Act.put, List.getElem_toArray, List.getElem_cons_zero, List.getElem_cons_succ, List.setIfInBounds_toArray, List.set_cons_zero, List.set_cons_succ]
      refine wpAnyG_two 5 9 (by kernel_rfl) ?_ ?_
      · have hcur : Below wr.heap.size wr wr.drew := (Below.refl _ _).drew
        refine wpOp_step rfl (fun K hK => ?_)
        go_simp
        (with_reducible refine (cS _).mono ?_)
        rintro e w2 ⟨v2, xs2, rfl, m1, m2, hbl1⟩
        have hcur1 : Below wr.heap.size wr w2 := bl_trans hcur hbl1
        go_simp
        refine hK _ _ ⟨fun _ => hcur1, ?_⟩
        clear hK K
        try simp only [Act.put, List.getElem_toArray, List.getElem_cons_zero, List.getElem_cons_succ, List.setIfInBounds_toArray, List.set_cons_zero, List.set_cons_succ]
        refine wpAnyG_pure (v := ?v6) 6 rfl (by kernel_rfl) (by kernel_rfl) (by kernel_rfl) (by kernel_rfl) (fun _ _ _ h => h) (Or.inl ⟨by rfl, ?h6⟩) (fun _ => hcur1) (fun _ => ?r6)
        case h6 => (intro w _; go_simp; try with_reducible rfl)
        try simp only [Act.put, List.getElem_toArray, List.getElem_cons_zero, List.getElem_cons_succ, List.setIfInBounds_toArray, List.set_cons_zero, List.set_cons_succ]
        refine wpAnyG_pure (v := ?v7) 7 rfl (by kernel_rfl) (by kernel_rfl) (by kernel_rfl) (by kernel_rfl) (fun _ _ _ h => h) (Or.inl ⟨by rfl, ?h7⟩) (fun _ => hcur1) (fun _ => ?r7)
        case h7 => (intro w _; go_simp; try with_reducible rfl)
        try simp only [Act.put, List.getElem_toArray, List.getElem_cons_zero, List.getElem_cons_succ, List.setIfInBounds_toArray, List.set_cons_zero, List.set_cons_succ]
        refine wpAnyG_pure (v := ?v8) 8 rfl (by kernel_rfl) (by kernel_rfl) (by kernel_rfl) (by kernel_rfl) (fun _ _ _ h => h) (Or.inl ⟨by rfl, ?h8⟩) (fun _ => hcur1) (fun _ => ?r8)
        case h8 => (intro w _; go_simp; try with_reducible rfl)
        try simp only [Act.put, List.getElem_toArray, List.getElem_cons_zero, List.getElem_cons_succ, List.setIfInBounds_toArray, List.set_cons_zero, List.set_cons_succ]
        refine wpAnyG_one 9 rfl (by kernel_rfl) ?_
        refine wpOp_step rfl (fun K hK => ?_)
        go_simp
        refine hK _ _ ⟨fun _ => bl_alloc hcur1 _, ?_⟩
        clear hK K
        try simp only [Act.put, List.getElem_toArray, List.getElem_cons_zero, List.getElem_cons_succ, List.setIfInBounds_toArray, List.set_cons_zero, List.set_cons_succ]
        refine wpAnyG_one 10 rfl (by kernel_rfl) ?_
        refine wpOp_step rfl (fun K hK => ?_)
        go_simp
        refine hK _ _ ⟨fun _ => bl_alloc hcur1 _, ?_⟩
        clear hK K
        try simp only [Act.put, List.getElem_toArray, List.getElem_cons_zero, List.getElem_cons_succ, List.setIfInBounds_toArray, List.set_cons_zero, List.set_cons_succ]
        refine wpAnyG_pure (v := ?v11) 11 rfl (by kernel_rfl) (by kernel_rfl) (by kernel_rfl) (by kernel_rfl) (fun _ _ _ h => h) (Or.inl ⟨by rfl, ?h11⟩) (fun _ => bl_alloc hcur1 _) (fun _ => ?r11)
        case h11 => (intro w _; go_simp; try with_reducible rfl)
        try simp only [Act.put, List.getElem_toArray, List.getElem_cons_zero, List.getElem_cons_succ, List.setIfInBounds_toArray, List.set_cons_zero, List.set_cons_succ]
        refine wpAnyG_done (by kernel_rfl) ?_ _
        refine then_name (fun W => Box W w2.heap.size #[.string (opS s2.1.op), .string (strOfNums s2.1.sq), .slice q d.length c] 35 ∧ OwnX W wr.heap.size v2 xs2 ∧ Below wr.heap.size wr W) ⟨?_, ?_, ?_⟩ ?_
        · exact Box.new _ _ _ rfl
        · exact (m2.kept ((Below.refl _ _).alloc (Nat.le_refl _) _)).weaken (Nat.le_refl _)
        · exact bl_alloc hcur1 _
        clear hbl1 hcur1
        intro W ⟨hZ, m3, hB⟩
        have hX : Box W w.heap.size #[.string (opS s1.op), .string (strOfNums s1.sq), .slice q d.length c] 35 := Box.past hB hbx
        have hX1 : Box W (w.heap.size + 1) #[.string ⟨#[]⟩, .string ⟨#[]⟩, .slice none 0 0] 35 := Box.past hB hbr
        clear y1 y2
        have y1 := Box.cell hX
        have y2 := Box.free hX
        have y4 := Box.lt hX
        have x1 := Box.cell hZ
        have x2 := Box.free hZ
        have x3 := Box.lt hZ
        have hb3 := Bar3 w.heap.size W (.string (opS s2.1.op)) (.string (strOfNums s2.1.sq)) (.slice q d.length c)
        have hX2 := set3 hX (.string (opS s2.1.op)) (.string (strOfNums s2.1.sq)) (.slice q d.length c)
        have hX3 := Box.bar hX1 hb3 (by omega)
        have k3 := (k2.kept hB).bar hb3 hA1
        have m4 := m3.bar hb3 (by omega)
        have hs2 := len_fst m1
        have hwsz := hb3.size
        have hWs := hB.size
        have hbs := hbar.size
        go_wp2_with (at_builtin; refine wpList_appX rfl _ _ rfl w1.heap.size _ v2 xs xs2 k3 (m4.weaken hbar.size) (fun g hg => fun e => by have := (k2.lt g e).2; have := (m3.plt g hg).1; omega) rfl rfl (by omega) (by omega) ?_; intro v' w3 hown hgr hwh)
        go_roundw
        case rel =>
          refine ⟨k + 1, by omega, by go_num, xs ++ xs2, ?_, hown, ?_, ?_, ?_⟩
          · rw [HSN.out, List.map_append, hk1, m1]
          · exact ((hbar.below hB).trans hb3).app hgr (fun g e => (k2.lt g e).1)
          · rw [HSN.out]; exact (hgr.block _ hX2.lt (fun e => by have := (k2.lt _ e.symm).1; omega)).trans hX2
          · exact (hgr.block _ hX3.lt (fun e => by have := (k2.lt _ e.symm).1; omega)).trans hX3
        case measure => simp [intOf]; omega
      · have hcur : Below wr.heap.size wr (wr.drew.alloc (.cells #[.string ⟨#[]⟩, .string ⟨#[]⟩, .slice none 0 0] 35)) := bl_alloc (Below.refl _ _).drew _
        refine wpOp_step rfl (fun K hK => ?_)
        go_simp
        refine hK _ _ ⟨fun _ => hcur, ?_⟩
        clear hK K
        try simp only [Act.put, List.getElem_toArray, List.getElem_cons_zero, List.getElem_cons_succ, List.setIfInBounds_toArray, List.set_cons_zero, List.set_cons_succ]

        refine wpAnyG_one 5 rfl (by kernel_rfl) ?_
        refine wpOp_step rfl (fun K hK => ?_)
        go_simp
        (with_reducible refine (cS _).mono ?_)
        rintro e w2 ⟨v2, xs2, rfl, m1, m2, hbl1⟩
        have hcur1 : Below wr.heap.size wr w2 := bl_trans hcur hbl1
        go_simp
        refine hK _ _ ⟨fun _ => hcur1, ?_⟩
        clear hK K
        try simp only [Act.put, List.getElem_toArray, List.getElem_cons_zero, List.getElem_cons_succ, List.setIfInBounds_toArray, List.set_cons_zero, List.set_cons_succ]
        have hbz := (hbl1.block wr.heap.size (by simp)).trans (Box.new wr.drew #[.string ⟨#[]⟩, .string ⟨#[]⟩, .slice none 0 0] 35 (b := wr.heap.size) rfl)
        have z3 := Box.cell hbz
        have z4 := Box.free hbz
        have z5 := Box.lt hbz
        refine wpAnyG_pure (v := ?v6b) 6 rfl (by kernel_rfl) (by kernel_rfl) (by kernel_rfl) (by kernel_rfl) (fun _ _ _ h => h) (Or.inl ⟨by rfl, ?h6b⟩) (fun _ => hcur1) (fun _ => ?r6b)
        case h6b => (intro w _; go_simp; try with_reducible rfl)
        try simp only [Act.put, List.getElem_toArray, List.getElem_cons_zero, List.getElem_cons_succ, List.setIfInBounds_toArray, List.set_cons_zero, List.set_cons_succ]
        refine wpAnyG_pure (v := ?v7b) 7 rfl (by kernel_rfl) (by kernel_rfl) (by kernel_rfl) (by kernel_rfl) (fun _ _ _ h => h) (Or.inl ⟨by rfl, ?h7b⟩) (fun _ => hcur1) (fun _ => ?r7b)
        case h7b => (intro w _; go_simp; try with_reducible rfl)
        try simp only [Act.put, List.getElem_toArray, List.getElem_cons_zero, List.getElem_cons_succ, List.setIfInBounds_toArray, List.set_cons_zero, List.set_cons_succ]
        refine wpAnyG_pure (v := ?v8b) 8 rfl (by kernel_rfl) (by kernel_rfl) (by kernel_rfl) (by kernel_rfl) (fun _ _ _ h => h) (Or.inl ⟨by rfl, ?h8b⟩) (fun _ => hcur1) (fun _ => ?r8b)
        case h8b => (intro w _; go_simp; try with_reducible rfl)
        try simp only [Act.put, List.getElem_toArray, List.getElem_cons_zero, List.getElem_cons_succ, List.setIfInBounds_toArray, List.set_cons_zero, List.set_cons_succ]
        refine wpAnyG_one 10 rfl (by kernel_rfl) ?_
        refine wpOp_step rfl (fun K hK => ?_)
        go_simp
        refine hK _ _ ⟨fun _ => Bar.to_below hcur1 (Bar3 _ _ _ _ _) (Nat.le_refl _), ?_⟩
        clear hK K
        try simp only [Act.put, List.getElem_toArray, List.getElem_cons_zero, List.getElem_cons_succ, List.setIfInBounds_toArray, List.set_cons_zero, List.set_cons_succ]
        refine wpAnyG_pure (v := ?v11b) 11 rfl (by kernel_rfl) (by kernel_rfl) (by kernel_rfl) (by kernel_rfl) (fun _ _ _ h => h) (Or.inl ⟨by rfl, ?h11b⟩) (fun _ => Bar.to_below hcur1 (Bar3 _ _ _ _ _) (Nat.le_refl _)) (fun _ => ?r11b)
        case h11b => (intro w _; go_simp; try with_reducible rfl)
        try simp only [Act.put, List.getElem_toArray, List.getElem_cons_zero, List.getElem_cons_succ, List.setIfInBounds_toArray, List.set_cons_zero, List.set_cons_succ]
        have hzb : Bar wr.heap.size w2 (((w2.setCell ⟨wr.heap.size, 0, none⟩ (.string (opS s2.1.op))).setCell ⟨wr.heap.size, 1, none⟩ (.string (strOfNums s2.1.sq))).setCell ⟨wr.heap.size, 2, none⟩ (.slice q d.length c)) := Bar3 _ _ _ _ _
        refine wpAnyG_done (by kernel_rfl) ?_ _
        refine then_name (fun W => Box W wr.heap.size #[.string (opS s2.1.op), .string (strOfNums s2.1.sq), .slice q d.length c] 35 ∧ OwnX W wr.heap.size v2 xs2 ∧ Below wr.heap.size wr W) ⟨?_, ?_, ?_⟩ ?_
        · exact set3 hbz _ _ _
        · exact (m2.bar hzb (by simp)).weaken (by simp)
        · exact Bar.to_below hcur1 hzb (Nat.le_refl _)
        clear hbl1 hcur1 z3 z4 z5 hbz hzb
        intro W ⟨hZ, m3, hB⟩
        have hX : Box W w.heap.size #[.string (opS s1.op), .string (strOfNums s1.sq), .slice q d.length c] 35 := Box.past hB hbx
        have hX1 : Box W (w.heap.size + 1) #[.string ⟨#[]⟩, .string ⟨#[]⟩, .slice none 0 0] 35 := Box.past hB hbr
        clear y1 y2
        have y1 := Box.cell hX
        have y2 := Box.free hX
        have y4 := Box.lt hX
        have x1 := Box.cell hZ
        have x2 := Box.free hZ
        have x3 := Box.lt hZ
        have hb3 := Bar3 w.heap.size W (.string (opS s2.1.op)) (.string (strOfNums s2.1.sq)) (.slice q d.length c)
        have hX2 := set3 hX (.string (opS s2.1.op)) (.string (strOfNums s2.1.sq)) (.slice q d.length c)
        have hX3 := Box.bar hX1 hb3 (by omega)
        have k3 := (k2.kept hB).bar hb3 hA1
        have m4 := m3.bar hb3 (by omega)
        have hs2 := len_fst m1
        have hwsz := hb3.size
        have hWs := hB.size
        have hbs := hbar.size
        go_wp2_with (at_builtin; refine wpList_appX rfl _ _ rfl w1.heap.size _ v2 xs xs2 k3 (m4.weaken hbar.size) (fun g hg => fun e => by have := (k2.lt g e).2; have := (m3.plt g hg).1; omega) rfl rfl (by omega) (by omega) ?_; intro v' w3 hown hgr hwh)
        go_roundw
        case rel =>
          refine ⟨k + 1, by omega, by go_num, xs ++ xs2, ?_, hown, ?_, ?_, ?_⟩
          · rw [HSN.out, List.map_append, hk1, m1]
          · exact ((hbar.below hB).trans hb3).app hgr (fun g e => (k2.lt g e).1)
          · rw [HSN.out]; exact (hgr.block _ hX2.lt (fun e => by have := (k2.lt _ e.symm).1; omega)).trans hX2
          · exact (hgr.block _ hX3.lt (fun e => by have := (k2.lt _ e.symm).1; omega)).trans hX3
        case measure => simp [intOf]; omega
    · obtain rfl : k = rs.length := by omega
      rw [List.take_length] at hk1 hbx y1
      have hd2 := (rrun_ok rs (m := 0) (s := ⟨0, [], d⟩) ⟨Nat.zero_le _, by simp, Nat.zero_le _⟩).2
      generalize rsRun ⟨0, [], d⟩ rs = s2 at *
      have hlr := Box.lt hbr
      have x1 := Box.cell hbr
      have x2 := Box.free hbr
      go_wp2_with fail
      have yE := set3 hbr (.string (opS s2.1.op)) (.string (strOfNums s2.1.sq)) (.slice q d.length c)
      have yEl := yE.lt
      have yB := Bar3 (w.heap.size + 1) wr (.string (opS s2.1.op)) (.string (strOfNums s2.1.sq)) (.slice q d.length c)
      refine ret_row_tmp (n := 3) rfl rfl Try.underlying35 rfl (by kernel_rfl) rfl ⟨_, by simp (maxDischargeDepth := 6) [go_sem, Box.row yE, yEl] <;> rfl, rfl, ?_⟩
      have hfin := Bar.to_below (Bar.to_below (bl_trans hW1 hb1) hbar (Nat.le_refl _)) yB (by omega)
      rw [← show s2.1.d = d from hd2] at *
      exact ⟨q, c, _, xs, rfl, hk1, (k2.bar yB (by omega)).weaken (by omega), hfin⟩

end Go.Proofs.Ytpkkfcfkhiaggaa
