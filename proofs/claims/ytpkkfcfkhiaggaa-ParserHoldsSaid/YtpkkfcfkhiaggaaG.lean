/- parser: a rune of a control sequence. Printed by mk_g.py. -/
import Derived.Test.YtpkkfcfkhiaggaaF
import Derived.Test.YtpkkfcfkhiaggaaLate
import Derived.Deep.CutBlock
import Derived.Deep.DeepCutAuto
import Derived.Outline
set_option linter.unusedSimpArgs false
set_option linter.unusedVariables false
set_option linter.unnecessarySimpa false
namespace Go.Proofs.Ytpkkfcfkhiaggaa
open Go.RowKit
open Go.Proofs.Ytpkkfcfkhiaggaa.Pm (fineR addB addO bldQ refL bldC BldV bldC_len)

/-- The action that a literal holds, with parameters, when the parser has gone on. -/
theorem stepd_lit2 {D : Nat} {X : Nat → Prop} {w w0 w1 : World} {q : Ps} {a : Ac} {pv : Value} (hw : Below w.heap.size w w0) (hD : D < w.heap.size) (ha : okA a) (ho : Own w0 w.heap.size 3 .i64 pv a.l) (hb : Bar D (w0.alloc (.cells #[.int .i64 a.k, .int .i32 a.r, .int .i32 a.p, .string (strOfNums a.i), pv, .string (strOfNums a.t)] 52)) w1) (hp : PV w1 D (fun g => X g ∨ (PB [(a, pv)] g ∨ g = w0.heap.size)) q) : Stepd D X w (q, [a]) (.returned (.slice (some ⟨w0.heap.size, 0, none⟩) 1 1)) w1 :=
  ⟨_, [(a, pv)], rfl, rfl, (OwnX.lit w0 a pv w.heap.size _ rfl hw.size ho ha).bar hb hD, (bar_of (bl_alloc hw _)).trans hb, hp.mono (fun g h => h.elim .inl (fun h => .inr (h.elim .inl (fun h => .inr (by injection h with h; exact h.symm)))))⟩
theorem digB_ok (ws : List Int) (r : Int) (h : ∀ x ∈ ws, -1 ≤ x ∧ x ≤ 9999) (hr : 48 ≤ r ∧ r ≤ 57) : ∀ x ∈ Pm.digB ws r, -1 ≤ x ∧ x ≤ 9999 := by
  intro x hx
  unfold Pm.digB at hx
  rcases List.mem_or_eq_of_mem_set hx with hx | hx
  · exact h x hx
  · rw [hx]
    generalize ws.getD (ws.length - 1) 0 = y
    omega
theorem addB_ok (ws : List Int) (ov : Bool) (r : Int) (h : ∀ x ∈ ws, -1 ≤ x ∧ x ≤ 9999) (hr : fineR r = true) : ∀ x ∈ addB ws ov r, -1 ≤ x ∧ x ≤ 9999 := by
  have hs : ∀ x ∈ (if ws = [] then [-1] else ws : List Int), -1 ≤ x ∧ x ≤ 9999 := by
    intro x hx
    split at hx
    · rw [List.mem_singleton.1 hx]; omega
    · exact h x hx
  have hf := (fine_iff r).1 hr
  unfold addB
  generalize (if ws = [] then [-1] else ws : List Int) = zs at hs ⊢
  split
  · intro x hx
    unfold Pm.openB at hx
    split at hx
    · exact hs x hx
    · rcases List.mem_append.1 hx with hx | hx
      · exact hs x hx
      · rw [List.mem_singleton.1 hx]; omega
  · split
    · exact hs
    · exact digB_ok _ r hs (by omega)
theorem PVx.added {w w' : World} {D : Nat} {X : Nat → Prop} {p : Ps} {bv tv : Value} {m lo hi : Int} {ls : List Int} (h : PVx w D X p bv tv m lo hi ls) (hb : Bar D w w') {ws : List Int} {ov : Bool} (hl : BldV w' D 31 [bv, .int .i64 m, .int .u8 lo, .int .u8 hi, .int .i64 p.st, .int .i32 p.pf, .string (strOfNums p.it)] [tv] ws ov) (hok : ∀ x ∈ ws, -1 ≤ x ∧ x ≤ 9999) : PV w' D X { p with ws := ws, ov := ov } := by
  obtain ⟨ls2, hl2, hw2, ht2, hx2⟩ := hl
  exact ⟨bv, tv, m, lo, hi, ls2, { h with box := ⟨hl2, hx2⟩, rb := rd_bar h.rb (fun e => (h.ob D e).1 rfl) hb, rt := rd_bar h.rt (fun e => (h.ot D e).1 rfl) hb, lw := hw2, tk := ht2, ok := hok }⟩
set_option maxHeartbeats 4000000 in
set_option maxRecDepth 100000 in
theorem control_any (D : Nat) (X : Nat → Prop) (p : Ps) (r : Int) (w : World) (hpv : PV w D X p) : Calls Try.prog 41 #[.pointer (some ⟨D, 0, none⟩), .int .i32 r] w (Stepd D X w (conP p r)) := by
  obtain ⟨bv, tv, m, lo, hi, ls, h⟩ := hpv
  have hpv : PV w D X p := ⟨bv, tv, m, lo, hi, ls, h⟩
  obtain ⟨c4, c5, c6, c25, cf, cl⟩ := h.box.pf
  have hs : (strOfNums p.it).size = p.it.length := strOf_size _
  unfold conP
  by_cases hout : ¬ (32 ≤ r ∧ r ≤ 126)
  · rw [if_pos hout]
    have cB1 : ∀ W, Calls Try.prog 36 #[.int .i32 r, .int .i32 32, .int .i32 126] W fun e w' => e = .returned (.bool false) ∧ W = w' := fun W => by have k := between_any r 32 126 W; rw [show decide ((32 : Int) ≤ r ∧ r ≤ 126) = false by rw [decide_eq_false_iff_not]; omega] at k; exact k
    have cG : ∀ v, Calls Try.prog 38 #[.pointer (some ⟨D, 0, none⟩), v] w _ := fun v => ground_any D X p v w hpv
    go_enter Try.func41, Try.ntmps41
    go_wp2_with (first | (go_at_call 36; (with_reducible refine (cB1 _).mono ?_); rintro e w1 ⟨rfl, rfl⟩) | (go_at_call 38; (with_reducible refine (cG _).mono ?_); rintro e w2 ⟨rfl, hb1, hp1⟩))
    all_goals
      go_ret
      exact stepd_nil hb1 hp1
  rw [if_neg hout]
  have cB1 : ∀ W, Calls Try.prog 36 #[.int .i32 r, .int .i32 32, .int .i32 126] W fun e w' => e = .returned (.bool true) ∧ W = w' := fun W => by have k := between_any r 32 126 W; rw [show decide ((32 : Int) ≤ r ∧ r ≤ 126) = true by rw [decide_eq_true_eq]; exact Decidable.not_not.1 hout] at k; exact k
  by_cases h64 : 64 ≤ r
  · rw [if_pos h64]
    have cB2 : ∀ W, Calls Try.prog 36 #[.int .i32 r, .int .i32 64, .int .i32 126] W fun e w' => e = .returned (.bool true) ∧ W = w' := fun W => by have k := between_any r 64 126 W; rw [show decide ((64 : Int) ≤ r ∧ r ≤ 126) = true by rw [decide_eq_true_eq]; omega] at k; exact k
    by_cases h6 : p.st = 6
    · rw [if_pos (.inl h6)]
      rw [h6] at c4
      have cG : ∀ v, Calls Try.prog 38 #[.pointer (some ⟨D, 0, none⟩), v] w _ := fun v => ground_any D X p v w hpv
      go_enter Try.func41, Try.ntmps41
      go_wp2_with (first | (go_at_call 36; (with_reducible refine (cB1 _).mono ?_); rintro e w1 ⟨rfl, rfl⟩) | (go_at_call 36; (with_reducible refine (cB2 _).mono ?_); rintro e w1 ⟨rfl, rfl⟩) | (go_at_call 38; (with_reducible refine (cG _).mono ?_); rintro e w2 ⟨rfl, hb1, hp1⟩))
      all_goals
        go_ret
        exact stepd_nil hb1 hp1
    by_cases hl : 2 < p.it.length
    · rw [if_pos (.inr hl)]
      have hlI : (2 : Int) < (p.it.length : Int) := by omega
      have cG : ∀ v, Calls Try.prog 38 #[.pointer (some ⟨D, 0, none⟩), v] w _ := fun v => ground_any D X p v w hpv
      go_enter Try.func41, Try.ntmps41
      go_wp2_with (first | (go_at_call 36; (with_reducible refine (cB1 _).mono ?_); rintro e w1 ⟨rfl, rfl⟩) | (go_at_call 36; (with_reducible refine (cB2 _).mono ?_); rintro e w1 ⟨rfl, rfl⟩) | (go_at_call 38; (with_reducible refine (cG _).mono ?_); rintro e w2 ⟨rfl, hb1, hp1⟩))
      all_goals
        go_ret
        exact stepd_nil hb1 hp1
    · rw [if_neg (show ¬ (p.st = 6 ∨ 2 < p.it.length) from fun k => k.elim h6 hl)]
      have hlI : ¬ (2 : Int) < (p.it.length : Int) := by omega
      have cL : ∀ W, Below w.heap.size w W → Calls Try.prog 63 #[.pointer (some ⟨D, 7, none⟩)] W (RetOwn W 3 .i64 p.ws) := fun W hW => Pm.list_any D 31 [bv, .int .i64 m, .int .u8 lo, .int .u8 hi, .int .i64 p.st, .int .i32 p.pf, .string (strOfNums p.it)] [tv] p.ws p.ov W (h.past hW).bld
      have b6 : (p.st == 6) = false := by rw [beq_eq_false_iff_ne]; exact h6
      by_cases e3 : p.st = 3
      · rw [e3] at c4
        go_enter Try.func41, Try.ntmps41
        go_upto_region 8 with (first | (go_at_call 36; (with_reducible refine (cB1 _).mono ?_); rintro e w1 ⟨rfl, rfl⟩) | (go_at_call 36; (with_reducible refine (cB2 _).mono ?_); rintro e w1 ⟨rfl, rfl⟩))
        have hS : Below w.heap.size w w.drew := (Below.refl _ _).drew
        refine wp_region_late (fun Z => Below w.heap.size w Z) [14] (by kernel_rfl) ?_
        refine wpAnyG_pure (v := ?v0a) 0 rfl (by kernel_rfl) (by kernel_rfl) (by kernel_rfl) (by kernel_rfl) (fun _ _ _ h => h) (Or.inl ⟨by rfl, ?h0a⟩) (fun _ => hS) (fun _ => ?r0a)
        case h0a => (intro w _; go_simp; try with_reducible rfl)
        try simp only [Act.put, List.getElem_toArray, List.getElem_cons_zero, List.getElem_cons_succ, List.setIfInBounds_toArray, List.set_cons_zero, List.set_cons_succ]
        refine wpAnyG_pure (v := ?v1a) 1 rfl (by kernel_rfl) (by kernel_rfl) (by kernel_rfl) (by kernel_rfl) (fun _ _ _ h => h) (Or.inl ⟨by rfl, ?h1a⟩) (fun _ => hS) (fun _ => ?r1a)
        case h1a => (intro w _; go_simp; try with_reducible rfl)
        try simp only [Act.put, List.getElem_toArray, List.getElem_cons_zero, List.getElem_cons_succ, List.setIfInBounds_toArray, List.set_cons_zero, List.set_cons_succ]
        refine wpAnyG_pure (v := ?v2a) 2 rfl (by kernel_rfl) (by kernel_rfl) (by kernel_rfl) (by kernel_rfl) (fun _ _ _ h => h) (Or.inl ⟨by rfl, ?h2a⟩) (fun _ => hS) (fun _ => ?r2a)
        case h2a => (intro w _; go_simp; try with_reducible rfl)
        try simp only [Act.put, List.getElem_toArray, List.getElem_cons_zero, List.getElem_cons_succ, List.setIfInBounds_toArray, List.set_cons_zero, List.set_cons_succ]
        refine wpAnyG_pure (v := ?v3a) 3 rfl (by kernel_rfl) (by kernel_rfl) (by kernel_rfl) (by kernel_rfl) (fun _ _ _ h => h) (Or.inl ⟨by rfl, ?h3a⟩) (fun _ => hS) (fun _ => ?r3a)
        case h3a => (intro w _; go_simp; try with_reducible rfl)
        try simp only [Act.put, List.getElem_toArray, List.getElem_cons_zero, List.getElem_cons_succ, List.setIfInBounds_toArray, List.set_cons_zero, List.set_cons_succ]
        refine wpAnyG_load (v := ?v4a) 4 rfl (by kernel_rfl) (by kernel_rfl) (by kernel_rfl) (by kernel_rfl) (fun _ _ _ h => h) (Or.inl ⟨by rfl, ?h4a⟩) hS (fun _ => ?r4a)
        case h4a => (intro Z hZ; obtain ⟨z1, z2⟩ := bcell hZ; go_simp; try with_reducible rfl)
        try simp only [Act.put, List.getElem_toArray, List.getElem_cons_zero, List.getElem_cons_succ, List.setIfInBounds_toArray, List.set_cons_zero, List.set_cons_succ]
        refine wpAnyG_pure (v := ?v5a) 5 rfl (by kernel_rfl) (by kernel_rfl) (by kernel_rfl) (by kernel_rfl) (fun _ _ _ h => h) (Or.inl ⟨by rfl, ?h5a⟩) (fun _ => hS) (fun _ => ?r5a)
        case h5a => (intro w _; go_simp; try with_reducible rfl)
        try simp only [Act.put, List.getElem_toArray, List.getElem_cons_zero, List.getElem_cons_succ, List.setIfInBounds_toArray, List.set_cons_zero, List.set_cons_succ]
        refine wpAnyG_pure (v := ?v6a) 6 rfl (by kernel_rfl) (by kernel_rfl) (by kernel_rfl) (by kernel_rfl) (fun _ _ _ h => h) (Or.inl ⟨by rfl, ?h6a⟩) (fun _ => hS) (fun _ => ?r6a)
        case h6a => (intro w _; go_simp; try with_reducible rfl)
        try simp only [Act.put, List.getElem_toArray, List.getElem_cons_zero, List.getElem_cons_succ, List.setIfInBounds_toArray, List.set_cons_zero, List.set_cons_succ]
        refine wpAnyG_pure (v := ?v7a) 7 rfl (by kernel_rfl) (by kernel_rfl) (by kernel_rfl) (by kernel_rfl) (fun _ _ _ h => h) (Or.inl ⟨by rfl, ?h7a⟩) (fun _ => hS) (fun _ => ?r7a)
        case h7a => (intro w _; go_simp; try with_reducible rfl)
        try simp only [Act.put, List.getElem_toArray, List.getElem_cons_zero, List.getElem_cons_succ, List.setIfInBounds_toArray, List.set_cons_zero, List.set_cons_succ]
        refine wpAnyG_pure (v := ?v9a) 9 rfl (by kernel_rfl) (by kernel_rfl) (by kernel_rfl) (by kernel_rfl) (fun _ _ _ h => h) (Or.inl ⟨by rfl, ?h9a⟩) (fun _ => hS) (fun _ => ?r9a)
        case h9a => (intro w _; go_simp; try with_reducible rfl)
        try simp only [Act.put, List.getElem_toArray, List.getElem_cons_zero, List.getElem_cons_succ, List.setIfInBounds_toArray, List.set_cons_zero, List.set_cons_succ]
        refine wpAnyG_pure (v := ?v10a) 10 rfl (by kernel_rfl) (by kernel_rfl) (by kernel_rfl) (by kernel_rfl) (fun _ _ _ h => h) (Or.inl ⟨by rfl, ?h10a⟩) (fun _ => hS) (fun _ => ?r10a)
        case h10a => (intro w _; go_simp; try with_reducible rfl)
        try simp only [Act.put, List.getElem_toArray, List.getElem_cons_zero, List.getElem_cons_succ, List.setIfInBounds_toArray, List.set_cons_zero, List.set_cons_succ]
        refine wpAnyG_pure (v := ?v11a) 11 rfl (by kernel_rfl) (by kernel_rfl) (by kernel_rfl) (by kernel_rfl) (fun _ _ _ h => h) (Or.inl ⟨by rfl, ?h11a⟩) (fun _ => hS) (fun _ => ?r11a)
        case h11a => (intro w _; go_simp; try with_reducible rfl)
        try simp only [Act.put, List.getElem_toArray, List.getElem_cons_zero, List.getElem_cons_succ, List.setIfInBounds_toArray, List.set_cons_zero, List.set_cons_succ]
        refine wpAnyG_load (v := ?v12a) 12 rfl (by kernel_rfl) (by kernel_rfl) (by kernel_rfl) (by kernel_rfl) (fun _ _ _ h => h) (Or.inl ⟨by rfl, ?h12a⟩) hS (fun _ => ?r12a)
        case h12a => (intro Z hZ; obtain ⟨z1, z2⟩ := bcell hZ; go_simp; try with_reducible rfl)
        try simp only [Act.put, List.getElem_toArray, List.getElem_cons_zero, List.getElem_cons_succ, List.setIfInBounds_toArray, List.set_cons_zero, List.set_cons_succ]
        refine wpAnyG_pure (v := ?v13a) 13 rfl (by kernel_rfl) (by kernel_rfl) (by kernel_rfl) (by kernel_rfl) (fun _ _ _ h => h) (Or.inl ⟨by rfl, ?h13a⟩) (fun _ => hS) (fun _ => ?r13a)
        case h13a => (intro w _; go_simp; try with_reducible rfl)
        try simp only [Act.put, List.getElem_toArray, List.getElem_cons_zero, List.getElem_cons_succ, List.setIfInBounds_toArray, List.set_cons_zero, List.set_cons_succ]
        refine wpAnyG_one 8 rfl (by kernel_rfl) ?_
        refine wpOp_step rfl (fun K hK => ?_)
        go_simp
        with_reducible refine (cL _ hS).mono ?_
        rintro e w2 ⟨lv, rfl, hol, hbl⟩
        have hcur : Below w.heap.size w w2 := bl_trans hS hbl
        obtain ⟨ql, nl, hle⟩ := Rd.lits hol.rd
        subst hle
        go_simp
        refine hK _ _ ⟨fun _ => hcur, ?_⟩
        clear hK K
        try simp only [Act.put, List.getElem_toArray, List.getElem_cons_zero, List.getElem_cons_succ, List.setIfInBounds_toArray, List.set_cons_zero, List.set_cons_succ]
        refine wpAnyG_one 14 rfl (by kernel_rfl) ?_
        refine wpOp_step rfl (fun K hK => ?_)
        go_simp
        refine hK _ _ ⟨fun h => absurd (h 14 (by simp)) (by simp), ?_⟩
        clear hK K
        try simp only [Act.put, List.getElem_toArray, List.getElem_cons_zero, List.getElem_cons_succ, List.setIfInBounds_toArray, List.set_cons_zero, List.set_cons_succ]
        have hY : ∀ g, (PB [(coA p.pf p.ws p.it r, Value.slice ql p.ws.length nl)] g ∨ g = w2.heap.size) → w.heap.size ≤ g := by
          rintro g (⟨x, hx, e⟩ | e)
          rotate_left
          · rw [e]; exact hcur.size
          rw [List.mem_singleton.1 hx] at e
          exact Nat.le_trans hS.size (hol.block g e).1
        have hp2 := ((hpv.add hY).past hcur).past ((Below.refl _ _).alloc (Nat.le_refl _) (.cells #[.int .i64 4, .int .i32 r, .int .i32 p.pf, .string (strOfNums p.it), .slice ql p.ws.length nl, .string ⟨#[]⟩] 52))
        refine wpAnyG_one 15 rfl (by kernel_rfl) ?_
        refine wpOp_step rfl (fun K hK => ?_)
        go_simp
        refine hK _ _ ⟨fun h => absurd (h 14 (by simp)) (by simp), ?_⟩
        clear hK K
        try simp only [Act.put, List.getElem_toArray, List.getElem_cons_zero, List.getElem_cons_succ, List.setIfInBounds_toArray, List.set_cons_zero, List.set_cons_succ]
        refine wpAnyG_one 16 rfl (by kernel_rfl) ?_
        refine wpOp_step rfl (fun K hK => ?_)
        go_simp
        with_reducible refine (ground_any D (fun g => X g ∨ (PB [(coA p.pf p.ws p.it r, Value.slice ql p.ws.length nl)] g ∨ g = w2.heap.size)) p _ _ hp2).mono ?_
        rintro e w3 ⟨rfl, hb3, hp3⟩
        go_simp
        refine hK _ _ ⟨fun h => absurd (h 14 (by simp)) (by simp), ?_⟩
        clear hK K
        try simp only [Act.put, List.getElem_toArray, List.getElem_cons_zero, List.getElem_cons_succ, List.setIfInBounds_toArray, List.set_cons_zero, List.set_cons_succ]
        refine wpAnyG_one 17 rfl (by kernel_rfl) ?_
        refine wpOp_step rfl (fun K hK => ?_)
        go_simp
        refine hK _ _ ⟨fun h => absurd (h 14 (by simp)) (by simp), ?_⟩
        clear hK K
        try simp only [Act.put, List.getElem_toArray, List.getElem_cons_zero, List.getElem_cons_succ, List.setIfInBounds_toArray, List.set_cons_zero, List.set_cons_succ]
        refine wpAnyG_done (by kernel_rfl) ?_ _
        go_wp2_with fail
        go_ret
        exact stepd_lit2 (a := coA p.pf p.ws p.it r) hcur h.box.2.lt ⟨h.ib, by simp [coA]⟩ (hol.weaken hS.size) hb3 hp3
      · have b3 : (p.st == 3) = false := by rw [beq_eq_false_iff_ne]; exact e3
        go_enter Try.func41, Try.ntmps41
        go_upto_region 8 with (first | (go_at_call 36; (with_reducible refine (cB1 _).mono ?_); rintro e w1 ⟨rfl, rfl⟩) | (go_at_call 36; (with_reducible refine (cB2 _).mono ?_); rintro e w1 ⟨rfl, rfl⟩))
        have hS : Below w.heap.size w w.drew := (Below.refl _ _).drew
        refine wp_region_late (fun Z => Below w.heap.size w Z) [14] (by kernel_rfl) ?_
        refine wpAnyG_pure (v := ?v0b) 0 rfl (by kernel_rfl) (by kernel_rfl) (by kernel_rfl) (by kernel_rfl) (fun _ _ _ h => h) (Or.inl ⟨by rfl, ?h0b⟩) (fun _ => hS) (fun _ => ?r0b)
        case h0b => (intro w _; go_simp; try with_reducible rfl)
        try simp only [Act.put, List.getElem_toArray, List.getElem_cons_zero, List.getElem_cons_succ, List.setIfInBounds_toArray, List.set_cons_zero, List.set_cons_succ]
        refine wpAnyG_pure (v := ?v1b) 1 rfl (by kernel_rfl) (by kernel_rfl) (by kernel_rfl) (by kernel_rfl) (fun _ _ _ h => h) (Or.inl ⟨by rfl, ?h1b⟩) (fun _ => hS) (fun _ => ?r1b)
        case h1b => (intro w _; go_simp; try with_reducible rfl)
        try simp only [Act.put, List.getElem_toArray, List.getElem_cons_zero, List.getElem_cons_succ, List.setIfInBounds_toArray, List.set_cons_zero, List.set_cons_succ]
        refine wpAnyG_pure (v := ?v2b) 2 rfl (by kernel_rfl) (by kernel_rfl) (by kernel_rfl) (by kernel_rfl) (fun _ _ _ h => h) (Or.inl ⟨by rfl, ?h2b⟩) (fun _ => hS) (fun _ => ?r2b)
        case h2b => (intro w _; go_simp; try with_reducible rfl)
        try simp only [Act.put, List.getElem_toArray, List.getElem_cons_zero, List.getElem_cons_succ, List.setIfInBounds_toArray, List.set_cons_zero, List.set_cons_succ]
        refine wpAnyG_pure (v := ?v3b) 3 rfl (by kernel_rfl) (by kernel_rfl) (by kernel_rfl) (by kernel_rfl) (fun _ _ _ h => h) (Or.inl ⟨by rfl, ?h3b⟩) (fun _ => hS) (fun _ => ?r3b)
        case h3b => (intro w _; go_simp; try with_reducible rfl)
        try simp only [Act.put, List.getElem_toArray, List.getElem_cons_zero, List.getElem_cons_succ, List.setIfInBounds_toArray, List.set_cons_zero, List.set_cons_succ]
        refine wpAnyG_load (v := ?v4b) 4 rfl (by kernel_rfl) (by kernel_rfl) (by kernel_rfl) (by kernel_rfl) (fun _ _ _ h => h) (Or.inl ⟨by rfl, ?h4b⟩) hS (fun _ => ?r4b)
        case h4b => (intro Z hZ; obtain ⟨z1, z2⟩ := bcell hZ; go_simp; try with_reducible rfl)
        try simp only [Act.put, List.getElem_toArray, List.getElem_cons_zero, List.getElem_cons_succ, List.setIfInBounds_toArray, List.set_cons_zero, List.set_cons_succ]
        refine wpAnyG_pure (v := ?v5b) 5 rfl (by kernel_rfl) (by kernel_rfl) (by kernel_rfl) (by kernel_rfl) (fun _ _ _ h => h) (Or.inl ⟨by rfl, ?h5b⟩) (fun _ => hS) (fun _ => ?r5b)
        case h5b => (intro w _; go_simp; try with_reducible rfl)
        try simp only [Act.put, List.getElem_toArray, List.getElem_cons_zero, List.getElem_cons_succ, List.setIfInBounds_toArray, List.set_cons_zero, List.set_cons_succ]
        refine wpAnyG_pure (v := ?v6b) 6 rfl (by kernel_rfl) (by kernel_rfl) (by kernel_rfl) (by kernel_rfl) (fun _ _ _ h => h) (Or.inl ⟨by rfl, ?h6b⟩) (fun _ => hS) (fun _ => ?r6b)
        case h6b => (intro w _; go_simp; try with_reducible rfl)
        try simp only [Act.put, List.getElem_toArray, List.getElem_cons_zero, List.getElem_cons_succ, List.setIfInBounds_toArray, List.set_cons_zero, List.set_cons_succ]
        refine wpAnyG_pure (v := ?v7b) 7 rfl (by kernel_rfl) (by kernel_rfl) (by kernel_rfl) (by kernel_rfl) (fun _ _ _ h => h) (Or.inl ⟨by rfl, ?h7b⟩) (fun _ => hS) (fun _ => ?r7b)
        case h7b => (intro w _; go_simp; try with_reducible rfl)
        try simp only [Act.put, List.getElem_toArray, List.getElem_cons_zero, List.getElem_cons_succ, List.setIfInBounds_toArray, List.set_cons_zero, List.set_cons_succ]
        refine wpAnyG_pure (v := ?v9b) 9 rfl (by kernel_rfl) (by kernel_rfl) (by kernel_rfl) (by kernel_rfl) (fun _ _ _ h => h) (Or.inl ⟨by rfl, ?h9b⟩) (fun _ => hS) (fun _ => ?r9b)
        case h9b => (intro w _; go_simp; try with_reducible rfl)
        try simp only [Act.put, List.getElem_toArray, List.getElem_cons_zero, List.getElem_cons_succ, List.setIfInBounds_toArray, List.set_cons_zero, List.set_cons_succ]
        refine wpAnyG_pure (v := ?v10b) 10 rfl (by kernel_rfl) (by kernel_rfl) (by kernel_rfl) (by kernel_rfl) (fun _ _ _ h => h) (Or.inl ⟨by rfl, ?h10b⟩) (fun _ => hS) (fun _ => ?r10b)
        case h10b => (intro w _; go_simp; try with_reducible rfl)
        try simp only [Act.put, List.getElem_toArray, List.getElem_cons_zero, List.getElem_cons_succ, List.setIfInBounds_toArray, List.set_cons_zero, List.set_cons_succ]
        refine wpAnyG_pure (v := ?v11b) 11 rfl (by kernel_rfl) (by kernel_rfl) (by kernel_rfl) (by kernel_rfl) (fun _ _ _ h => h) (Or.inl ⟨by rfl, ?h11b⟩) (fun _ => hS) (fun _ => ?r11b)
        case h11b => (intro w _; go_simp; try with_reducible rfl)
        try simp only [Act.put, List.getElem_toArray, List.getElem_cons_zero, List.getElem_cons_succ, List.setIfInBounds_toArray, List.set_cons_zero, List.set_cons_succ]
        refine wpAnyG_load (v := ?v12b) 12 rfl (by kernel_rfl) (by kernel_rfl) (by kernel_rfl) (by kernel_rfl) (fun _ _ _ h => h) (Or.inl ⟨by rfl, ?h12b⟩) hS (fun _ => ?r12b)
        case h12b => (intro Z hZ; obtain ⟨z1, z2⟩ := bcell hZ; go_simp; try with_reducible rfl)
        try simp only [Act.put, List.getElem_toArray, List.getElem_cons_zero, List.getElem_cons_succ, List.setIfInBounds_toArray, List.set_cons_zero, List.set_cons_succ]
        refine wpAnyG_pure (v := ?v13b) 13 rfl (by kernel_rfl) (by kernel_rfl) (by kernel_rfl) (by kernel_rfl) (fun _ _ _ h => h) (Or.inl ⟨by rfl, ?h13b⟩) (fun _ => hS) (fun _ => ?r13b)
        case h13b => (intro w _; go_simp; try with_reducible rfl)
        try simp only [Act.put, List.getElem_toArray, List.getElem_cons_zero, List.getElem_cons_succ, List.setIfInBounds_toArray, List.set_cons_zero, List.set_cons_succ]
        refine wpAnyG_one 8 rfl (by kernel_rfl) ?_
        refine wpOp_step rfl (fun K hK => ?_)
        go_simp
        with_reducible refine (cL _ hS).mono ?_
        rintro e w2 ⟨lv, rfl, hol, hbl⟩
        have hcur : Below w.heap.size w w2 := bl_trans hS hbl
        obtain ⟨ql, nl, hle⟩ := Rd.lits hol.rd
        subst hle
        go_simp
        refine hK _ _ ⟨fun _ => hcur, ?_⟩
        clear hK K
        try simp only [Act.put, List.getElem_toArray, List.getElem_cons_zero, List.getElem_cons_succ, List.setIfInBounds_toArray, List.set_cons_zero, List.set_cons_succ]
        refine wpAnyG_one 14 rfl (by kernel_rfl) ?_
        refine wpOp_step rfl (fun K hK => ?_)
        go_simp
        refine hK _ _ ⟨fun h => absurd (h 14 (by simp)) (by simp), ?_⟩
        clear hK K
        try simp only [Act.put, List.getElem_toArray, List.getElem_cons_zero, List.getElem_cons_succ, List.setIfInBounds_toArray, List.set_cons_zero, List.set_cons_succ]
        have hY : ∀ g, (PB [(coA p.pf p.ws p.it r, Value.slice ql p.ws.length nl)] g ∨ g = w2.heap.size) → w.heap.size ≤ g := by
          rintro g (⟨x, hx, e⟩ | e)
          rotate_left
          · rw [e]; exact hcur.size
          rw [List.mem_singleton.1 hx] at e
          exact Nat.le_trans hS.size (hol.block g e).1
        have hp2 := ((hpv.add hY).past hcur).past ((Below.refl _ _).alloc (Nat.le_refl _) (.cells #[.int .i64 4, .int .i32 r, .int .i32 p.pf, .string (strOfNums p.it), .slice ql p.ws.length nl, .string ⟨#[]⟩] 52))
        refine wpAnyG_one 15 rfl (by kernel_rfl) ?_
        refine wpOp_step rfl (fun K hK => ?_)
        go_simp
        refine hK _ _ ⟨fun h => absurd (h 14 (by simp)) (by simp), ?_⟩
        clear hK K
        try simp only [Act.put, List.getElem_toArray, List.getElem_cons_zero, List.getElem_cons_succ, List.setIfInBounds_toArray, List.set_cons_zero, List.set_cons_succ]
        refine wpAnyG_one 16 rfl (by kernel_rfl) ?_
        refine wpOp_step rfl (fun K hK => ?_)
        go_simp
        with_reducible refine (ground_any D (fun g => X g ∨ (PB [(coA p.pf p.ws p.it r, Value.slice ql p.ws.length nl)] g ∨ g = w2.heap.size)) p _ _ hp2).mono ?_
        rintro e w3 ⟨rfl, hb3, hp3⟩
        go_simp
        refine hK _ _ ⟨fun h => absurd (h 14 (by simp)) (by simp), ?_⟩
        clear hK K
        try simp only [Act.put, List.getElem_toArray, List.getElem_cons_zero, List.getElem_cons_succ, List.setIfInBounds_toArray, List.set_cons_zero, List.set_cons_succ]
        refine wpAnyG_one 17 rfl (by kernel_rfl) ?_
        refine wpOp_step rfl (fun K hK => ?_)
        go_simp
        refine hK _ _ ⟨fun h => absurd (h 14 (by simp)) (by simp), ?_⟩
        clear hK K
        try simp only [Act.put, List.getElem_toArray, List.getElem_cons_zero, List.getElem_cons_succ, List.setIfInBounds_toArray, List.set_cons_zero, List.set_cons_succ]
        refine wpAnyG_done (by kernel_rfl) ?_ _
        go_wp2_with fail
        go_ret
        exact stepd_lit2 (a := coA p.pf p.ws p.it r) hcur h.box.2.lt ⟨h.ib, by simp [coA]⟩ (hol.weaken hS.size) hb3 hp3
  rw [if_neg h64]
  have cB2 : ∀ W, Calls Try.prog 36 #[.int .i32 r, .int .i32 64, .int .i32 126] W fun e w' => e = .returned (.bool false) ∧ W = w' := fun W => by have k := between_any r 64 126 W; rw [show decide ((64 : Int) ≤ r ∧ r ≤ 126) = false by rw [decide_eq_false_iff_not]; omega] at k; exact k
  by_cases h6 : p.st = 6
  · rw [if_pos h6]
    rw [h6] at c4
    go_enter Try.func41, Try.ntmps41
    go_wp2_with (first | (go_at_call 36; (with_reducible refine (cB1 _).mono ?_); rintro e w1 ⟨rfl, rfl⟩) | (go_at_call 36; (with_reducible refine (cB2 _).mono ?_); rintro e w1 ⟨rfl, rfl⟩))
    all_goals
      go_ret
      exact stepd_nil (Bar.refl _ _) hpv
  rw [if_neg h6]
  have b6 : (p.st == 6) = false := by rw [beq_eq_false_iff_ne]; exact h6
  by_cases h47 : r ≤ 47
  · rw [if_pos h47]
    have hin : 32 ≤ r ∧ r ≤ 47 := by omega
    have cB3 : ∀ W, Calls Try.prog 36 #[.int .i32 r, .int .i32 32, .int .i32 47] W fun e w' => e = .returned (.bool true) ∧ W = w' := fun W => by have k := between_any r 32 47 W; rw [show decide ((32 : Int) ≤ r ∧ r ≤ 47) = true by rw [decide_eq_true_eq]; omega] at k; exact k
    have cC : Calls Try.prog 62 #[.pointer (some ⟨D, 0, none⟩), .int .i32 r] (w.setCell ⟨D, 4, none⟩ (.int .i64 5)) _ := collect_any D X { p with st := 5 } r _ (hpv.setst 5) hin
    have hb0 : Bar D w (w.setCell ⟨D, 4, none⟩ (.int .i64 5)) := (Bar.refl D w).set _ _
    go_enter Try.func41, Try.ntmps41
    go_wp2_with (first | (go_at_call 36; (with_reducible refine (cB1 _).mono ?_); rintro e w1 ⟨rfl, rfl⟩) | (go_at_call 36; (with_reducible refine (cB2 _).mono ?_); rintro e w1 ⟨rfl, rfl⟩) | (go_at_call 36; (with_reducible refine (cB3 _).mono ?_); rintro e w1 ⟨rfl, rfl⟩) | (go_at_call 62; (with_reducible refine cC.mono ?_); rintro e w2 ⟨rfl, hb1, hp1⟩))
    all_goals
      go_ret
      exact stepd_nil (hb0.trans hb1) hp1
  rw [if_neg h47]
  have cB3 : ∀ W, Calls Try.prog 36 #[.int .i32 r, .int .i32 32, .int .i32 47] W fun e w' => e = .returned (.bool false) ∧ W = w' := fun W => by have k := between_any r 32 47 W; rw [show decide ((32 : Int) ≤ r ∧ r ≤ 47) = false by rw [decide_eq_false_iff_not]; omega] at k; exact k
  have hz6 : PV (w.setCell ⟨D, 4, none⟩ (.int .i64 6)) D X { p with st := 6 } := hpv.setst 6
  have hb6 : Bar D w (w.setCell ⟨D, 4, none⟩ (.int .i64 6)) := (Bar.refl D w).set _ _
  by_cases h60 : 60 ≤ r
  · have cB4 : ∀ W, Calls Try.prog 36 #[.int .i32 r, .int .i32 60, .int .i32 63] W fun e w' => e = .returned (.bool true) ∧ W = w' := fun W => by have k := between_any r 60 63 W; rw [show decide ((60 : Int) ≤ r ∧ r ≤ 63) = true by rw [decide_eq_true_eq]; omega] at k; exact k
    by_cases h3 : p.st = 3
    · rw [if_pos ⟨h60, h3⟩]
      rw [h3] at c4
      go_enter Try.func41, Try.ntmps41
      go_wp2_with (first | (go_at_call 36; (with_reducible refine (cB1 _).mono ?_); rintro e w1 ⟨rfl, rfl⟩) | (go_at_call 36; (with_reducible refine (cB2 _).mono ?_); rintro e w1 ⟨rfl, rfl⟩) | (go_at_call 36; (with_reducible refine (cB3 _).mono ?_); rintro e w1 ⟨rfl, rfl⟩) | (go_at_call 36; (with_reducible refine (cB4 _).mono ?_); rintro e w1 ⟨rfl, rfl⟩))
      all_goals
        go_ret
        have hB : Bar D w ((w.setCell ⟨D, 4, none⟩ (.int .i64 4)).setCell ⟨D, 5, none⟩ (.int .i32 r)) := ((Bar.refl D w).set _ _).set _ _
        exact stepd_nil hB ⟨bv, tv, m, lo, hi, ls, { h with box := (h.box.setst 4).setpf r, rb := rd_bar h.rb (fun e => (h.ob D e).1 rfl) hB, rt := rd_bar h.rt (fun e => (h.ot D e).1 rfl) hB }⟩
    · have hf : fineR r = false := by
        cases hq : fineR r with
        | false => rfl
        | true => have := (fine_iff r).1 hq; omega
      rw [if_neg (fun k => h3 k.2), if_neg (show ¬ ((p.st = 3 ∨ p.st = 4) ∧ fineR r = true) from fun k => by rw [hf] at k; cases k.2)]
      have cX : ∀ a W, Calls Try.prog 64 #[.pointer a, .int .i32 r] W fun e w' => e = .returned (.bool false) ∧ W = w' := fun a W => Pm.add_no a r W hf (by omega)
      go_enter Try.func41, Try.ntmps41
      go_wp2_with (first | (go_at_call 36; (with_reducible refine (cB1 _).mono ?_); rintro e w1 ⟨rfl, rfl⟩) | (go_at_call 36; (with_reducible refine (cB2 _).mono ?_); rintro e w1 ⟨rfl, rfl⟩) | (go_at_call 36; (with_reducible refine (cB3 _).mono ?_); rintro e w1 ⟨rfl, rfl⟩) | (go_at_call 36; (with_reducible refine (cB4 _).mono ?_); rintro e w1 ⟨rfl, rfl⟩) | (go_at_call 64; (with_reducible refine (cX _ _).mono ?_); rintro e w1 ⟨rfl, rfl⟩))
      all_goals
        go_ret
        exact stepd_nil hb6 hz6
  · rw [if_neg (show ¬ (60 ≤ r ∧ p.st = 3) from fun k => h60 k.1)]
    have cB4 : ∀ W, Calls Try.prog 36 #[.int .i32 r, .int .i32 60, .int .i32 63] W fun e w' => e = .returned (.bool false) ∧ W = w' := fun W => by have k := between_any r 60 63 W; rw [show decide ((60 : Int) ≤ r ∧ r ≤ 63) = false by rw [decide_eq_false_iff_not]; omega] at k; exact k
    cases hf : fineR r
    · rw [if_neg (show ¬ ((p.st = 3 ∨ p.st = 4) ∧ false = true) from fun k => by cases k.2)]
      have cX : ∀ a W, Calls Try.prog 64 #[.pointer a, .int .i32 r] W fun e w' => e = .returned (.bool false) ∧ W = w' := fun a W => Pm.add_no a r W hf (by omega)
      go_enter Try.func41, Try.ntmps41
      go_wp2_with (first | (go_at_call 36; (with_reducible refine (cB1 _).mono ?_); rintro e w1 ⟨rfl, rfl⟩) | (go_at_call 36; (with_reducible refine (cB2 _).mono ?_); rintro e w1 ⟨rfl, rfl⟩) | (go_at_call 36; (with_reducible refine (cB3 _).mono ?_); rintro e w1 ⟨rfl, rfl⟩) | (go_at_call 36; (with_reducible refine (cB4 _).mono ?_); rintro e w1 ⟨rfl, rfl⟩) | (go_at_call 64; (with_reducible refine (cX _ _).mono ?_); rintro e w1 ⟨rfl, rfl⟩))
      all_goals
        go_ret
        exact stepd_nil hb6 hz6
    · by_cases h34 : p.st = 3 ∨ p.st = 4
      · rw [if_pos ⟨h34, rfl⟩]
        have cA : Calls Try.prog 64 #[.pointer (some ⟨D, 7, none⟩), .int .i32 r] w _ := Pm.add_any D 31 [bv, .int .i64 m, .int .u8 lo, .int .u8 hi, .int .i64 p.st, .int .i32 p.pf, .string (strOfNums p.it)] [tv] p.ws p.ov r w h.bld hf h.ok
        have hst : ∀ W, PV W D X { p with ws := addB p.ws p.ov r, ov := addO p.ws p.ov r } → PV (W.setCell ⟨D, 4, none⟩ (.int .i64 4)) D X { p with st := 4, ws := addB p.ws p.ov r, ov := addO p.ws p.ov r } := fun W h => h.setst 4
        have HS := Lib.hid hst
        clear hst
        rcases h34 with h3 | h4
        · rw [h3] at c4
          go_enter Try.func41, Try.ntmps41
          go_wp2_with (first | (go_at_call 36; (with_reducible refine (cB1 _).mono ?_); rintro e w1 ⟨rfl, rfl⟩) | (go_at_call 36; (with_reducible refine (cB2 _).mono ?_); rintro e w1 ⟨rfl, rfl⟩) | (go_at_call 36; (with_reducible refine (cB3 _).mono ?_); rintro e w1 ⟨rfl, rfl⟩) | (go_at_call 36; (with_reducible refine (cB4 _).mono ?_); rintro e w1 ⟨rfl, rfl⟩) | (go_at_call 64; (with_reducible refine cA.mono ?_); rintro e w2 ⟨rfl, hb1, hbld⟩; have hp1 := h.added hb1 hbld (addB_ok _ _ _ h.ok hf); obtain ⟨tv1, ⟨g4, _, _, _, gf, gl⟩, _⟩ := hp1.pf))
          all_goals
            go_ret
            exact stepd_nil (hb1.trans ((Bar.refl _ _).set _ _)) (HS.out _ hp1)
        · rw [h4] at c4
          go_enter Try.func41, Try.ntmps41
          go_wp2_with (first | (go_at_call 36; (with_reducible refine (cB1 _).mono ?_); rintro e w1 ⟨rfl, rfl⟩) | (go_at_call 36; (with_reducible refine (cB2 _).mono ?_); rintro e w1 ⟨rfl, rfl⟩) | (go_at_call 36; (with_reducible refine (cB3 _).mono ?_); rintro e w1 ⟨rfl, rfl⟩) | (go_at_call 36; (with_reducible refine (cB4 _).mono ?_); rintro e w1 ⟨rfl, rfl⟩) | (go_at_call 64; (with_reducible refine cA.mono ?_); rintro e w2 ⟨rfl, hb1, hbld⟩; have hp1 := h.added hb1 hbld (addB_ok _ _ _ h.ok hf); obtain ⟨tv1, ⟨g4, _, _, _, gf, gl⟩, _⟩ := hp1.pf))
          all_goals
            go_ret
            exact stepd_nil (hb1.trans ((Bar.refl _ _).set _ _)) (HS.out _ hp1)
      · rw [if_neg (show ¬ ((p.st = 3 ∨ p.st = 4) ∧ true = true) from fun k => h34 k.1)]
        have h3 : ¬ p.st = 3 := fun k => h34 (.inl k)
        have h4 : ¬ p.st = 4 := fun k => h34 (.inr k)
        have b3 : (p.st == 3) = false := by rw [beq_eq_false_iff_ne]; exact h3
        have b4 : (p.st == 4) = false := by rw [beq_eq_false_iff_ne]; exact h4
        clear h34
        go_enter Try.func41, Try.ntmps41
        go_wp2_with (first | (go_at_call 36; (with_reducible refine (cB1 _).mono ?_); rintro e w1 ⟨rfl, rfl⟩) | (go_at_call 36; (with_reducible refine (cB2 _).mono ?_); rintro e w1 ⟨rfl, rfl⟩) | (go_at_call 36; (with_reducible refine (cB3 _).mono ?_); rintro e w1 ⟨rfl, rfl⟩) | (go_at_call 36; (with_reducible refine (cB4 _).mono ?_); rintro e w1 ⟨rfl, rfl⟩))
        all_goals
          go_ret
          exact stepd_nil hb6 hz6

end Go.Proofs.Ytpkkfcfkhiaggaa
