/- parser: a rune of a string. Printed by mk_e.py. -/
import Derived.Test.YtpkkfcfkhiaggaaD
import Derived.Deep.RegionLawGrows
import Derived.Deep.CutBlock
import Derived.Deep.DeepCutAuto
import Derived.Outline
set_option linter.unusedSimpArgs false
set_option linter.unusedVariables false
set_option linter.unnecessarySimpa false
namespace Go.Proofs.Ytpkkfcfkhiaggaa
open Go.RowKit
open Go.Proofs.Ytpkkfcfkhiaggaa.Pm (fineR addB addO bldQ refL bldC BldV bldC_len)

theorem Rd.lits {w : World} {k : IntKind} {v : Value} {xs : List Int} (h : Rd w k v xs) : ∃ q c, v = .slice q xs.length c := by
  obtain ⟨q, c, hv, _⟩ := h
  exact ⟨q, c, hv⟩
theorem bar_of {D : Nat} {w w' : World} (h : Below w.heap.size w w') : Bar D w w' := (Bar.refl D w).below h
/-- append onto a slice without room, as a step of a drawn region: a new row. -/
theorem step_app_cut {P : Program} {ops : Array Oper} {o : Oper} {a : Act} {w : World} {K : Act → World → Prop} {Q : Exit → Act → World → Prop} {E' : Prop} (hg : o.guard = none) (s x : Operand) (t E : TypeId) (k : IntKind) (bytes : Nat)
    (ho : o.op = .call { callee := .builtin .append, args := #[s, x], argTypes := #[t, t] }) (ht : P.underlying t = some (.slice E)) (hi : (P.info? E).map (fun i => (i.zero, i.size, i.bytes)) = some (some (.int k 0), 1, bytes))
    (pv : Option Addr) (bs : List Int) (cap : Nat) (hs : a.eval s = .slice pv bs.length bs.length) (hrd : Rd w k (.slice pv bs.length cap) bs) (y : Value) (ys : List Int)
    (hx : a.eval x = y) (hy : Rd w k y ys) (hpos : 0 < ys.length) (h63 : bs.length + ys.length ≤ maxLen) (hbytes : (bs.length + ys.length) * bytes ≤ 140737488355328)
    (hK : ∀ v' w', Own w' w.heap.size E k v' (bs ++ ys) → Below w.heap.size w w' → K (a.put o.dst v') w') :
    if Region.wanted o (yielded ops a.tmps) = true then Oper.wp P o a w K Q else E' := by
  obtain ⟨i0, hi, hz0, hz1, hz2⟩ := info_parts hi
  obtain ⟨p, cap0, hp, l1, m1, c1⟩ := hrd
  cases hp
  obtain ⟨p2, cap2, rfl, l2, m2, c2⟩ := hy
  rcases c2 with ⟨_, h0⟩ | ⟨b2, off2, rfl, hlt2, hcell2⟩
  · omega
  refine step_append_grows hg s x t ho E i0 (.int k 0) 1 bytes ht hi hz0 hz1 hz2 rfl (by decide) pv bs.length bs.length (bs.map (.int k)) hs (fun h => ?_) (by simp) (fun b' hb' j u hu => ?_) ⟨b2, off2, none⟩ ys.length cap2 (ys.map (.int k)) hx (by simp) (fun j u hu => ?_) (fun u hu => ?_) (by omega) h63 hbytes (fun v' w' h1 h2 => ?_)
  · rcases c1 with ⟨_, h0⟩ | ⟨b, off, hp, _⟩
    · omega
    · rw [h] at hp; cases hp
  · rcases c1 with ⟨hp, _⟩ | ⟨b, off, hp, hlt, hcell⟩
    · rw [hp] at hb'; cases hb'
    · rw [hp] at hb'; cases hb'
      simp only [List.getElem?_map, Option.map_eq_some_iff] at hu
      obtain ⟨z, hz, rfl⟩ := hu
      rw [Addr.add_lit]; exact hcell j z hz
  · simp only [List.getElem?_map, Option.map_eq_some_iff] at hu
    obtain ⟨z, hz, rfl⟩ := hu
    rw [Addr.add_lit]; exact hcell2 j z hz
  · simp only [List.mem_map] at hu
    obtain ⟨z, _, rfl⟩ := hu
    rfl
  · exact hK v' w' (by unfold Own; rw [List.length_append, List.map_append]; exact h1) (grown_below h2 (fun k hk => by cases hk) (Nat.le_refl _))
set_option maxRecDepth 100000 in
theorem sliceAt_full (W : World) (p : Option Addr) (n c : Nat) (h : n ≤ c) (hp : p = none ∨ ∃ b off, p = some ⟨b, off, none⟩) : (Instr.sliceAt 22 (.slice p n c) none (some (.int .i64 n)) (some (.int .i64 n))).run Try.prog W = .ok (.slice p n n) W := by
  have hz : ∀ w, (sizeOf (Try.prog.elem 22)).run Try.prog w = .ok 1 w := Try.sizeOf5
  rw [run_sliceAt_slice W 22 _ _ _ _ Try.underlying22, run_slice_any W 22 p n c Try.underlying22]
  have hb : (Instr.sliceBounds true n c none (some (.int .i64 n)) (some (.int .i64 n))).run Try.prog W = .ok (0, n, n) W := by
    have k1 := run_sliceBound (P := Try.prog) W .i64 (n : Int) c .slice3Acap (by omega) (by omega)
    have k2 := run_sliceBound (P := Try.prog) W .i64 (n : Int) n .slice3B (by omega) (by omega)
    simp [Instr.sliceBounds, k1, k2]
  rw [hb]
  simp only [Result.andThen_ok, hz]
  unfold sliced
  rcases hp with rfl | ⟨b, off, rfl⟩
  · simp
  · simp [Addr.add_lit]
theorem stepd_nil {D : Nat} {X : Nat → Prop} {w w1 : World} {q : Ps} (hb : Bar D w w1) (hp : PV w1 D X q) : Stepd D X w (q, []) (.returned (.slice none 0 0)) w1 :=
  ⟨_, [], rfl, rfl, OwnX.nil _ _, hb, hp.mono (fun g h => h.elim id (fun h => h.elim (fun h => absurd h (PB.nil g)) (fun h => by cases h)))⟩
theorem pb_lit {a : Ac} {g : Nat} : ¬ PB [(a, .slice none 0 0)] g := by
  rintro ⟨x, hx, e⟩
  rw [List.mem_singleton.1 hx] at e
  cases e
/-- The action that a literal holds, when the parser has gone on. -/
theorem stepd_lit {D : Nat} {X : Nat → Prop} {w w1 : World} {q : Ps} {a : Ac} (hD : D < w.heap.size) (ha : okA a) (hl : a.l = []) (hb : Bar D (w.alloc (.cells #[.int .i64 a.k, .int .i32 a.r, .int .i32 a.p, .string (strOfNums a.i), .slice none 0 0, .string (strOfNums a.t)] 52)) w1) (hp : PV w1 D (fun g => X g ∨ g = w.heap.size) q) : Stepd D X w (q, [a]) (.returned (.slice (some ⟨w.heap.size, 0, none⟩) 1 1)) w1 := by
  refine ⟨_, [(a, .slice none 0 0)], rfl, rfl, (OwnX.lit w a (.slice none 0 0) w.heap.size _ rfl (Nat.le_refl _) (by rw [hl]; exact Own.nil _ _ _ _) ha).bar hb hD, ?_, hp.mono (fun g h => h.elim .inl (fun h => h.elim (fun h => absurd h pb_lit) (fun h => .inr (by injection h with h; exact h.symm))))⟩
  exact (bar_of ((Below.refl _ _).alloc (Nat.le_refl _) _)).trans hb
theorem encL_one (r : Int) : encL [r] = enc1 r := by simp [encL]
theorem enc1_pos (r : Int) : 0 < (enc1 r).length := by
  unfold enc1 enc0
  (repeat' split) <;> simp
theorem enc1_byte (r : Int) : ∀ c ∈ enc1 r, Byte c := by
  unfold enc1
  split
  · next h => exact enc0_byte r h
  · exact enc0_byte 65533 (by decide)
set_option maxHeartbeats 4000000 in
set_option maxRecDepth 100000 in
theorem string_any (D : Nat) (X : Nat → Prop) (p : Ps) (r : Int) (w : World) (hpv : PV w D X p) (hX : ∀ g, X g → g < w.heap.size) : Calls Try.prog 39 #[.pointer (some ⟨D, 0, none⟩), .int .i32 r] w (Stepd D X w (strP p r)) := by
  obtain ⟨bv, tv, m, lo, hi, ls, h⟩ := hpv
  have hpv : PV w D X p := ⟨bv, tv, m, lo, hi, ls, h⟩
  obtain ⟨c4, c5, c6, c25, cf, cl⟩ := h.box.pf
  have cV := fun W => valid_any r W
  unfold strP
  by_cases h7 : r = 7
  · subst h7
    rw [if_pos rfl]
    have ks := fun (W : World) (hW : Below w.heap.size w W) => run_str (P := Try.prog) 22 9 5 Try.underlying22 Try.underlying5 Try.underlying9 (h.rt.below hW)
    have ks0 := ks w (Below.refl _ _)
    have cG : ∀ s, Calls Try.prog 38 #[.pointer (some ⟨D, 0, none⟩), .slice (some ⟨w.heap.size, 0, none⟩) 1 1] (w.alloc (.cells s 52)) _ := fun s => ground_any D (fun g => X g ∨ g = w.heap.size) p _ _ ((hpv.add (fun g e => by omega)).past ((Below.refl _ _).alloc (Nat.le_refl _) _))
    clear ks
    go_enter Try.func39, Try.ntmps39
    go_wp2_with (first | (go_at_call 38; (with_reducible refine (cG _).mono ?_); rintro e w1 ⟨rfl, hb1, hp1⟩))
    go_ret
    exact stepd_lit (a := txA p.tx) h.box.2.lt ⟨by simp [txA], h.tb⟩ rfl hb1 hp1
  rw [if_neg h7]
  by_cases hbad : r < 32 ∨ r = 127 ∨ validR r = false
  · rw [if_pos hbad]
    by_cases h32 : r < 32
    · clear hbad
      go_enter Try.func39, Try.ntmps39
      go_wp2_with (first | (go_at_call 42; (with_reducible refine (cV _).mono ?_); rintro e w1 ⟨rfl, rfl⟩))
      go_ret
      exact stepd_nil (Bar.refl _ _) hpv
    by_cases h127 : r = 127
    · clear hbad
      go_enter Try.func39, Try.ntmps39
      go_wp2_with (first | (go_at_call 42; (with_reducible refine (cV _).mono ?_); rintro e w1 ⟨rfl, rfl⟩))
      go_ret
      exact stepd_nil (Bar.refl _ _) hpv
    have hv : validR r = false := by
      rcases hbad with k | k | k
      · exact absurd k h32
      · exact absurd k h127
      · exact k
    rw [hv] at cV
    clear hbad hv
    go_enter Try.func39, Try.ntmps39
    go_wp2_with (first | (go_at_call 42; (with_reducible refine (cV _).mono ?_); rintro e w1 ⟨rfl, rfl⟩))
    go_ret
    exact stepd_nil (Bar.refl _ _) hpv
  rw [if_neg hbad]
  have h32 : ¬ r < 32 := fun k => hbad (.inl k)
  have h127 : ¬ r = 127 := fun k => hbad (.inr (.inl k))
  have hv : validR r = true := by
    cases hq : validR r with
    | true => rfl
    | false => exact absurd (.inr (.inr hq)) hbad
  rw [hv] at cV
  clear hbad hv
  have cE : ∀ W n, W = w.alloc (.cells #[.int .i32 r] n) → Calls Try.prog 61 #[.slice (some ⟨w.heap.size, 0, none⟩) 1 1] W (RetOwn W 5 .u8 (enc1 r)) := by
    rintro W n rfl
    have := encode_any (.slice (some ⟨w.heap.size, 0, none⟩) 1 1) [r] _ (Rd.lit1 w n .i32 r w.heap.size rfl) (by simp)
    rw [encL_one] at this
    exact this
  have hpos := enc1_pos r
  have hle := enc1_len r
  have htl := h.tl
  by_cases hlong : p.tx.length + (enc1 r).length ≤ 1024
  · rw [if_pos hlong]
    go_enter Try.func39, Try.ntmps39
    go_upto_region 7 with (first | (go_at_call 42; (with_reducible refine (cV _).mono ?_); rintro e w1 ⟨rfl, rfl⟩) | (go_at_call 61; (with_reducible refine (cE _ _ rfl).mono ?_); rintro e w2 ⟨vb, rfl, hob, hbb⟩; have hb0 : Below w.heap.size w w2 := bl_trans (bl_alloc (Below.refl _ _) _) hbb; have h2 := h.past hb0; obtain ⟨d4, d5, d6, d25, df, dl⟩ := h2.box.pf; obtain ⟨qb, nb, rfl⟩ := Rd.lits hob.rd; obtain ⟨qt, nt, rfl⟩ := Rd.lits h2.rt))
    have hob2 := hob.rd
    have hlen0 := 0
    obtain ⟨hcn, hqt⟩ : p.tx.length ≤ nt ∧ (qt = none ∨ ∃ b off, qt = some ⟨b, off, none⟩) := by
      obtain ⟨q1, c1, e1, e2, _, e4⟩ := h2.rt
      injection e1 with e5 e6 e7
      subst e5 e7
      refine ⟨e2, e4.imp (fun k => k.1) (fun ⟨b, off, k, _⟩ => ⟨b, off, k⟩)⟩
    have sF := fun W => sliceAt_full W qt p.tx.length nt hcn hqt
    clear hlen0 c4 c5 c6 c25 cf cl hbb
    have hS : Below w2.heap.size w2 w2.drew := (Below.refl _ _).drew
    refine wp_region_late (fun Z => Below w2.heap.size w2 Z) [20] (by kernel_rfl) ?_
    refine wpAnyG_pure (v := ?v0) 0 rfl (by kernel_rfl) (by kernel_rfl) (by kernel_rfl) (by kernel_rfl) (fun _ _ _ h => h) (Or.inl ⟨by rfl, ?h0⟩) (fun _ => hS) (fun _ => ?r0)
    case h0 => (intro w _; go_simp; try with_reducible rfl)
    try simp only [Act.put, List.getElem_toArray, List.getElem_cons_zero, List.getElem_cons_succ, List.setIfInBounds_toArray, List.set_cons_zero, List.set_cons_succ]
    refine wpAnyG_pure (v := ?v1) 1 rfl (by kernel_rfl) (by kernel_rfl) (by kernel_rfl) (by kernel_rfl) (fun _ _ _ h => h) (Or.inl ⟨by rfl, ?h1⟩) (fun _ => hS) (fun _ => ?r1)
    case h1 => (intro w _; go_simp; try with_reducible rfl)
    try simp only [Act.put, List.getElem_toArray, List.getElem_cons_zero, List.getElem_cons_succ, List.setIfInBounds_toArray, List.set_cons_zero, List.set_cons_succ]
    refine wpAnyG_pure (v := ?v2) 2 rfl (by kernel_rfl) (by kernel_rfl) (by kernel_rfl) (by kernel_rfl) (fun _ _ _ h => h) (Or.inl ⟨by rfl, ?h2⟩) (fun _ => hS) (fun _ => ?r2)
    case h2 => (intro w _; go_simp; try with_reducible rfl)
    try simp only [Act.put, List.getElem_toArray, List.getElem_cons_zero, List.getElem_cons_succ, List.setIfInBounds_toArray, List.set_cons_zero, List.set_cons_succ]
    refine wpAnyG_pure (v := ?v3) 3 rfl (by kernel_rfl) (by kernel_rfl) (by kernel_rfl) (by kernel_rfl) (fun _ _ _ h => h) (Or.inl ⟨by rfl, ?h3⟩) (fun _ => hS) (fun _ => ?r3)
    case h3 => (intro w _; go_simp; try with_reducible rfl)
    try simp only [Act.put, List.getElem_toArray, List.getElem_cons_zero, List.getElem_cons_succ, List.setIfInBounds_toArray, List.set_cons_zero, List.set_cons_succ]
    refine wpAnyG_load (v := ?v4) 4 rfl (by kernel_rfl) (by kernel_rfl) (by kernel_rfl) (by kernel_rfl) (fun _ _ _ h => h) (Or.inl ⟨by rfl, ?h4⟩) hS (fun _ => ?r4)
    case h4 => (intro Z hZ; obtain ⟨z1, z2⟩ := bcell hZ; go_simp; try with_reducible rfl)
    try simp only [Act.put, List.getElem_toArray, List.getElem_cons_zero, List.getElem_cons_succ, List.setIfInBounds_toArray, List.set_cons_zero, List.set_cons_succ]
    refine wpAnyG_pure (v := ?v5) 5 rfl (by kernel_rfl) (by kernel_rfl) (by kernel_rfl) (by kernel_rfl) (fun _ _ _ h => h) (Or.inl ⟨by rfl, ?h5⟩) (fun _ => hS) (fun _ => ?r5)
    case h5 => (intro w _; go_simp; try with_reducible rfl)
    try simp only [Act.put, List.getElem_toArray, List.getElem_cons_zero, List.getElem_cons_succ, List.setIfInBounds_toArray, List.set_cons_zero, List.set_cons_succ]
    refine wpAnyG_pure (v := ?v6) 6 rfl (by kernel_rfl) (by kernel_rfl) (by kernel_rfl) (by kernel_rfl) (fun _ _ _ h => h) (Or.inl ⟨by rfl, ?h6⟩) (fun _ => hS) (fun _ => ?r6)
    case h6 => (intro w _; go_simp; try with_reducible rfl)
    try simp only [Act.put, List.getElem_toArray, List.getElem_cons_zero, List.getElem_cons_succ, List.setIfInBounds_toArray, List.set_cons_zero, List.set_cons_succ]
    refine wpAnyG_pure (v := ?v7) 7 rfl (by kernel_rfl) (by kernel_rfl) (by kernel_rfl) (by kernel_rfl) (fun _ _ _ h => h) (Or.inl ⟨by rfl, ?h7⟩) (fun _ => hS) (fun _ => ?r7)
    case h7 => (intro w _; go_simp; try with_reducible rfl)
    try simp only [Act.put, List.getElem_toArray, List.getElem_cons_zero, List.getElem_cons_succ, List.setIfInBounds_toArray, List.set_cons_zero, List.set_cons_succ]
    refine wpAnyG_load (v := ?v8) 8 rfl (by kernel_rfl) (by kernel_rfl) (by kernel_rfl) (by kernel_rfl) (fun _ _ _ h => h) (Or.inl ⟨by rfl, ?h8⟩) hS (fun _ => ?r8)
    case h8 => (intro Z hZ; obtain ⟨z1, z2⟩ := bcell hZ; go_simp; try with_reducible rfl)
    try simp only [Act.put, List.getElem_toArray, List.getElem_cons_zero, List.getElem_cons_succ, List.setIfInBounds_toArray, List.set_cons_zero, List.set_cons_succ]
    refine wpAnyG_pure (v := ?v9) 9 rfl (by kernel_rfl) (by kernel_rfl) (by kernel_rfl) (by kernel_rfl) (fun _ _ _ h => h) (Or.inl ⟨by rfl, ?h9⟩) (fun _ => hS) (fun _ => ?r9)
    case h9 => (intro w _; go_simp; try with_reducible rfl)
    try simp only [Act.put, List.getElem_toArray, List.getElem_cons_zero, List.getElem_cons_succ, List.setIfInBounds_toArray, List.set_cons_zero, List.set_cons_succ]
    refine wpAnyG_pure (v := ?v10) 10 rfl (by kernel_rfl) (by kernel_rfl) (by kernel_rfl) (by kernel_rfl) (fun _ _ _ h => h) (Or.inl ⟨by rfl, ?h10⟩) (fun _ => hS) (fun _ => ?r10)
    case h10 => (intro w _; go_simp; try with_reducible rfl)
    try simp only [Act.put, List.getElem_toArray, List.getElem_cons_zero, List.getElem_cons_succ, List.setIfInBounds_toArray, List.set_cons_zero, List.set_cons_succ]
    refine wpAnyG_pure (v := ?v11) 11 rfl (by kernel_rfl) (by kernel_rfl) (by kernel_rfl) (by kernel_rfl) (fun _ _ _ h => h) (Or.inl ⟨by rfl, ?h11⟩) (fun _ => hS) (fun _ => ?r11)
    case h11 => (intro w _; go_simp; try with_reducible rfl)
    try simp only [Act.put, List.getElem_toArray, List.getElem_cons_zero, List.getElem_cons_succ, List.setIfInBounds_toArray, List.set_cons_zero, List.set_cons_succ]
    refine wpAnyG_pure (v := ?v12) 12 rfl (by kernel_rfl) (by kernel_rfl) (by kernel_rfl) (by kernel_rfl) (fun _ _ _ h => h) (Or.inl ⟨by rfl, ?h12⟩) (fun _ => hS) (fun _ => ?r12)
    case h12 => (intro w _; go_simp; try with_reducible rfl)
    try simp only [Act.put, List.getElem_toArray, List.getElem_cons_zero, List.getElem_cons_succ, List.setIfInBounds_toArray, List.set_cons_zero, List.set_cons_succ]
    refine wpAnyG_load (v := ?v13) 13 rfl (by kernel_rfl) (by kernel_rfl) (by kernel_rfl) (by kernel_rfl) (fun _ _ _ h => h) (Or.inl ⟨by rfl, ?h13⟩) hS (fun _ => ?r13)
    case h13 => (intro Z hZ; obtain ⟨z1, z2⟩ := bcell hZ; go_simp; try with_reducible rfl)
    try simp only [Act.put, List.getElem_toArray, List.getElem_cons_zero, List.getElem_cons_succ, List.setIfInBounds_toArray, List.set_cons_zero, List.set_cons_succ]
    refine wpAnyG_pure (v := ?v14) 14 rfl (by kernel_rfl) (by kernel_rfl) (by kernel_rfl) (by kernel_rfl) (fun _ _ _ h => h) (Or.inl ⟨by rfl, ?h14⟩) (fun _ => hS) (fun _ => ?r14)
    case h14 => (intro w _; go_simp; try with_reducible rfl)
    try simp only [Act.put, List.getElem_toArray, List.getElem_cons_zero, List.getElem_cons_succ, List.setIfInBounds_toArray, List.set_cons_zero, List.set_cons_succ]
    refine wpAnyG_pure (v := ?v15) 15 rfl (by kernel_rfl) (by kernel_rfl) (by kernel_rfl) (by kernel_rfl) (fun _ _ _ h => h) (Or.inl ⟨by rfl, ?h15⟩) (fun _ => hS) (fun _ => ?r15)
    case h15 => (intro w _; go_simp; try with_reducible rfl)
    try simp only [Act.put, List.getElem_toArray, List.getElem_cons_zero, List.getElem_cons_succ, List.setIfInBounds_toArray, List.set_cons_zero, List.set_cons_succ]
    refine wpAnyG_pure (v := ?v16) 16 rfl (by kernel_rfl) (by kernel_rfl) (by kernel_rfl) (by kernel_rfl) (fun _ _ _ h => h) (Or.inl ⟨by rfl, ?h16⟩) (fun _ => hS) (fun _ => ?r16)
    case h16 => (intro w _; go_simp; try with_reducible rfl)
    try simp only [Act.put, List.getElem_toArray, List.getElem_cons_zero, List.getElem_cons_succ, List.setIfInBounds_toArray, List.set_cons_zero, List.set_cons_succ]
    refine wpAnyG_one 17 rfl (by kernel_rfl) ?_
    refine wpOp_step rfl (fun K hK => ?_)
    refine step_app_cut (by rfl) (.tmp 57) (.tmp 58) 22 5 .u8 1 (by rfl) Try.underlying22 el8 qt p.tx nt (by rfl) (h2.rt.below hS) _ (enc1 r) (by rfl) (hob2.below hS) hpos (by unfold maxLen; omega) (by omega) ?_
    intro v3 w3 ho3 hb3
    have hcur : Below w2.heap.size w2 w3 := bl_trans hS hb3
    have h3 := h2.past hcur
    obtain ⟨q3, n3, hve⟩ := Rd.lits ho3.rd
    subst hve
    rw [List.length_append] at ho3
    obtain ⟨f4, f5, f6, f25, ff, fl⟩ := h3.box.pf
    refine hK _ _ ⟨fun _ => hcur, ?_⟩
    clear hK K
    try simp only [Act.put, List.getElem_toArray, List.getElem_cons_zero, List.getElem_cons_succ, List.setIfInBounds_toArray, List.set_cons_zero, List.set_cons_succ]
    refine wpAnyG_pure (v := ?v18) 18 rfl (by kernel_rfl) (by kernel_rfl) (by kernel_rfl) (by kernel_rfl) (fun _ _ _ h => h) (Or.inl ⟨by rfl, ?h18⟩) (fun _ => hcur) (fun _ => ?r18)
    case h18 => (intro w _; go_simp; try with_reducible rfl)
    try simp only [Act.put, List.getElem_toArray, List.getElem_cons_zero, List.getElem_cons_succ, List.setIfInBounds_toArray, List.set_cons_zero, List.set_cons_succ]
    refine wpAnyG_pure (v := ?v19) 19 rfl (by kernel_rfl) (by kernel_rfl) (by kernel_rfl) (by kernel_rfl) (fun _ _ _ h => h) (Or.inl ⟨by rfl, ?h19⟩) (fun _ => hcur) (fun _ => ?r19)
    case h19 => (intro w _; go_simp; try with_reducible rfl)
    try simp only [Act.put, List.getElem_toArray, List.getElem_cons_zero, List.getElem_cons_succ, List.setIfInBounds_toArray, List.set_cons_zero, List.set_cons_succ]
    refine wpAnyG_one 20 rfl (by kernel_rfl) ?_
    refine wpOp_step rfl (fun K hK => ?_)
    go_simp
    refine hK _ _ ⟨fun h => absurd (h 20 (by simp)) (by simp), ?_⟩
    clear hK K
    try simp only [Act.put, List.getElem_toArray, List.getElem_cons_zero, List.getElem_cons_succ, List.setIfInBounds_toArray, List.set_cons_zero, List.set_cons_succ]
    refine wpAnyG_done (by kernel_rfl) ?_ _
    go_wp2_with fail
    go_ret
    have hB : Bar D w (w3.setCell ⟨D, 25, none⟩ (.slice q3 (p.tx.length + (enc1 r).length) n3)) := (bar_of (bl_trans hb0 hcur)).set _ _
    have hB3 : Bar D w3 (w3.setCell ⟨D, 25, none⟩ (.slice q3 (p.tx.length + (enc1 r).length) n3)) := (Bar.refl D w3).set _ _
    have hv3 : ∀ g, (Value.slice q3 (p.tx.length + (enc1 r).length) n3).ownBlock = some g → g ≠ D ∧ ¬ X g := fun g e => by
      have h1 := (ho3.block g e).1
      have h2 := (bl_trans hb0 hS).size
      have h3 := h.box.2.lt
      exact ⟨by omega, fun hx => by have := hX g hx; omega⟩
    exact stepd_nil hB ⟨bv, _, m, lo, hi, ls, { h3 with box := h3.box.settv _, rb := rd_bar h3.rb (fun e => (h3.ob D e).1 rfl) hB3, rt := rd_bar ho3.rd (fun e => (hv3 D e).1 rfl) hB3, ot := hv3, tb := fun x hx => (List.mem_append.1 hx).elim (h.tb x) (enc1_byte r x), tl := by show (p.tx ++ enc1 r).length ≤ 1024; rw [List.length_append]; exact hlong }⟩
  · rw [if_neg hlong]
    go_enter Try.func39, Try.ntmps39
    go_wp2_with (first | (go_at_call 42; (with_reducible refine (cV _).mono ?_); rintro e w1 ⟨rfl, rfl⟩) | (go_at_call 61; (with_reducible refine (cE _ _ rfl).mono ?_); rintro e w2 ⟨vb, rfl, hob, hbb⟩; have hb0 : Below w.heap.size w w2 := bl_trans (bl_alloc (Below.refl _ _) _) hbb; have h2 := h.past hb0; obtain ⟨d4, d5, d6, d25, df, dl⟩ := h2.box.pf; obtain ⟨qb, nb, rfl⟩ := Rd.lits hob.rd; obtain ⟨qt, nt, rfl⟩ := Rd.lits h2.rt))
    go_ret
    exact stepd_nil (bar_of hb0) ⟨_, _, _, _, _, _, h2⟩

end Go.Proofs.Ytpkkfcfkhiaggaa
