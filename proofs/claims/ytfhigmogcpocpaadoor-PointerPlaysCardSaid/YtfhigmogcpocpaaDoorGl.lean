/- pointer: a pointer and its model are alike. -/
import Derived.Test.YtfhigmogcpocpaaDoorGd
import Derived.Outline
set_option linter.unusedSimpArgs false
set_option linter.unusedVariables false
set_option linter.unnecessarySimpa false
namespace Go.Proofs.YtfhigmogcpocpaaDoor
open Go.RowKit


set_option maxHeartbeats 4000000 in
theorem alike_t (D M : Nat) (m : Int) (e x y z : Bool) (a0 a1 : Int) (t : Bool) (n : Nat) (w : World) (hp : PtB w D 0 ⟨m, e, x, y, z, a0, a1, t⟩) (hm : MoB w M ⟨m, e, x, y, z, a0, a1, t⟩ n) : Calls Tryd.prog 17 #[.pointer (some ⟨D, 0, none⟩), .pointer (some ⟨M, 0, none⟩)] w fun e w' => e = .returned (.bool true) ∧ Below w.heap.size w w' := by
  obtain ⟨sl, l, hx, hrd, hap, hln, hmem, hm0, hm3⟩ := hm
  simp only at hx hm0 hm3
  have cx := hx.cell
  have lx := hx.lt
  go_enter Tryd.func17, Tryd.ntmps17
  go_wp2_with fail
  first | refine wp_grow2 (by kernel_rfl) (by kernel_rfl) ?_ | refine wp_grow (by kernel_rfl) (by kernel_rfl) ?_
  repeat (go_big_quiet_step (first | (go_at_call 18; with_reducible exact GW.call (mode_any D 0 ⟨m, e, x, y, z, a0, a1, t⟩ _ (hp.below (GW.grow _)))) | (go_at_call 19; with_reducible exact GW.call (exact_any D 0 ⟨m, e, x, y, z, a0, a1, t⟩ _ (hp.below (GW.grow _))))))
  refine wpQuiet_nil ?_
  rintro _ ⟨X, rfl⟩
  go_wp2_with fail
  go_loopw [5] (fun i wr => ∃ b : Int, -1 ≤ b ∧ b ≤ 10 ∧ i = .int .i64 b ∧ Below w.heap.size w wr) (fun i _ => (10 - intOf i).toNat)
  case atStart => exact ⟨-1, by omega, by omega, rfl, X.grow⟩
  case round =>
    obtain ⟨b, hb0, hb1, rfl, hbel⟩ := hrel
    clear X cx
    by_cases hlt : b ≤ 9
    · have cP := fun W (hb : Below w.heap.size w W) => held_any D 0 ⟨m, e, x, y, z, a0, a1, t⟩ b W (hp.below hb)
      have cM := fun W (hb : Below w.heap.size w W) => mheld_any M m e x y z a0 a1 t sl l b W ((hb.block M hx.lt).trans hx) (hrd.below hb)
      rw [hmem b] at cM
      clear hmem
      obtain ⟨q, hq⟩ : ∃ q, hasB ⟨m, e, x, y, z, a0, a1, t⟩ b = q := ⟨_, rfl⟩
      rw [hq] at cP cM
      clear hq
      cases q
      all_goals
        go_wp2_with (first | (go_at_call 20; (with_reducible refine (cP _ hbel).mono ?_); rintro e w1 ⟨rfl, hc1⟩; have hl1 := bl_trans hbel hc1) | (go_at_call 21; (with_reducible refine (cM _ hl1).mono ?_); rintro e w2 ⟨rfl, hc2⟩; have hl2 := bl_trans hl1 hc2))
        go_roundw
        case rel => exact ⟨b + 1, by omega, by omega, by first | rfl | go_num, hl2⟩
        case measure => simp [intOf]; omega
    · obtain rfl : b = 10 := by omega
      go_wp2_with fail
      go_ret
      exact ⟨rfl, hbel⟩
/-- All but two blocks is as it was. -/
structure Bar2 (D M : Nat) (w w' : World) : Prop where
  os : w'.os = w.os
  tape : w'.tape = w.tape
  output : w'.output = w.output
  size : w.heap.size ≤ w'.heap.size
  block : ∀ k, k ≠ D → k ≠ M → k < w.heap.size → w'.heap[k]? = w.heap[k]?
theorem Bar2.refl (D M : Nat) (w : World) : Bar2 D M w w := ⟨rfl, rfl, rfl, Nat.le_refl _, fun _ _ _ _ => rfl⟩
theorem Bar2.trans {D M : Nat} {a b c : World} (h : Bar2 D M a b) (k : Bar2 D M b c) : Bar2 D M a c :=
  ⟨k.os.trans h.os, k.tape.trans h.tape, k.output.trans h.output, Nat.le_trans h.size k.size, fun i h1 h2 h3 => (k.block i h1 h2 (Nat.lt_of_lt_of_le h3 h.size)).trans (h.block i h1 h2 h3)⟩
theorem Bar2.of_below {D M : Nat} {a b : World} (h : Below a.heap.size a b) : Bar2 D M a b := ⟨h.os, h.tape, h.output, h.size, fun i _ _ h3 => h.block i h3⟩
theorem Bar2.left {D M : Nat} {a b : World} (h : Bar D a b) : Bar2 D M a b := ⟨h.os, h.tape, h.output, h.size, fun i h1 _ h3 => h.block i h1 h3⟩
theorem Bar2.right {D M : Nat} {a b : World} (h : Bar M a b) : Bar2 D M a b := ⟨h.os, h.tape, h.output, h.size, fun i _ h2 h3 => h.block i h2 h3⟩
theorem Bar2.to_below {D M : Nat} {w a b : World} (h : Below w.heap.size w a) (k : Bar2 D M a b) (hD : w.heap.size ≤ D) (hM : w.heap.size ≤ M) : Below w.heap.size w b :=
  ⟨k.os.trans h.os, k.tape.trans h.tape, k.output.trans h.output, Nat.le_trans h.size k.size, fun i hi => (k.block i (by omega) (by omega) (Nat.lt_of_lt_of_le hi h.size)).trans (h.block i hi)⟩
theorem PtB.bar {w w' : World} {D M o : Nat} {p : Pt} (h : PtB w D o p) (hb : Bar M w w') (hDM : D ≠ M) : PtB w' D o p := by
  obtain ⟨cs, t, h1, q⟩ := h
  exact ⟨cs, t, (hb.block D hDM h1.lt).trans h1, q⟩
theorem MoB.bar {w w' : World} {D M : Nat} {p : Pt} {n : Nat} (h : MoB w M p n) (hb : Bar D w w') (hDM : M ≠ D) (hap : ∀ sl l, Box w M #[.int .i64 p.mode, .bool p.exact, sl, .bool p.there, .int .i64 p.a0, .int .i64 p.a1] 33 → Rd w .i64 sl l → Apart sl D) : MoB w' M p n := by
  obtain ⟨sl, l, h1, h2, h3⟩ := h
  exact ⟨sl, l, (hb.block M hDM h1.lt).trans h1, h2.bar (hap sl l h1 h2) hb, h3⟩

theorem MoA.bar2 {w w' : World} {D M : Nat} (h : MoA w M D) (hM : M < w.heap.size) (hb : Bar D w w') (hne : M ≠ D) : MoA w' M D := fun v hv => h v (by
  have := hb.block M hne hM
  unfold World.cell? at hv ⊢
  rwa [this] at hv)
/-- The pointer p in block D, the model q in block M, all in memory that is new since w. -/
structure PM (w W : World) (D M : Nat) (p q : Pt) (n : Nat) : Prop where
  bl : Below w.heap.size w W
  pt : PtB W D 0 p
  mo : MoB W M q n
  ma : MoA W M D
  hD : w.heap.size ≤ D
  hM : w.heap.size ≤ M
  ne : D ≠ M
theorem PM.grow {w W W' : World} {D M : Nat} {p q : Pt} {n : Nat} (h : PM w W D M p q n) (hb : Below W.heap.size W W') : PM w W' D M p q n :=
  ⟨bl_trans h.bl hb, h.pt.below hb, h.mo.below hb, h.ma.below h.mo.lt hb, h.hD, h.hM, h.ne⟩
theorem PM.mdo {w W W' : World} {D M : Nat} {p q q' : Pt} {n n' : Nat} (h : PM w W D M p q n) (hm : MoB W' M q' n') (hb : Bar M W W') (ha : ∀ D, D < W.heap.size → MoA W M D → MoA W' M D) : PM w W' D M p q' n' :=
  ⟨Bar.to_below h.bl hb h.hM, h.pt.bar hb h.ne, hm, ha D h.pt.lt h.ma, h.hD, h.hM, h.ne⟩
theorem PM.does {w W W' : World} {D M : Nat} {p p' q : Pt} {n : Nat} (h : PM w W D M p q n) (hp : PtB W' D 0 p') (hb : Keep D 0 W W') : PM w W' D M p' q n :=
  ⟨Bar.to_below h.bl hb.1 h.hD, hp, h.mo.bar hb.1 (Ne.symm h.ne) (fun sl l h1 _ => h.ma sl (h1.cell 2)), h.ma.bar2 h.mo.lt hb.1 (Ne.symm h.ne), h.hD, h.hM, h.ne⟩
theorem PM.mono {w W : World} {D M : Nat} {p q : Pt} {n n' : Nat} (h : PM w W D M p q n) (hn : n ≤ n') : PM w W D M p q n' := by
  obtain ⟨sl, l, h1, h2, h3, h4, h5⟩ := h.mo
  exact ⟨h.bl, h.pt, ⟨sl, l, h1, h2, h3, Nat.le_trans h4 hn, h5⟩, h.ma, h.hD, h.hM, h.ne⟩

end Go.Proofs.YtfhigmogcpocpaaDoor
