/- parser: Step for any rune, State, Text, Ground; a nil parser. Printed by mk_i.py. -/
import Derived.Test.YtpkkfcfkhiaggaaH
import Derived.Deep.CutBlock
import Derived.Deep.DeepCutAuto
import Derived.Outline
set_option linter.unusedSimpArgs false
set_option linter.unusedVariables false
set_option linter.unnecessarySimpa false
namespace Go.Proofs.Ytpkkfcfkhiaggaa
open Go.RowKit
open Go.Proofs.Ytpkkfcfkhiaggaa.Pm (fineR addB addO bldQ refL bldC BldV bldC_len)

theorem one_few (p : Ps) (r : Int) : (psOne p r).2.length ≤ 1 := by
  have key : ∀ {c : Prop} [Decidable c] {a b : Ps × List Ac}, a.2.length ≤ 1 → b.2.length ≤ 1 → (if c then a else b).2.length ≤ 1 := by
    intro c _ a b ha hb
    split
    · exact ha
    · exact hb
  unfold psOne strP escP conP
  repeat' (refine key ?_ ?_)
  all_goals first | exact Nat.zero_le _ | exact Nat.le_refl _ | (split <;> simp)
theorem step_few (p : Ps) (r : Int) : (psStep p r).2.length ≤ 2 := by
  unfold psStep
  split
  · have h1 := one_few p 27
    have h2 := one_few (psOne p 27).1 (r - 64)
    show (_ ++ _ : List Ac).length ≤ 2
    rw [List.length_append]; omega
  · have := one_few p r; omega
theorem PV.grown {w w' : World} {D : Nat} {X : Nat → Prop} {p : Ps} {row : Option Nat} (h : PV w D X p) (hg : w.grownBy w' row) (hr : ∀ g, row = some g → g ≠ D ∧ X g) : PV w' D X p := by
  obtain ⟨bv, tv, m, lo, hi, ls, h⟩ := h
  have hD : row ≠ some D := fun e => (hr D e).1 rfl
  refine ⟨bv, tv, m, lo, hi, ls, { h with box := ⟨h.box.1, (hg.block D h.box.2.lt (fun e => hD (by rw [← e]))).trans h.box.2⟩, rb := h.rb.kept hg (nblk fun g e e2 => (h.ob g e).2 (hr g e2).2), rt := h.rt.kept hg (nblk fun g e e2 => (h.ot g e).2 (hr g e2).2) }⟩
theorem len_fst {xs : List AV} {l : List Ac} (h : xs.map Prod.fst = l) : xs.length = l.length := by rw [← h, List.length_map]
/-- Two lists of actions, one behind the other. -/
theorem stepd_two {D : Nat} {X : Nat → Prop} {w w1 w2 w3 : World} {v1 v2 v' : Value} {xs1 xs2 : List AV} {q : Ps} {l : List Ac} (hD : D < w.heap.size) (k2 : OwnX w1 w.heap.size v1 xs1) (k3 : Bar D w w1) (m2 : OwnX w2 w1.heap.size v2 xs2) (m3 : Bar D w1 w2) (m4 : PV w2 D (fun g => (X g ∨ XB v1 xs1 g) ∨ XB v2 xs2 g) q)
    (hg : w2.grownBy w3 v1.ownBlock) (hw : v'.ownBlock = v1.ownBlock ∨ v'.ownBlock = some w2.heap.size) (hown : OwnX w3 w.heap.size v' (xs1 ++ xs2)) (hl : (xs1 ++ xs2).map Prod.fst = l) : Stepd D X w (q, l) (.returned v') w3 := by
  have h1 := m4.add (Y := fun g => g = w2.heap.size) (fun g e => by omega)
  have h2 := h1.grown hg (fun g e => ⟨fun e2 => by have := (k2.lt g e).1; omega, .inl (.inl (.inr (.inr e)))⟩)
  refine ⟨v', xs1 ++ xs2, rfl, hl, hown, (k3.trans m3).app hg (fun g e => (k2.lt g e).1), h2.mono (fun g h => ?_)⟩
  rcases h with h | h | h
  · exact .inl (.inl (.inl h))
  · rcases pb_app.1 h with h | h
    · exact .inl (.inl (.inr (.inl h)))
    · exact .inl (.inr (.inl h))
  · rcases hw with e | e
    · exact .inl (.inl (.inr (.inr (by rw [← e]; exact h))))
    · rw [e] at h; injection h with h; exact .inr h.symm
set_option maxHeartbeats 4000000 in
set_option maxRecDepth 100000 in
theorem pstep_any (D : Nat) (X : Nat → Prop) (p : Ps) (r : Int) (w : World) (hpv : PV w D X p) (hX : ∀ g, X g → g < w.heap.size) : Calls Try.prog 18 #[.pointer (some ⟨D, 0, none⟩), .int .i32 r] w (Stepd D X w (psStep p r)) := by
  by_cases hr : 128 ≤ r ∧ r ≤ 159
  · unfold psStep
    rw [if_pos hr]
    have hD := hpv.lt
    have hl1 := one_few p 27
    have hl2 := one_few (psOne p 27).1 (r - 64)
    have c1 := stepone_any D X p 27 w hpv hX (by omega)
    have c2 : ∀ w1 v1 xs1, PV w1 D (fun g => X g ∨ XB v1 xs1 g) (psOne p 27).1 → OwnX w1 w.heap.size v1 xs1 → Bar D w w1 → Calls Try.prog 18 #[.pointer (some ⟨D, 0, none⟩), .int .i32 (r - 64)] w1 (Stepd D (fun g => X g ∨ XB v1 xs1 g) w1 (psOne (psOne p 27).1 (r - 64))) := fun w1 v1 xs1 h1 h2 h3 =>
      stepone_any D _ _ (r - 64) w1 h1 (fun g h => h.elim (fun h => Nat.lt_of_lt_of_le (hX g h) h3.size) (fun h => h.elim (fun h => (h2.plt g h).2) (fun h => (h2.lt g h).2))) (by omega)
    have cB1 : ∀ W, Calls Try.prog 36 #[.int .i32 r, .int .i32 128, .int .i32 159] W fun e w' => e = .returned (.bool true) ∧ W = w' := fun W => by have k := between_any r 128 159 W; rw [show decide ((128 : Int) ≤ r ∧ r ≤ 159) = true by rw [decide_eq_true_eq]; omega] at k; exact k
    have z1 : r - 64 ≤ 2147483647 := by omega
    have z2 : -2147483648 ≤ r - 64 := by omega
    generalize psOne p 27 = q1 at *
    generalize psOne q1.1 (r - 64) = q2 at *
    go_enter Try.func18, Try.ntmps18
    go_wp2_with (first | (go_at_call 36; (with_reducible refine (cB1 _).mono ?_); rintro e w1 ⟨rfl, rfl⟩) | (go_at_call 18; (with_reducible refine c1.mono ?_); rintro e w1 ⟨v1, xs1, rfl, k1, k2, k3, k4⟩) | (go_at_call 18; (with_reducible refine (c2 _ v1 xs1 k4 k2 k3).mono ?_); rintro e w2 ⟨v2, xs2, rfl, m1, m2, m3, m4⟩; have s1 := len_fst k1; have s2 := len_fst m1; have hsz := (k3.trans m3).size) | (at_builtin; refine wpList_appX rfl _ _ rfl w.heap.size v1 v2 xs1 xs2 (k2.bar m3 hD) (m2.weaken k3.size) (fun g hg => fun e => by have := (k2.lt g e).2; have := (m2.plt g hg).1; omega) rfl rfl (by omega) hsz ?_; intro v' w3 hown hgr hwh))
    go_ret
    exact stepd_two hD k2 k3 m2 m3 m4 hgr hwh hown (by rw [List.map_append, k1, m1])
  · have := stepone_any D X p r w hpv hX hr
    unfold psStep
    rw [if_neg hr]
    exact this
theorem pstep_nil (r : Int) (w : World) : Calls Try.prog 18 #[.pointer none, .int .i32 r] w fun e w' => e = .returned (.slice none 0 0) ∧ w = w' := by
  go_enter Try.func18, Try.ntmps18
  go_wp2_with fail
  go_ret
  exact ⟨rfl, rfl⟩
theorem pwrite_nil (v : Value) (w : World) : Calls Try.prog 11 #[.pointer none, v] w fun e w' => e = .returned (.slice none 0 0) ∧ w = w' := by
  go_enter Try.func11, Try.ntmps11
  go_wp2_with fail
  go_ret
  exact ⟨rfl, rfl⟩
theorem state_nil (w : World) : Calls Try.prog 15 #[.pointer none] w fun e w' => e = .returned (.int .i64 0) ∧ w = w' := by
  go_enter Try.func15, Try.ntmps15
  go_wp2_with fail
  go_ret
  exact ⟨rfl, rfl⟩
theorem text_nil (w : World) : Calls Try.prog 16 #[.pointer none] w fun e w' => e = .returned (.string ⟨#[]⟩) ∧ w = w' := by
  go_enter Try.func16, Try.ntmps16
  go_wp2_with fail
  go_ret
  exact ⟨rfl, rfl⟩
theorem ground_nil (w : World) : Calls Try.prog 17 #[.pointer none] w fun e w' => e = .returned (.bool true) ∧ w = w' := by
  go_enter Try.func17, Try.ntmps17
  go_wp2_with fail
  go_ret
  exact ⟨rfl, rfl⟩
theorem reset_nil (w : World) : Calls Try.prog 19 #[.pointer none] w fun e w' => e = .returned (.tuple #[]) ∧ w = w' := by
  go_enter Try.func19, Try.ntmps19
  go_wp2_with fail
  go_end0
  exact ⟨rfl, rfl⟩
theorem copy_nil2 (w : World) : Calls Try.prog 20 #[.pointer none] w fun e w' => e = .returned (.pointer none) ∧ w = w' := by
  go_enter Try.func20, Try.ntmps20
  go_wp2_with fail
  go_ret
  exact ⟨rfl, rfl⟩
theorem state_any (D : Nat) (X : Nat → Prop) (p : Ps) (w : World) (hpv : PV w D X p) : Calls Try.prog 15 #[.pointer (some ⟨D, 0, none⟩)] w fun e w' => e = .returned (.int .i64 p.st) ∧ w = w' := by
  obtain ⟨tv, ⟨c4, c5, c6, c25, cf, cl⟩, _⟩ := hpv.pf
  go_enter Try.func15, Try.ntmps15
  go_wp2_with fail
  go_ret
  exact ⟨rfl, rfl⟩
theorem text_any2 (D : Nat) (X : Nat → Prop) (p : Ps) (w : World) (hpv : PV w D X p) : Calls Try.prog 16 #[.pointer (some ⟨D, 0, none⟩)] w fun e w' => e = .returned (.string (strOfNums p.tx)) ∧ w = w' := by
  obtain ⟨tv, ⟨c4, c5, c6, c25, cf, cl⟩, hrt⟩ := hpv.pf
  have ks0 := run_str (P := Try.prog) 22 9 5 Try.underlying22 Try.underlying5 Try.underlying9 hrt
  obtain ⟨qt, nt, rfl⟩ := Rd.lits hrt
  go_enter Try.func16, Try.ntmps16
  go_wp2_with fail
  go_ret
  exact ⟨rfl, rfl⟩
theorem ground_is (D : Nat) (X : Nat → Prop) (p : Ps) (w : World) (hpv : PV w D X p) : Calls Try.prog 17 #[.pointer (some ⟨D, 0, none⟩)] w fun e w' => e = .returned (.bool (decide (p.st = 0 ∧ p.bs = []))) ∧ Below w.heap.size w w' := by
  obtain ⟨bv, tv, m, lo, hi, ls, h⟩ := hpv
  obtain ⟨c4, c5, c6, c25, cf, cl⟩ := h.box.pf
  by_cases h0 : p.st = 0
  · rw [h0] at c4
    have cP := pending_any D _ _ bv p.bs w h.decv h.wf.len
    go_enter Try.func17, Try.ntmps17
    go_wp2_with (first | (go_at_call 35; (with_reducible refine cP.mono ?_); rintro e w1 ⟨v1, rfl, ho1, hb1⟩; obtain ⟨q1, n1, hv1⟩ := Rd.lits ho1.rd; subst hv1))
    go_ret
    refine ⟨ret_bool ?_, hb1⟩
    rw [Bool.eq_iff_iff]
    simp only [beq_iff_eq, decide_eq_true_eq, h0, true_and]
    rw [show ((p.bs.length : Int) = 0) = (p.bs.length = 0) by simp, List.length_eq_zero_iff]
  · have b0 : (p.st == 0) = false := by rw [beq_eq_false_iff_ne]; exact h0
    go_enter Try.func17, Try.ntmps17
    go_wp2_with fail
    go_ret
    exact ⟨ret_bool (by symm; rw [decide_eq_false_iff_not]; exact fun k => h0 k.1), Below.refl _ _⟩

end Go.Proofs.Ytpkkfcfkhiaggaa
