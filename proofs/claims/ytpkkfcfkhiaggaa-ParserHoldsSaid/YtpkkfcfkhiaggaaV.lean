/- parser: the reference, any rune. Printed by mk_v.py. -/
import Derived.Test.YtpkkfcfkhiaggaaT
import Derived.Laws.OwnMore
import Derived.Deep.CutBlock
import Derived.Deep.DeepCutAuto
import Derived.Outline
set_option linter.unusedSimpArgs false
set_option linter.unusedVariables false
set_option linter.unnecessarySimpa false
namespace Go.Proofs.Ytpkkfcfkhiaggaa
open Go.RowKit
open Go.Proofs.Ytpkkfcfkhiaggaa.Pm (fineR addB addO bldQ refL bldC BldV bldC_len)

theorem rone_few (s : Rs) (r : Int) : (rsOne s r).2.length ≤ 1 := by
  have key : ∀ {c : Prop} [Decidable c] {a b : Rs × List Ac}, a.2.length ≤ 1 → b.2.length ≤ 1 → (if c then a else b).2.length ≤ 1 := by
    intro c _ a b ha hb
    split
    · exact ha
    · exact hb
  unfold rsOne escR conR
  repeat' (refine key ?_ ?_)
  all_goals first | exact Nat.zero_le _ | exact Nat.le_refl _ | (split <;> simp)
/-- append of actions, as a step of a drawn region. -/
theorem step_appX {ops : Array Oper} {o : Oper} {a : Act} {w : World} {K : Act → World → Prop} {Q : Exit → Act → World → Prop} {E' : Prop} (hg : Region.wanted o (yielded ops a.tmps) = true) (s x : Operand)
    (ho : o.op = .call { callee := .builtin .append, args := #[s, x], argTypes := #[36, 36] })
    (B : Nat) (v y : Value) (xs ys : List AV) (hown : OwnX w B v xs) (hown2 : OwnX w B y ys) (hoff : ∀ g, PB ys g → v.ownBlock ≠ some g) (hs : a.eval s = v) (hx : a.eval x = y) (hl : xs.length + ys.length ≤ 100000000) (hbase : B ≤ w.heap.size)
    (h : ∀ v' w', OwnX w' B v' (xs ++ ys) → w.grownBy w' v.ownBlock → (v'.ownBlock = v.ownBlock ∨ v'.ownBlock = some w.heap.size) → K (a.put o.dst v') w') :
    if Region.wanted o (yielded ops a.tmps) = true then Oper.wp Try.prog o a w K Q else E' := by
  rw [if_pos hg]
  obtain ⟨i0, hi, hz0, hz1, hz2⟩ := info_parts elAc
  obtain ⟨p, cap, rfl, l1, m1, c1⟩ := hown2.rdx
  have build : ∀ v' w', w'.ownsRow B 52 6 v' (xs.length + ys.length) (acL xs ++ acL ys) → w.grownBy w' v.ownBlock → (v'.ownBlock = v.ownBlock ∨ v'.ownBlock = some w.heap.size) → OwnX w' B v' (xs ++ ys) := by
    intro v' w' h1 h2 h3
    have hp1 : ∀ g, PB (xs ++ ys) g → v.ownBlock ≠ some g := fun g hg => (pb_app.1 hg).elim (hown.off g) (hoff g)
    have hp2 : ∀ g, PB (xs ++ ys) g → g < w.heap.size := fun g hg => (pb_app.1 hg).elim (fun k => (hown.plt g k).2) (fun k => (hown2.plt g k).2)
    refine ⟨by rw [List.length_append, show acL (xs ++ ys) = acL xs ++ acL ys by unfold acL; simp]; exact h1, fun z hz => ?_, fun g hg => ?_⟩
    · have hzo : Own w B 3 .i64 z.2 z.1.l ∧ okA z.1 := (List.mem_append.1 hz).elim (hown.par z) (hown2.par z)
      exact ⟨hzo.1.keep h2 (fun g e => hp1 g ⟨z, hz, e⟩), hzo.2⟩
    · rcases h3 with h3 | h3
      · rw [h3]; exact hp1 g hg
      · rw [h3]; intro e; injection e with e; have := hp2 g hg; omega
  rcases c1 with ⟨rfl, rfl⟩ | ⟨b, off, rfl, hlt, hcell⟩
  · have hls : ys = [] := List.eq_nil_of_length_eq_zero (by omega)
    subst hls
    have hrun := run_append_owned_none (P := Try.prog) (w := w) B 36 o.type 52 i0 6 Try.underlying36 hi v xs.length (acL xs) hown.row
    unfold Oper.wp
    simp only [List.length_nil] at hx
    simp [execOp, ho, resolve, invoke, builtin, hs, hx, hrun, Result.andThen]
    exact h v w (by simpa using hown) ⟨rfl, rfl, rfl, Nat.le_refl _, fun _ _ _ => rfl⟩ (.inl rfl)
  · obtain ⟨v', w', hr, h2, h3, h4⟩ := run_append_where (P := Try.prog) w B 36 o.type 52 i0 _ 6 72 Try.underlying36 hi hz0 hz1 hz2 rfl (by decide) v xs.length (acL xs) hown.row ⟨b, off, none⟩ ys.length cap (acL ys) (acL_len ys) (fun j u hu => by
      obtain ⟨k, hk, hu2⟩ := acL_at ys j u hu
      have := hcell _ k hk (j % 6) (by omega)
      rw [Addr.add_lit, show off + j = off + j / 6 * 6 + j % 6 by omega, this]
      exact hu2) (acC_one ys (fun z hz => (hown2.par z hz).1.slice_one)) (by unfold maxLen; omega) (by omega) hbase
    unfold Oper.wp execOp
    simp only [ho, resolve, invoke, builtin, Sem.run_bind, Sem.run_pure, Result.andThen_ok, List.map_toArray, List.map_cons, List.map_nil, hs, hx, hr]
    exact h v' w' (build v' w' h2 h3 h4) h3 h4
set_option maxHeartbeats 8000000 in
set_option maxRecDepth 100000 in
theorem rxstep_any (s : Rs) (q : Option Addr) (n c : Nat) (r : Int) (w : World) (hop : s.op ≤ 4) (hby : ∀ x ∈ s.sq, Byte x) (hsz : s.sq.length ≤ 100000) : Calls Try.prog 21 #[.agg #[.string (opS s.op), .string (strOfNums s.sq), .slice q n c], .int .i32 r] w (RSt q n c w (rsStep s r)) := by
  by_cases hr : 128 ≤ r ∧ r < 160
  · have c1 : ∀ W, Calls Try.prog 21 #[.agg #[.string (opS s.op), .string (strOfNums s.sq), .slice q n c], .int .i32 27] W fun e w' => ∃ v xs, e = .returned (.tuple #[.agg #[.string ⟨#[101, 115, 99, 97, 112, 101]⟩, .string ⟨#[]⟩, .slice q n c], v]) ∧ xs.map Prod.fst = (rsOne s 27).2 ∧ OwnX w' W.heap.size v xs ∧ Below W.heap.size W w' := fun W => rstepone_any s q n c 27 W hop hby hsz (by omega)
    have c2 : ∀ W, Calls Try.prog 21 #[.agg #[.string ⟨#[101, 115, 99, 97, 112, 101]⟩, .string ⟨#[]⟩, .slice q n c], .int .i32 (r - 64)] W (RSt q n c W (rsOne (rsOne s 27).1 (r - 64))) := fun W => rstepone_any ⟨1, [], s.d⟩ q n c (r - 64) W (Nat.le_of_ble_eq_true rfl) (by simp) (by simp) (by omega)
    have hst : rsStep s r = ((rsOne (rsOne s 27).1 (r - 64)).1, (rsOne s 27).2 ++ (rsOne (rsOne s 27).1 (r - 64)).2) := by unfold rsStep; rw [if_pos hr]
    rw [hst]
    have hf1 := rone_few s 27
    have hf2 := rone_few (rsOne s 27).1 (r - 64)
    generalize (rsOne s 27).2 = l1 at *
    generalize rsOne (rsOne s 27).1 (r - 64) = s2 at *
    unfold RSt at c2
    obtain ⟨e128, e160⟩ := hr
    have z1 : r - 64 ≤ 2147483647 := by omega
    have z2 : -2147483648 ≤ r - 64 := by omega
    clear hst
    go_enter Try.func21, Try.ntmps21
    go_upto_region 4 with (first | (go_at_call 21; (with_reducible refine (c1 _).mono ?_); rintro e w1 ⟨v1, xs1, rfl, k1, k2, hb1⟩; have hr1 : w.heap.size + 2 ≤ w1.heap.size := (by have := hb1.size; simpa using this); have xR1 := Box.past hb1 (b := w.heap.size + 1) (cs := #[.string ⟨#[]⟩, .string ⟨#[]⟩, .slice none 0 0]) (t := 35) (by first | with_reducible assumption | (apply Box.as; (focus (repeat (first | with_reducible assumption | (with_reducible apply Box.new; simp; done) | with_reducible apply Box.gw | with_reducible apply Box.drew | with_reducible apply Box.alloc | with_reducible apply Box.set | (with_reducible apply Box.set_other; case hg => omega)))); rfl))) | (go_at_call 21; (with_reducible refine (c2 _).mono ?_); rintro e w2 ⟨v2, xs2, rfl, m1, m2, hb2⟩; have hw2 := bl_trans (bl_alloc (Below.refl _ _) _) hb2))
    have hw12 : Below w.heap.size w w2 := bl_trans (bl_trans (bl_alloc (bl_alloc (Below.refl _ _) _) _) hb1) hw2
    refine wp_name (fun Z => Below w2.heap.size w2 Z ∧ Box Z w2.heap.size #[.string (opS s2.1.op), .string (strOfNums s2.1.sq), .slice q n c] 35) ⟨bl_alloc (Below.refl _ _) _, Box.new _ _ _ rfl⟩ ?_
    rintro W0 ⟨hW0, xB⟩
    have xR := Box.past hW0 (Box.past hw2 xR1)
    have j1 : OwnX W0 (w.heap.size + 2) v1 xs1 := ((k2.kept hw2).kept hW0).weaken (by simp)
    have j2 : OwnX W0 (w.heap.size + 2) v2 xs2 := (m2.kept hW0).weaken (by simp; omega)
    have hv1B : v1.ownBlock ≠ some w2.heap.size := fun e => by have := (k2.lt _ e).2; have := hw2.size; omega
    have hv1R : v1.ownBlock ≠ some (w.heap.size + 1) := fun e => by have := (k2.lt _ e).1; simp at this; omega
    have hoff : ∀ g, PB xs2 g → v1.ownBlock ≠ some g := fun g hg e => by have := (k2.lt g e).2; have := (m2.plt g hg).1; simp at this; omega
    have hx1 := len_fst k1
    have hx2 := len_fst m1
    have hsz2 := hw12.size
    have hszw := hw2.size
    have hsz0 := hW0.size
    clear hb1 hb2 c1 c2
    have hS : Box W0.drew w2.heap.size #[.string (opS s2.1.op), .string (strOfNums s2.1.sq), .slice q n c] 35 := xB
    refine wp_region_late (fun Z => Box Z w2.heap.size #[.string (opS s2.1.op), .string (strOfNums s2.1.sq), .slice q n c] 35) [4] (by kernel_rfl) ?_
    refine wpAnyG_load (v := ?v0) 0 rfl (by kernel_rfl) (by kernel_rfl) (by kernel_rfl) (by kernel_rfl) (fun _ _ _ h => h) (Or.inl ⟨by rfl, ?h0⟩) hS (fun _ => ?r0)
    case h0 => (intro Z hZ; have z1 := hZ.cell; have z2 := hZ.lt; go_simp; try with_reducible rfl)
    try simp only [Act.put, List.getElem_toArray, List.getElem_cons_zero, List.getElem_cons_succ, List.setIfInBounds_toArray, List.set_cons_zero, List.set_cons_succ]
    refine wpAnyG_pure (v := ?v1) 1 rfl (by kernel_rfl) (by kernel_rfl) (by kernel_rfl) (by kernel_rfl) (fun _ _ _ h => h) (Or.inl ⟨by rfl, ?h1⟩) (fun _ => hS) (fun _ => ?r1)
    case h1 => (intro w _; go_simp; try with_reducible rfl)
    try simp only [Act.put, List.getElem_toArray, List.getElem_cons_zero, List.getElem_cons_succ, List.setIfInBounds_toArray, List.set_cons_zero, List.set_cons_succ]
    refine wpAnyG_pure (v := ?v2) 2 rfl (by kernel_rfl) (by kernel_rfl) (by kernel_rfl) (by kernel_rfl) (fun _ _ _ h => h) (Or.inl ⟨by rfl, ?h2⟩) (fun _ => hS) (fun _ => ?r2)
    case h2 => (intro w _; go_simp; try with_reducible rfl)
    try simp only [Act.put, List.getElem_toArray, List.getElem_cons_zero, List.getElem_cons_succ, List.setIfInBounds_toArray, List.set_cons_zero, List.set_cons_succ]
    refine wpAnyG_one 3 rfl (by kernel_rfl) ?_
    refine wpOp_step rfl (fun K hK => ?_)
    refine step_appX (by rfl) _ _ rfl (w.heap.size + 2) v1 v2 xs1 xs2 (j1.kept (Below.refl _ _).drew) (j2.kept (Below.refl _ _).drew) hoff rfl rfl (by omega) (Nat.le_trans (by omega) hW0.size : w.heap.size + 2 ≤ W0.drew.heap.size) ?_
    intro v3 w3 ho3 hg3 hwh3
    have xB3 : Box w3 w2.heap.size #[.string (opS s2.1.op), .string (strOfNums s2.1.sq), .slice q n c] 35 := (hg3.block _ xB.lt (fun e => hv1B e.symm)).trans xB
    have xR3 : Box w3 (w.heap.size + 1) #[.string ⟨#[]⟩, .string ⟨#[]⟩, .slice none 0 0] 35 := (hg3.block _ xR.lt (fun e => hv1R e.symm)).trans xR
    have rc := xR3.cell
    have rf := xR3.free
    have rl := xR3.lt
    refine hK _ _ ⟨fun _ => xB3, ?_⟩
    clear hK K
    try simp only [Act.put, List.getElem_toArray, List.getElem_cons_zero, List.getElem_cons_succ, List.setIfInBounds_toArray, List.set_cons_zero, List.set_cons_succ]
    refine wpAnyG_one 4 rfl (by kernel_rfl) ?_
    refine wpOp_step rfl (fun K hK => ?_)
    go_simp
    refine hK _ _ ⟨fun h => absurd (h 4 (by simp)) (by simp), ?_⟩
    clear hK K
    try simp only [Act.put, List.getElem_toArray, List.getElem_cons_zero, List.getElem_cons_succ, List.setIfInBounds_toArray, List.set_cons_zero, List.set_cons_succ]
    refine wpAnyG_one 5 rfl (by kernel_rfl) ?_
    refine wpOp_step rfl (fun K hK => ?_)
    go_simp
    refine hK _ _ ⟨fun h => absurd (h 4 (by simp)) (by simp), ?_⟩
    clear hK K
    try simp only [Act.put, List.getElem_toArray, List.getElem_cons_zero, List.getElem_cons_succ, List.setIfInBounds_toArray, List.set_cons_zero, List.set_cons_succ]
    refine wpAnyG_done (by kernel_rfl) ?_ _
    have yE := set3 xR3 (.string (opS s2.1.op)) (.string (strOfNums s2.1.sq)) (.slice q n c)
    have yEl := yE.lt
    go_wp2_with fail
    refine ret_row_tmp (n := 3) rfl rfl Try.underlying35 rfl (by kernel_rfl) rfl ⟨_, by simp (maxDischargeDepth := 6) [go_sem, Box.row yE, yEl] <;> rfl, rfl, ?_⟩
    exact ⟨v3, xs1 ++ xs2, rfl, by rw [List.map_append, k1, m1], (ho3.bar (Bar3 _ _ _ _ _) (by omega)).weaken (by omega), Bar.to_below (app_below (bl_trans hw12 hW0.drew) hg3 (fun g e => by have := (k2.lt g e).1; simp at this; omega)) (Bar3 _ _ _ _ _) (by omega)⟩
  · unfold rsStep
    rw [if_neg hr]
    exact rstepone_any s q n c r w hop hby hsz hr

end Go.Proofs.Ytpkkfcfkhiaggaa
