/- parser: slices of actions, read and owned; append of them. -/
import Derived.Test.YtpkkfcfkhiaggaaA
import Derived.Test.YtpkkfcfkhiaggaaUC
import Derived.Test.YtpkkfcfkhiaggaaMG
import Derived.Test.YtpkkfcfkhiaggaaLate
import Derived.Outline
set_option linter.unusedSimpArgs false
set_option linter.unusedVariables false
set_option linter.unnecessarySimpa false
namespace Go.Proofs.Ytpkkfcfkhiaggaa
open Go.RowKit

/-- An action and the value that its parameters lie in. -/
abbrev AV := Ac × Value
def acC (x : AV) : List Value := [.int .i64 x.1.k, .int .i32 x.1.r, .int .i32 x.1.p, .string (strOfNums x.1.i), x.2, .string (strOfNums x.1.t)]
def acL (xs : List AV) : List Value := xs.flatMap acC
theorem acL_len (xs : List AV) : (acL xs).length = xs.length * 6 := by
  induction xs with
  | nil => rfl
  | cons a xs ih =>
    have e : acL (a :: xs) = acC a ++ acL xs := rfl
    rw [e, List.length_append, ih, List.length_cons]
    show 6 + _ = _
    omega
theorem acL_get (xs : List AV) (i : Nat) (x : AV) (h : xs[i]? = some x) (j : Nat) (hj : j < 6) : (acL xs)[i * 6 + j]? = (acC x)[j]? := by
  induction xs generalizing i with
  | nil => simp at h
  | cons a xs ih =>
    have e : acL (a :: xs) = acC a ++ acL xs := rfl
    have hl : (acC a).length = 6 := rfl
    rw [e]
    cases i with
    | zero =>
      obtain rfl : a = x := by simpa using h
      rw [List.getElem?_append_left (by omega), Nat.zero_mul, Nat.zero_add]
    | succ i =>
      rw [List.getElem?_append_right (by omega), hl, show (i + 1) * 6 + j - 6 = i * 6 + j by omega]
      exact ih i (by simpa using h)
theorem acL_at (xs : List AV) (n : Nat) (u : Value) (h : (acL xs)[n]? = some u) : ∃ x, xs[n / 6]? = some x ∧ (acC x)[n % 6]? = some u := by
  have hn := (List.getElem?_eq_some_iff.1 h).1
  rw [acL_len] at hn
  have hi : n / 6 < xs.length := by omega
  refine ⟨xs[n / 6], List.getElem?_eq_getElem hi, ?_⟩
  rw [← acL_get xs (n / 6) _ (List.getElem?_eq_getElem hi) (n % 6) (by omega), show n / 6 * 6 + n % 6 = n by omega]
  exact h
def AcAt (w : World) (b off i : Nat) (x : AV) : Prop := ∀ j, j < 6 → w.cell? ⟨b, off + i * 6 + j, none⟩ = (acC x)[j]?
theorem AcAt.below {w w' : World} {b off i : Nat} {x : AV} (h : AcAt w b off i x) (hb : Below w.heap.size w w') (hl : b < w.heap.size) : AcAt w' b off i x := fun j hj => (hb.cell (p := ⟨b, off + i * 6 + j, none⟩) hl).trans (h j hj)
theorem AcAt.cells {w : World} {b off i : Nat} {x : AV} (h : AcAt w b off i x) : w.cell? ⟨b, off + i * 6, none⟩ = some (.int .i64 x.1.k) ∧ w.cell? ⟨b, off + i * 6 + 1, none⟩ = some (.int .i32 x.1.r) ∧ w.cell? ⟨b, off + i * 6 + 2, none⟩ = some (.int .i32 x.1.p) ∧ w.cell? ⟨b, off + i * 6 + 3, none⟩ = some (.string (strOfNums x.1.i)) ∧ w.cell? ⟨b, off + i * 6 + 4, none⟩ = some x.2 ∧ w.cell? ⟨b, off + i * 6 + 5, none⟩ = some (.string (strOfNums x.1.t)) :=
  ⟨h 0 (by omega), h 1 (by omega), h 2 (by omega), h 3 (by omega), h 4 (by omega), h 5 (by omega)⟩
/-- A slice that reads as these cells. -/
def RdX (w : World) (v : Value) (xs : List AV) : Prop :=
  ∃ p cap, v = .slice p xs.length cap ∧ xs.length ≤ cap ∧ cap ≤ maxLen ∧ ((p = none ∧ cap = 0) ∨ ∃ b off, p = some ⟨b, off, none⟩ ∧ b < w.heap.size ∧ ∀ i x, xs[i]? = some x → AcAt w b off i x)
theorem RdX.below {w w' : World} {v : Value} {xs : List AV} (h : RdX w v xs) (hb : Below w.heap.size w w') : RdX w' v xs := by
  obtain ⟨p, cap, rfl, h1, h2, h3⟩ := h
  exact ⟨p, cap, rfl, h1, h2, h3.imp id fun ⟨b, off, hp, hlt, hc⟩ => ⟨b, off, hp, Nat.lt_of_lt_of_le hlt hb.size, fun i x hx => (hc i x hx).below hb hlt⟩⟩
theorem RdX.at {w : World} {p : Option Addr} {cap : Nat} {xs : List AV} (h : (p = none ∧ cap = 0) ∨ ∃ b off, p = some ⟨b, off, none⟩ ∧ b < w.heap.size ∧ ∀ i x, xs[i]? = some x → AcAt w b off i x) (hc : xs.length ≤ cap) {i : Nat} (hi : i < xs.length) :
    ∃ b off, p = some ⟨b, off, none⟩ ∧ b < w.heap.size ∧ AcAt w b off i xs[i] := by
  rcases h with ⟨_, h⟩ | ⟨b, off, hp, hlt, hcell⟩
  · omega
  · exact ⟨b, off, hp, hlt, hcell i _ (List.getElem?_eq_getElem hi)⟩
theorem RdX.nil (w : World) : RdX w (.slice none 0 0) [] := ⟨none, 0, rfl, by simp, by simp [maxLen], .inl ⟨rfl, rfl⟩⟩
def okA (a : Ac) : Prop := (∀ c ∈ a.i, Byte c) ∧ ∀ c ∈ a.t, Byte c
/-- A slice that reads as these actions. -/
def RdA (w : World) (v : Value) (al : List Ac) : Prop := ∃ xs : List AV, xs.map Prod.fst = al ∧ RdX w v xs ∧ ∀ x ∈ xs, Rd w .i64 x.2 x.1.l ∧ okA x.1
theorem RdA.below {w w' : World} {v : Value} {al : List Ac} (h : RdA w v al) (hb : Below w.heap.size w w') : RdA w' v al := by
  obtain ⟨xs, h1, h2, h3⟩ := h
  exact ⟨xs, h1, h2.below hb, fun x hx => ⟨(h3 x hx).1.below hb, (h3 x hx).2⟩⟩
theorem RdA.nil (w : World) : RdA w (.slice none 0 0) [] := ⟨[], rfl, RdX.nil w, by simp⟩
/-- The blocks in which parameters lie. -/
def PB (xs : List AV) (g : Nat) : Prop := ∃ x ∈ xs, x.2.ownBlock = some g
theorem PB.nil (g : Nat) : ¬ PB [] g := by rintro ⟨x, hx, _⟩; cases hx
/-- A slice of actions of the call's own, with parameters of the call's own. -/
structure OwnX (w : World) (B : Nat) (v : Value) (xs : List AV) : Prop where
  row : w.ownsRow B 52 6 v xs.length (acL xs)
  par : ∀ x ∈ xs, Own w B 3 .i64 x.2 x.1.l ∧ okA x.1
  off : ∀ g, PB xs g → v.ownBlock ≠ some g
theorem OwnX.nil (w : World) (B : Nat) : OwnX w B (.slice none 0 0) [] := ⟨World.ownsRow_nil _ _ _ _, by simp, fun g h => absurd h (PB.nil g)⟩
theorem OwnX.lt {w : World} {B : Nat} {v : Value} {xs : List AV} (h : OwnX w B v xs) : ∀ g, v.ownBlock = some g → B ≤ g ∧ g < w.heap.size := World.ownsRow.lt h.row
theorem OwnX.plt {w : World} {B : Nat} {v : Value} {xs : List AV} (h : OwnX w B v xs) : ∀ g, PB xs g → B ≤ g ∧ g < w.heap.size := by
  rintro g ⟨x, hx, e⟩
  exact (h.par x hx).1.block g e
theorem row_weaken {w : World} {B B' : Nat} {E : TypeId} {s n : Nat} {v : Value} {xs : List Value} (h : w.ownsRow B E s v n xs) (hB : B' ≤ B) : w.ownsRow B' E s v n xs := by
  obtain ⟨h1, h2⟩ := h
  refine ⟨h1, ?_⟩
  rcases h2 with h2 | ⟨g, cap, cur, e, hb, r⟩
  · exact .inl h2
  · exact .inr ⟨g, cap, cur, e, Nat.le_trans hB hb, r⟩
theorem OwnX.weaken {w : World} {B B' : Nat} {v : Value} {xs : List AV} (h : OwnX w B v xs) (hB : B' ≤ B) : OwnX w B' v xs := ⟨row_weaken h.row hB, fun x hx => ⟨(h.par x hx).1.weaken hB, (h.par x hx).2⟩, h.off⟩
theorem OwnX.keep {w w' : World} {B : Nat} {v : Value} {xs : List AV} {row : Option Nat} (h : OwnX w B v xs) (hg : w.grownBy w' row) (h1 : ∀ g, v.ownBlock = some g → row ≠ some g) (h2 : ∀ g, PB xs g → row ≠ some g) : OwnX w' B v xs :=
  ⟨World.ownsRow.kept h.row hg (nblk h1), fun x hx => ⟨(h.par x hx).1.keep hg (fun g e => h2 g ⟨x, hx, e⟩), (h.par x hx).2⟩, h.off⟩
theorem OwnX.kept {w w' : World} {B : Nat} {v : Value} {xs : List AV} (h : OwnX w B v xs) (hb : Below w.heap.size w w') : OwnX w' B v xs := h.keep (grown_none hb) (by simp) (by simp)
theorem OwnX.bar {w w' : World} {B D : Nat} {v : Value} {xs : List AV} (h : OwnX w B v xs) (hb : Bar D w w') (hD : D < B) : OwnX w' B v xs :=
  h.keep hb.grown (fun g e => fun e2 => by have := (h.lt g e).1; injection e2 with e2; omega) (fun g e => fun e2 => by have := (h.plt g e).1; injection e2 with e2; omega)
theorem OwnX.rdx {w : World} {B : Nat} {v : Value} {xs : List AV} (h : OwnX w B v xs) : RdX w v xs := by
  rcases h.row.2 with ⟨rfl, h0⟩ | ⟨g, cap, cur, rfl, hb, hg, hnc, hcm, hcs, ht⟩
  · exact ⟨none, 0, by rw [h0], by omega, by simp [maxLen], .inl ⟨rfl, rfl⟩⟩
  · refine ⟨_, cap, rfl, hnc, hcm, .inr ⟨g, 0, rfl, (Array.getElem?_eq_some_iff.1 hg).1, fun i x hx j hj => ?_⟩⟩
    rw [cell_of_row w g (0 + i * 6 + j) cur 52 (0, 0) hg, Nat.zero_add]
    have hil := (List.getElem?_eq_some_iff.1 hx).1
    have h1 := acL_get xs i x hx j hj
    rw [← ht, List.getElem?_take, if_pos (by omega)] at h1
    simpa using h1
theorem OwnX.rd {w : World} {B : Nat} {v : Value} {xs : List AV} (h : OwnX w B v xs) : RdA w v (xs.map Prod.fst) := ⟨xs, rfl, h.rdx, fun x hx => ⟨(h.par x hx).1.rd, (h.par x hx).2⟩⟩
theorem elAc : (Try.prog.info? 52).map (fun i => (i.zero, i.size, i.bytes)) = some (some (.agg #[.int .i64 0, .int .i32 0, .int .i32 0, .string ⟨#[]⟩, .slice none 0 0, .string ⟨#[]⟩]), 6, 72) := by kernel_rfl
/-- A literal of one action. -/
theorem OwnX.lit (w : World) (a : Ac) (pv : Value) (B n : Nat) (hn : n = w.heap.size) (hB : B ≤ w.heap.size) (hp : Own w B 3 .i64 pv a.l) (ha : okA a) : OwnX (w.alloc (.cells #[.int .i64 a.k, .int .i32 a.r, .int .i32 a.p, .string (strOfNums a.i), pv, .string (strOfNums a.t)] 52)) B (.slice (some ⟨n, 0, none⟩) 1 1) [(a, pv)] := by
  subst hn
  refine ⟨⟨by simp [acL, acC], .inr ⟨w.heap.size, 1, _, rfl, hB, heap_alloc_new w _, Nat.le_refl _, by simp [maxLen], by simp, by simp [acL, acC]⟩⟩, fun x hx => ?_, ?_⟩
  · rw [List.mem_singleton.1 hx]
    exact ⟨hp.kept ((Below.refl _ _).alloc (Nat.le_refl _) _), ha⟩
  · rintro g ⟨x, hx, e⟩
    rw [List.mem_singleton.1 hx] at e
    have := (hp.block g e).2
    intro e2
    simp only [Value.ownBlock, Option.some.injEq] at e2
    omega
theorem pb_app {xs ys : List AV} {g : Nat} : PB (xs ++ ys) g ↔ PB xs g ∨ PB ys g := by
  constructor
  · rintro ⟨x, hx, e⟩
    rcases List.mem_append.1 hx with hx | hx
    · exact .inl ⟨x, hx, e⟩
    · exact .inr ⟨x, hx, e⟩
  · rintro (⟨x, hx, e⟩ | ⟨x, hx, e⟩)
    · exact ⟨x, List.mem_append_left _ hx, e⟩
    · exact ⟨x, List.mem_append_right _ hx, e⟩
theorem acC_one (xs : List AV) (hx : ∀ x ∈ xs, x.2.oneCell' = true) : ∀ u ∈ acL xs, u.oneCell' = true := by
  intro u hu
  obtain ⟨x, hm, hk⟩ := List.mem_flatMap.1 hu
  simp only [acC, List.mem_cons, List.not_mem_nil, or_false] at hk
  rcases hk with rfl | rfl | rfl | rfl | rfl | rfl
  all_goals first | rfl | exact hx x hm
theorem Own.slice_one {w : World} {B : Nat} {E : TypeId} {k : IntKind} {v : Value} {xs : List Int} (h : Own w B E k v xs) : v.oneCell' = true := by
  rcases h.shape with ⟨rfl, _⟩ | ⟨g, cap, rfl, _⟩ <;> rfl
/-- append of actions. -/
theorem wpList_appX {ops : Array Oper} {rest : List Oper} {o : Oper} {a : Act} {w : World} {Q : Exit → Act → World → Prop} (hgd : o.guard = none) (s x : Operand)
    (ho : o.op = .call { callee := .builtin .append, args := #[s, x], argTypes := #[36, 36] })
    (B : Nat) (v y : Value) (xs ys : List AV) (hown : OwnX w B v xs) (hown2 : OwnX w B y ys) (hoff : ∀ g, PB ys g → v.ownBlock ≠ some g) (hs : a.eval s = v) (hx : a.eval x = y) (hl : xs.length + ys.length ≤ 100000000) (hbase : B ≤ w.heap.size)
    (h : ∀ v' w', OwnX w' B v' (xs ++ ys) → w.grownBy w' v.ownBlock → (v'.ownBlock = v.ownBlock ∨ v'.ownBlock = some w.heap.size) → wpList Try.prog ops Q rest (a.put o.dst v') w') : wpList Try.prog ops Q (o :: rest) a w := by
  obtain ⟨i0, hi, hz0, hz1, hz2⟩ := info_parts elAc
  obtain ⟨p, cap, rfl, l1, m1, c1⟩ := hown2.rdx
  have build : ∀ v' w', w'.ownsRow B 52 6 v' (xs.length + ys.length) (acL xs ++ acL ys) → w.grownBy w' v.ownBlock → (v'.ownBlock = v.ownBlock ∨ v'.ownBlock = some w.heap.size) → OwnX w' B v' (xs ++ ys) := by
    intro v' w' h1 h2 h3
    have hp1 : ∀ g, PB (xs ++ ys) g → v.ownBlock ≠ some g := fun g hg => (pb_app.1 hg).elim (hown.off g) (hoff g)
    have hp2 : ∀ g, PB (xs ++ ys) g → g < w.heap.size := fun g hg => (pb_app.1 hg).elim (fun k => (hown.plt g k).2) (fun k => (hown2.plt g k).2)
    refine ⟨by rw [List.length_append, show acL (xs ++ ys) = acL xs ++ acL ys by unfold acL; simp]; exact h1, fun z hz => ?_, fun g hg => ?_⟩
    · have hzo : Own w B 3 .i64 z.2 z.1.l ∧ okA z.1 := (List.mem_append.1 hz).elim (hown.par z) (hown2.par z)
      exact ⟨hzo.1.keep h2 (fun g e => hp1 g ⟨z, hz, e⟩), hzo.2⟩
    · rcases h3 with h3 | h3
      · rw [h3]; exact hp1 g hg
      · rw [h3]; intro e; injection e with e; have := hp2 g hg; omega
  rcases c1 with ⟨rfl, rfl⟩ | ⟨b, off, rfl, hlt, hcell⟩
  · have hls : ys = [] := List.eq_nil_of_length_eq_zero (by omega)
    subst hls
    refine wpList_append_own_none hgd s x 36 ho B 52 i0 6 Try.underlying36 hi v xs.length (acL xs) hs hown.row hx (h v w (by simpa using hown) ⟨rfl, rfl, rfl, Nat.le_refl _, fun _ _ _ => rfl⟩ (.inl rfl))
  · obtain ⟨v', w', hr, h2, h3, h4⟩ := run_append_where (P := Try.prog) w B 36 o.type 52 i0 _ 6 72 Try.underlying36 hi hz0 hz1 hz2 rfl (by decide) v xs.length (acL xs) hown.row ⟨b, off, none⟩ ys.length cap (acL ys) (acL_len ys) (fun j u hu => by
      obtain ⟨k, hk, hu2⟩ := acL_at ys j u hu
      have := hcell _ k hk (j % 6) (by omega)
      rw [Addr.add_lit, show off + j = off + j / 6 * 6 + j % 6 by omega, this]
      exact hu2) (acC_one ys (fun z hz => (hown2.par z hz).1.slice_one)) (by unfold maxLen; omega) (by omega) hbase
    refine wpList_plain hgd fun _ hK => ?_
    unfold Oper.wp execOp
    simp only [ho, resolve, invoke, builtin, Sem.run_bind, Sem.run_pure, Result.andThen_ok, List.map_toArray, List.map_cons, List.map_nil, hs, hx, hr]
    exact hK _ _ (h v' w' (build v' w' h2 h3 h4) h3 h4)

end Go.Proofs.Ytpkkfcfkhiaggaa
