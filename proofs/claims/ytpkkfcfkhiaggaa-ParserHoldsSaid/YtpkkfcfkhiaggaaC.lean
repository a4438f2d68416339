/- parser: the parser's block. -/
import Derived.Test.YtpkkfcfkhiaggaaB
import Derived.Test.YtpkkfcfkhiaggaaUFM
import Derived.Test.YtpkkfcfkhiaggaaME
import Derived.Outline
set_option linter.unusedSimpArgs false
set_option linter.unusedVariables false
set_option linter.unnecessarySimpa false
namespace Go.Proofs.Ytpkkfcfkhiaggaa
open Go.RowKit
open Go.Proofs.Ytpkkfcfkhiaggaa.Pm (fineR addB addO bldQ refL bldC BldV bldC_len bget bset)

def pcells (bv : Value) (m lo hi st pf : Int) (it : ByteArray) (ls : List Int) (n : Int) (ov : Bool) (tv : Value) : List Value := [bv, .int .i64 m, .int .u8 lo, .int .u8 hi, .int .i64 st, .int .i32 pf, .string it] ++ bldC ls n ov ++ [tv]
/-- The parser's cells. -/
def BX (w : World) (D : Nat) (bv : Value) (m lo hi st pf : Int) (it : ByteArray) (ls : List Int) (n : Int) (ov : Bool) (tv : Value) : Prop := ls.length = 16 ∧ Box w D (pcells bv m lo hi st pf it ls n ov tv).toArray 31
structure PF (w : World) (D : Nat) (st pf : Int) (it : ByteArray) (tv : Value) : Prop where
  st : w.cell? ⟨D, 4, none⟩ = some (.int .i64 st)
  pf : w.cell? ⟨D, 5, none⟩ = some (.int .i32 pf)
  it : w.cell? ⟨D, 6, none⟩ = some (.string it)
  tv : w.cell? ⟨D, 25, none⟩ = some tv
  free : ∀ i, w.frozen? ⟨D, i, none⟩ = false
  lt : D < w.heap.size
theorem pcells_25 (bv : Value) (m lo hi st pf : Int) (it : ByteArray) (ls : List Int) (n : Int) (ov : Bool) (tv : Value) (h : ls.length = 16) : (pcells bv m lo hi st pf it ls n ov tv)[25]? = some tv := by
  unfold pcells
  rw [List.getElem?_append_right (by rw [List.length_append, bldC_len _ _ _ h]; exact Nat.le_refl 25), List.length_append, bldC_len _ _ _ h]
  rfl
theorem pcells_set25 (bv : Value) (m lo hi st pf : Int) (it : ByteArray) (ls : List Int) (n : Int) (ov : Bool) (tv tv' : Value) (h : ls.length = 16) : (pcells bv m lo hi st pf it ls n ov tv).set 25 tv' = pcells bv m lo hi st pf it ls n ov tv' := by
  unfold pcells
  rw [List.set_append_right _ _ (by rw [List.length_append, bldC_len _ _ _ h]; exact Nat.le_refl 25), List.length_append, bldC_len _ _ _ h]
  rfl
section
variable {w : World} {D : Nat} {bv : Value} {m lo hi st pr : Int} {it : ByteArray} {ls : List Int} {n : Int} {ov : Bool} {tv : Value}
theorem BX.pf (h : BX w D bv m lo hi st pr it ls n ov tv) : PF w D st pr it tv := by
  obtain ⟨hl, hx⟩ := h
  refine ⟨?_, ?_, ?_, ?_, fun i => hx.free i, hx.lt⟩
  · rw [hx.cell]; rfl
  · rw [hx.cell]; rfl
  · rw [hx.cell]; rfl
  · rw [hx.cell, List.getElem?_toArray]; exact pcells_25 _ _ _ _ _ _ _ _ _ _ _ hl
theorem BX.setst (h : BX w D bv m lo hi st pr it ls n ov tv) (s : Int) : BX (w.setCell ⟨D, 4, none⟩ (.int .i64 s)) D bv m lo hi s pr it ls n ov tv := ⟨h.1, Box.as (h.2.set 4 _) (by rw [List.setIfInBounds_toArray]; rfl)⟩
theorem BX.setpf (h : BX w D bv m lo hi st pr it ls n ov tv) (s : Int) : BX (w.setCell ⟨D, 5, none⟩ (.int .i32 s)) D bv m lo hi st s it ls n ov tv := ⟨h.1, Box.as (h.2.set 5 _) (by rw [List.setIfInBounds_toArray]; rfl)⟩
theorem BX.setit (h : BX w D bv m lo hi st pr it ls n ov tv) (s : ByteArray) : BX (w.setCell ⟨D, 6, none⟩ (.string s)) D bv m lo hi st pr s ls n ov tv := ⟨h.1, Box.as (h.2.set 6 _) (by rw [List.setIfInBounds_toArray]; rfl)⟩
theorem BX.settv (h : BX w D bv m lo hi st pr it ls n ov tv) (s : Value) : BX (w.setCell ⟨D, 25, none⟩ s) D bv m lo hi st pr it ls n ov s := ⟨h.1, Box.as (h.2.set 25 _) (by rw [List.setIfInBounds_toArray, pcells_set25 _ _ _ _ _ _ _ _ _ _ _ _ h.1])⟩
theorem BX.past {w' : World} (h : BX w D bv m lo hi st pr it ls n ov tv) (hb : Below w.heap.size w w') : BX w' D bv m lo hi st pr it ls n ov tv := ⟨h.1, (hb.block _ h.2.lt).trans h.2⟩
theorem BX.other {w' : World} {D2 : Nat} (h : BX w D bv m lo hi st pr it ls n ov tv) (hb : Bar D2 w w') (hD : D ≠ D2) : BX w' D bv m lo hi st pr it ls n ov tv := ⟨h.1, (hb.block _ hD h.2.lt).trans h.2⟩
end
/-- Block D holds a parser; the blocks of its slices are not D, nor among X. -/
structure PVx (w : World) (D : Nat) (X : Nat → Prop) (p : Ps) (bv tv : Value) (m lo hi : Int) (ls : List Int) : Prop where
  box : BX w D bv m lo hi p.st p.pf (strOfNums p.it) ls p.ws.length p.ov tv
  rb : Rd w .u8 bv p.bs
  rt : Rd w .u8 tv p.tx
  ob : ∀ g, bv.ownBlock = some g → g ≠ D ∧ ¬ X g
  ot : ∀ g, tv.ownBlock = some g → g ≠ D ∧ ¬ X g
  dec : p.bs ≠ [] → m = moreOf p.bs ∧ lo = loOf p.bs ∧ hi = hiOf p.bs
  wf : Wf p.bs
  lw : p.ws.length ≤ 16
  tk : ls.take p.ws.length = p.ws
  ok : ∀ x ∈ p.ws, -1 ≤ x ∧ x ≤ 9999
  ib : ∀ x ∈ p.it, Byte x
  il : p.it.length ≤ 3
  tb : ∀ x ∈ p.tx, Byte x
  tl : p.tx.length ≤ 1024
def PV (w : World) (D : Nat) (X : Nat → Prop) (p : Ps) : Prop := ∃ bv tv m lo hi ls, PVx w D X p bv tv m lo hi ls
theorem PV.lt {w : World} {D : Nat} {X : Nat → Prop} {p : Ps} (h : PV w D X p) : D < w.heap.size := by
  obtain ⟨_, _, _, _, _, _, h⟩ := h; exact h.box.2.lt
theorem PVx.past {w w' : World} {D : Nat} {X : Nat → Prop} {p : Ps} {bv tv : Value} {m lo hi : Int} {ls : List Int} (h : PVx w D X p bv tv m lo hi ls) (hb : Below w.heap.size w w') : PVx w' D X p bv tv m lo hi ls :=
  { h with box := h.box.past hb, rb := h.rb.below hb, rt := h.rt.below hb }
theorem PV.past {w w' : World} {D : Nat} {X : Nat → Prop} {p : Ps} (h : PV w D X p) (hb : Below w.heap.size w w') : PV w' D X p := by
  obtain ⟨bv, tv, m, lo, hi, ls, h⟩ := h
  exact ⟨bv, tv, m, lo, hi, ls, h.past hb⟩
theorem PV.mono {w : World} {D : Nat} {X Y : Nat → Prop} {p : Ps} (h : PV w D X p) (hY : ∀ g, Y g → X g) : PV w D Y p := by
  obtain ⟨bv, tv, m, lo, hi, ls, h⟩ := h
  exact ⟨bv, tv, m, lo, hi, ls, { h with ob := fun g e => ⟨(h.ob g e).1, fun y => (h.ob g e).2 (hY g y)⟩, ot := fun g e => ⟨(h.ot g e).1, fun y => (h.ot g e).2 (hY g y)⟩ }⟩
theorem rd_bar {w w' : World} {D : Nat} {k : IntKind} {v : Value} {xs : List Int} (h : Rd w k v xs) (ho : v.ownBlock ≠ some D) (hb : Bar D w w') : Rd w' k v xs := h.bar (apart_of ho) hb
/-- What does not touch D, nor what D's slices read, leaves a parser as it is. -/
theorem PV.other {w w' : World} {D D2 : Nat} {X : Nat → Prop} {p : Ps} (h : PV w D X p) (hb : Bar D2 w w') (hD : D ≠ D2) (hX : X D2) : PV w' D X p := by
  obtain ⟨bv, tv, m, lo, hi, ls, h⟩ := h
  exact ⟨bv, tv, m, lo, hi, ls, { h with box := h.box.other hb hD, rb := rd_bar h.rb (fun e => (h.ob D2 e).2 hX) hb, rt := rd_bar h.rt (fun e => (h.ot D2 e).2 hX) hb }⟩
/-- Fresh blocks may be added to those that the slices do not lie in. -/
theorem PV.add {w : World} {D : Nat} {X Y : Nat → Prop} {p : Ps} (h : PV w D X p) (hY : ∀ g, Y g → w.heap.size ≤ g) : PV w D (fun g => X g ∨ Y g) p := by
  obtain ⟨bv, tv, m, lo, hi, ls, h⟩ := h
  refine ⟨bv, tv, m, lo, hi, ls, { h with ob := fun g e => ⟨(h.ob g e).1, fun y => y.elim (h.ob g e).2 (fun y => ?_)⟩, ot := fun g e => ⟨(h.ot g e).1, fun y => y.elim (h.ot g e).2 (fun y => ?_)⟩ }⟩
  · have := hY g y; have := h.rb.in g e; omega
  · have := hY g y; have := h.rt.in g e; omega
theorem PVx.bld {w : World} {D : Nat} {X : Nat → Prop} {p : Ps} {bv tv : Value} {m lo hi : Int} {ls : List Int} (h : PVx w D X p bv tv m lo hi ls) : BldV w D 31 [bv, .int .i64 m, .int .u8 lo, .int .u8 hi, .int .i64 p.st, .int .i32 p.pf, .string (strOfNums p.it)] [tv] p.ws p.ov :=
  ⟨ls, h.box.1, h.lw, h.tk, h.box.2⟩
theorem PVx.decv {w : World} {D : Nat} {X : Nat → Prop} {p : Ps} {bv tv : Value} {m lo hi : Int} {ls : List Int} (h : PVx w D X p bv tv m lo hi ls) : DecV w D 31 ([.int .i64 p.st, .int .i32 p.pf, .string (strOfNums p.it)] ++ bldC ls p.ws.length p.ov ++ [tv]) bv p.bs :=
  ⟨m, lo, hi, Box.as h.box.2 (by unfold pcells; simp), h.rb, apart_of (fun e => (h.ob D e).1 rfl), h.dec⟩
/-- The blocks of a slice of actions, and of the parameters in it. -/
def XB (v : Value) (xs : List AV) (g : Nat) : Prop := PB xs g ∨ v.ownBlock = some g
/-- What a call that changes a parser says. -/
def Stepd (D : Nat) (X : Nat → Prop) (w : World) (q : Ps × List Ac) (e : Ending) (w' : World) : Prop :=
  ∃ v xs, e = .returned v ∧ xs.map Prod.fst = q.2 ∧ OwnX w' w.heap.size v xs ∧ Bar D w w' ∧ PV w' D (fun g => X g ∨ XB v xs g) q.1
theorem between_any (r a b : Int) (w : World) : Calls Try.prog 36 #[.int .i32 r, .int .i32 a, .int .i32 b] w fun e w' => e = .returned (.bool (decide (a ≤ r ∧ r ≤ b))) ∧ w = w' := by
  go_enter Try.func36, Try.ntmps36
  go_wp2_with fail
  all_goals
    go_ret
    exact ⟨ret_bool (by rw [Bool.eq_iff_iff]; simp; try omega), rfl⟩

end Go.Proofs.Ytpkkfcfkhiaggaa
