/- params: the builder as a part of a block; open, Reset, List. -/
import Derived.Test.YtpkkfcfkhiaggaaMB
import Derived.Outline
set_option linter.unusedSimpArgs false
set_option linter.unusedVariables false
set_option linter.unnecessarySimpa false
namespace Go.Proofs.Ytpkkfcfkhiaggaa.Pm
open Go.RowKit

theorem bget (pre mid post : List Value) (j : Nat) (hj : j < mid.length) : (pre ++ mid ++ post).toArray[pre.length + j]? = mid[j]? := by
  rw [List.getElem?_toArray, List.append_assoc, List.getElem?_append_right (by omega), List.getElem?_append_left (by omega)]
  congr 1; omega
theorem bset (pre mid post : List Value) (j : Nat) (hj : j < mid.length) (v : Value) : (pre ++ mid ++ post).toArray.setIfInBounds (pre.length + j) v = (pre ++ mid.set j v ++ post).toArray := by
  rw [List.setIfInBounds_toArray, List.append_assoc, List.set_append_right _ _ (by omega), List.set_append_left _ _ (by omega), List.append_assoc]
  congr 4; omega

/-- The cells of a builder. -/
def bldC (ls : List Int) (n : Int) (ov : Bool) : List Value := ls.map (Value.int .i64) ++ [.int .i64 n, .bool ov]
theorem bldC_len (ls : List Int) (n : Int) (ov : Bool) (h : ls.length = 16) : (bldC ls n ov).length = 18 := by simp [bldC, h]
theorem bldC_at (ls : List Int) (n : Int) (ov : Bool) (j : Nat) (h : ls.length = 16) (hj : j < 16) : (bldC ls n ov)[j]? = some (.int .i64 (ls.getD j 0)) := by
  unfold bldC; rw [List.getElem?_append_left (by simp; omega), List.getElem?_map, List.getElem?_eq_getElem (by omega)]; simp [List.getD, List.getElem?_eq_getElem (show j < ls.length by omega)]
theorem bldC_n (ls : List Int) (n : Int) (ov : Bool) (h : ls.length = 16) : (bldC ls n ov)[16]? = some (.int .i64 n) := by
  unfold bldC; rw [List.getElem?_append_right (by simp; omega)]; simp [h]
theorem bldC_o (ls : List Int) (n : Int) (ov : Bool) (h : ls.length = 16) : (bldC ls n ov)[17]? = some (.bool ov) := by
  unfold bldC; rw [List.getElem?_append_right (by simp; omega)]; simp [h]
theorem bldC_set (ls : List Int) (n : Int) (ov : Bool) (j : Nat) (x : Int) (h : ls.length = 16) (hj : j < 16) : (bldC ls n ov).set j (.int .i64 x) = bldC (ls.set j x) n ov := by
  unfold bldC; rw [List.set_append_left _ _ (by simp; omega), List.map_set]
theorem bldC_setn (ls : List Int) (n m : Int) (ov : Bool) (h : ls.length = 16) : (bldC ls n ov).set 16 (.int .i64 m) = bldC ls m ov := by
  unfold bldC; rw [List.set_append_right _ _ (by simp; omega)]; simp [h]
theorem bldC_seto (ls : List Int) (n : Int) (ov ow : Bool) (h : ls.length = 16) : (bldC ls n ov).set 17 (.bool ow) = bldC ls n ow := by
  unfold bldC; rw [List.set_append_right _ _ (by simp; omega)]; simp [h]

/-- Block D holds a builder behind so many cells. -/
def BldV (w : World) (D : Nat) (t : TypeId) (pre rest : List Value) (ws : List Int) (ov : Bool) : Prop :=
  ∃ ls : List Int, ls.length = 16 ∧ ws.length ≤ 16 ∧ ls.take ws.length = ws ∧ Box w D (pre ++ bldC ls ws.length ov ++ rest).toArray t
structure BldF (w : World) (D o : Nat) (ls : List Int) (n : Int) (ov : Bool) : Prop where
  at_ : ∀ j, j < 16 → w.cell? ⟨D, o + j, none⟩ = some (.int .i64 (ls.getD j 0))
  num : w.cell? ⟨D, o + 16, none⟩ = some (.int .i64 n)
  over : w.cell? ⟨D, o + 17, none⟩ = some (.bool ov)
  free : ∀ i, w.frozen? ⟨D, i, none⟩ = false
  lt : D < w.heap.size
theorem BldF.of {w : World} {D : Nat} {t : TypeId} {pre rest : List Value} {ls : List Int} {n : Int} {ov : Bool} (h : ls.length = 16) (hx : Box w D (pre ++ bldC ls n ov ++ rest).toArray t) : BldF w D pre.length ls n ov :=
  ⟨fun j hj => by rw [hx.cell, bget _ _ _ _ (by rw [bldC_len _ _ _ h]; omega), bldC_at _ _ _ _ h hj], by rw [hx.cell, bget _ _ _ _ (by rw [bldC_len _ _ _ h]; omega), bldC_n _ _ _ h], by rw [hx.cell, bget _ _ _ _ (by rw [bldC_len _ _ _ h]; omega), bldC_o _ _ _ h], hx.free, hx.lt⟩
theorem _root_.Go.Proofs.Ytpkkfcfkhiaggaa.Box.bset {w : World} {D : Nat} {t : TypeId} {pre rest : List Value} {ls : List Int} {n : Int} {ov : Bool} (h : ls.length = 16) (hx : Box w D (pre ++ bldC ls n ov ++ rest).toArray t) (j : Nat) (hj : j < 16) (x : Int) : Box (w.setCell ⟨D, pre.length + j, none⟩ (.int .i64 x)) D (pre ++ bldC (ls.set j x) n ov ++ rest).toArray t :=
  Box.as (hx.set _ _) (by rw [Go.Proofs.Ytpkkfcfkhiaggaa.Pm.bset _ _ _ _ (by rw [bldC_len _ _ _ h]; omega), bldC_set _ _ _ _ _ h hj])
theorem _root_.Go.Proofs.Ytpkkfcfkhiaggaa.Box.bsetn {w : World} {D : Nat} {t : TypeId} {pre rest : List Value} {ls : List Int} {n : Int} {ov : Bool} (h : ls.length = 16) (hx : Box w D (pre ++ bldC ls n ov ++ rest).toArray t) (m : Int) : Box (w.setCell ⟨D, pre.length + 16, none⟩ (.int .i64 m)) D (pre ++ bldC ls m ov ++ rest).toArray t :=
  Box.as (hx.set _ _) (by rw [Go.Proofs.Ytpkkfcfkhiaggaa.Pm.bset _ _ _ _ (by rw [bldC_len _ _ _ h]; omega), bldC_setn _ _ _ _ h])
theorem _root_.Go.Proofs.Ytpkkfcfkhiaggaa.Box.bseto {w : World} {D : Nat} {t : TypeId} {pre rest : List Value} {ls : List Int} {n : Int} {ov : Bool} (h : ls.length = 16) (hx : Box w D (pre ++ bldC ls n ov ++ rest).toArray t) (ow : Bool) : Box (w.setCell ⟨D, pre.length + 17, none⟩ (.bool ow)) D (pre ++ bldC ls n ow ++ rest).toArray t :=
  Box.as (hx.set _ _) (by rw [Go.Proofs.Ytpkkfcfkhiaggaa.Pm.bset _ _ _ _ (by rw [bldC_len _ _ _ h]; omega), bldC_seto _ _ _ _ h])

theorem take_set_snoc (ls ws : List Int) (x : Int) (h : ls.take ws.length = ws) (hl : ws.length < ls.length) : (ls.set ws.length x).take (ws ++ [x]).length = ws ++ [x] := by
  rw [List.length_append, List.length_singleton, List.take_succ_eq_append_getElem (by simpa using hl), List.take_set_of_le (Nat.le_refl _), h, List.getElem_set_self]
def openB (ws : List Int) : List Int := if ws.length = 16 then ws else ws ++ [-1]
def openO (ws : List Int) (ov : Bool) : Bool := if ws.length = 16 then true else ov
theorem openB_len (ws : List Int) (h : ws.length ≤ 16) : (openB ws).length ≤ 16 := by unfold openB; split; exact h; (simp; omega)

set_option maxRecDepth 100000 in
set_option maxHeartbeats 1000000 in
theorem open_any (D : Nat) (t : TypeId) (pre rest : List Value) (ws : List Int) (ov : Bool) (w : World) (hd : BldV w D t pre rest ws ov) :
    Calls Try.prog 78 #[.pointer (some ⟨D, pre.length, none⟩)] w fun e w' => e = .returned (.tuple #[]) ∧ Bar D w w' ∧ BldV w' D t pre rest (openB ws) (openO ws ov) := by
  obtain ⟨ls, hl, hw, ht, hx⟩ := hd
  obtain ⟨y1, y2, y3, y4, y5⟩ := BldF.of hl hx
  by_cases h16 : ws.length = 16
  · have e1 : openB ws = ws := by simp [openB, h16]
    have e2 : openO ws ov = true := by simp [openO, h16]
    rw [e1, e2]
    clear e1 e2
    have z1 : ((ws.length : Int) == 16) = true := by rw [beq_iff_eq]; omega
    clear y1
    have T := Lib.hid ht
    clear ht h16
    generalize ho : pre.length = o at *
    go_enter Try.func78, Try.ntmps78
    go_wp2_with fail
    refine bodyPost_ret (v := .tuple #[]) (by simp [results, Try.results78, go_sem]) rfl ⟨rfl, Bar.set (Bar.refl _ _) _ _, ls, hl, hw, T.out, ?_⟩
    subst ho
    exact Box.bseto hl hx true
  · have e1 : openB ws = ws ++ [-1] := by simp [openB, h16]
    have e2 : openO ws ov = ov := by simp [openO, h16]
    rw [e1, e2]
    clear e1 e2
    have hn : ws.length < 16 := by omega
    have z1 : ((ws.length : Int) == 16) = false := by rw [beq_eq_false_iff_ne]; omega
    have y6 := y1 ws.length hn
    have r1 : (0 : Int) ≤ (ws.length : Int) := by omega
    have r2 : (ws.length : Int) < 16 := by omega
    clear y1
    have T := Lib.hid ht
    clear ht h16
    generalize ho : pre.length = o at *
    go_enter Try.func78, Try.ntmps78
    go_wp2_with fail
    first | refine wp_grow_tail2 8 (by kernel_rfl) (by kernel_rfl) ?_ | refine wp_grow_tail 8 (by kernel_rfl) (by kernel_rfl) ?_
    simp only [List.take_succ_cons, List.take_zero, List.drop_succ_cons, List.drop_zero]
    repeat (go_big_quiet_step (fail))
    refine wpQuiet_nil ?_
    rintro _ ⟨X, rfl⟩
    go_wp2_with fail
    go_end0
    subst ho
    refine ⟨rfl, Bar.set (Bar.set (Bar.gw (Bar.refl _ _)) _ _) _ _, ls.set ws.length (-1), by simpa using hl, by simp; omega, take_set_snoc ls ws (-1) T.out (by omega), ?_⟩
    have hb := Box.bsetn (by simpa using hl) (Box.bset hl (Box.gw (X := X) hx) ws.length hn (-1)) ((ws.length : Int) + 1)
    have e : (((ws ++ [(-1 : Int)]).length : Nat) : Int) = (ws.length : Int) + 1 := by simp
    rw [e]
    exact hb

end Go.Proofs.Ytpkkfcfkhiaggaa.Pm
