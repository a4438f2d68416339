/- pointer: the small functions. -/
import Derived.Test.YtfhigmogcpocpaaDoorSl
import Derived.Outline
set_option linter.unusedSimpArgs false
set_option linter.unusedVariables false
set_option linter.unnecessarySimpa false
namespace Go.Proofs.YtfhigmogcpocpaaDoor
open Go.RowKit

/-- A pointer: its mode, whether it is exact, which buttons are held, and where it is. -/
structure Pt where
  mode : Int
  exact : Bool
  h1 : Bool
  h2 : Bool
  h3 : Bool
  a0 : Int
  a1 : Int
  there : Bool
def heldN (x y z : Bool) : Int := (if x then 2 else 0) + (if y then 4 else 0) + (if z then 8 else 0)
def hasB (p : Pt) (b : Int) : Bool := if b = 1 then p.h1 else if b = 2 then p.h2 else if b = 3 then p.h3 else false
def PtAt (cs : Array Value) (o : Nat) (p : Pt) : Prop := cs[o]? = some (.int .i64 p.mode) ∧ cs[o + 1]? = some (.bool p.exact) ∧ cs[o + 2]? = some (.int .u8 (heldN p.h1 p.h2 p.h3)) ∧ cs[o + 3]? = some (.int .i64 p.a0) ∧ cs[o + 4]? = some (.int .i64 p.a1) ∧ cs[o + 5]? = some (.bool p.there)
/-- A pointer in block D, from cell o on. -/
def PtB (w : World) (D o : Nat) (p : Pt) : Prop := ∃ cs t, Box w D cs t ∧ PtAt cs o p
theorem PtB.lt {w : World} {D o : Nat} {p : Pt} (h : PtB w D o p) : D < w.heap.size := by obtain ⟨_, _, h, _⟩ := h; exact h.lt
theorem PtB.free {w : World} {D o : Nat} {p : Pt} (h : PtB w D o p) (i : Nat) : w.frozen? ⟨D, i, none⟩ = false := by obtain ⟨_, _, h, _⟩ := h; exact h.free i
theorem PtB.cells {w : World} {D o : Nat} {p : Pt} (h : PtB w D o p) : w.cell? ⟨D, o, none⟩ = some (.int .i64 p.mode) ∧ w.cell? ⟨D, o + 1, none⟩ = some (.bool p.exact) ∧ w.cell? ⟨D, o + 2, none⟩ = some (.int .u8 (heldN p.h1 p.h2 p.h3)) ∧ w.cell? ⟨D, o + 3, none⟩ = some (.int .i64 p.a0) ∧ w.cell? ⟨D, o + 3 + 1, none⟩ = some (.int .i64 p.a1) ∧ w.cell? ⟨D, o + 5, none⟩ = some (.bool p.there) := by
  obtain ⟨cs, t, h, q0, q1, q2, q3, q4, q5⟩ := h
  exact ⟨(h.cell _).trans q0, (h.cell _).trans q1, (h.cell _).trans q2, (h.cell _).trans q3, (h.cell _).trans q4, (h.cell _).trans q5⟩
theorem PtB.below {w w' : World} {D o : Nat} {p : Pt} (h : PtB w D o p) (hb : Below w.heap.size w w') : PtB w' D o p := by
  obtain ⟨cs, t, h, q⟩ := h
  exact ⟨cs, t, (hb.block D h.lt).trans h, q⟩
theorem PtB.box {w : World} {D : Nat} {p : Pt} {t : TypeId} (h : Box w D #[.int .i64 p.mode, .bool p.exact, .int .u8 (heldN p.h1 p.h2 p.h3), .int .i64 p.a0, .int .i64 p.a1, .bool p.there] t) : PtB w D 0 p := ⟨_, _, h, rfl, rfl, rfl, rfl, rfl, rfl⟩
/-- All is as it was but for the pointer's own cells. -/
def Keep (D o : Nat) (w w' : World) : Prop := Bar D w w' ∧ ∀ cs t, Box w D cs t → ∃ cs', Box w' D cs' t ∧ cs'.size = cs.size ∧ ∀ i, (i < o ∨ o + 6 ≤ i) → cs'[i]? = cs[i]?
theorem Keep.refl (D o : Nat) (w : World) : Keep D o w w := ⟨Bar.refl _ _, fun cs t h => ⟨cs, h, rfl, fun _ _ => rfl⟩⟩
theorem Keep.trans {D o : Nat} {a b c : World} (h : Keep D o a b) (k : Keep D o b c) : Keep D o a c := ⟨h.1.trans k.1, fun cs t hc => by
  obtain ⟨cs1, h1, e1, f1⟩ := h.2 cs t hc
  obtain ⟨cs2, h2, e2, f2⟩ := k.2 cs1 t h1
  exact ⟨cs2, h2, e2.trans e1, fun i hi => (f2 i hi).trans (f1 i hi)⟩⟩
theorem Keep.of_below {D o : Nat} {a b : World} (h : Below a.heap.size a b) : Keep D o a b := ⟨(Bar.refl _ _).below h, fun cs t hc => ⟨cs, (h.block D hc.lt).trans hc, rfl, fun _ _ => rfl⟩⟩
theorem Keep.below {D o : Nat} {a b c : World} (h : Keep D o a b) (k : Below b.heap.size b c) : Keep D o a c := h.trans (Keep.of_below k)
theorem Keep.set {D o : Nat} {a b : World} (h : Keep D o a b) (i : Nat) (v : Value) (hi : o ≤ i ∧ i < o + 6) : Keep D o a (b.setCell ⟨D, i, none⟩ v) := ⟨h.1.set i v, fun cs t hc => by
  obtain ⟨cs1, h1, e1, f1⟩ := h.2 cs t hc
  exact ⟨_, h1.set i v, by simpa using e1, fun j hj => by
    rw [Array.getElem?_setIfInBounds, if_neg (by omega)]
    exact f1 j hj⟩⟩
/-- Another pointer in the same block stays. -/
theorem PtB.keep {w w' : World} {D o q : Nat} {p : Pt} (h : PtB w D q p) (k : Keep D o w w') (hq : q + 6 ≤ o ∨ o + 6 ≤ q) : PtB w' D q p := by
  obtain ⟨cs, t, hb, q0, q1, q2, q3, q4, q5⟩ := h
  obtain ⟨cs', h1, _, f⟩ := k.2 cs t hb
  exact ⟨cs', t, h1, (f _ (by omega)).trans q0, (f _ (by omega)).trans q1, (f _ (by omega)).trans q2, (f _ (by omega)).trans q3, (f _ (by omega)).trans q4, (f _ (by omega)).trans q5⟩
theorem getElem?_lt {α : Type} {cs : Array α} {i : Nat} {v : α} (h : cs[i]? = some v) : i < cs.size := (Array.getElem?_eq_some_iff.1 h).1
theorem PtB.whole {w : World} {D : Nat} {p : Pt} {t : TypeId} {cs : Array Value} (h : PtB w D 0 p) (hb : Box w D cs t) (hs : cs.size = 6) : Box w D #[.int .i64 p.mode, .bool p.exact, .int .u8 (heldN p.h1 p.h2 p.h3), .int .i64 p.a0, .int .i64 p.a1, .bool p.there] t := by
  obtain ⟨ds, u, hd, q0, q1, q2, q3, q4, q5⟩ := h
  have e : (Obj.cells cs t (0, 0)) = Obj.cells ds u (0, 0) := Option.some.inj (hb.symm.trans hd)
  injection e with e1 e2
  subst e1 e2
  refine hb.as ?_
  refine Array.ext_getElem? fun i => ?_
  match i with
  | 0 => exact q0
  | 1 => exact q1
  | 2 => exact q2
  | 3 => exact q3
  | 4 => exact q4
  | 5 => exact q5
  | n + 6 => rw [Array.getElem?_eq_none (by omega), Array.getElem?_eq_none (by simp)]
def validE (k b r c : Int) : Bool := decide ((((k = 1 ∨ k = 2) ∧ 1 ≤ b ∧ b ≤ 3) ∨ ((k = 3 ∨ k = 4 ∨ k = 5) ∧ b = 0)) ∧ 0 ≤ r ∧ r ≤ 999 ∧ 0 ≤ c ∧ c ≤ 999)
set_option maxHeartbeats 4000000 in
theorem valid_any (k b r c : Int) (sh al ct : Bool) (w : World) : Calls Tryd.prog 14 #[.agg #[.int .i64 k, .int .i64 b, .int .i64 r, .int .i64 c, .bool sh, .bool al, .bool ct]] w fun e w' => e = .returned (.bool (validE k b r c)) ∧ Below w.heap.size w w' := by
  go_enter Tryd.func14, Tryd.ntmps14
  go_wp2_with fail
  all_goals
    go_ret
    exact ⟨ret_bool (by rw [Bool.eq_iff_iff]; simp_all [validE] <;> omega), (by repeat (first | with_reducible exact Below.refl _ _ | with_reducible assumption | with_reducible exact GW.grow _ | with_reducible refine bl_alloc ?_ _ | with_reducible refine Below.drew ?_ | (with_reducible refine Below.setCell ?_ ?_ _; rotate_left; focus (simp; first | done | omega)) | with_reducible refine bl_trans ?_ (GW.grow _) | (with_reducible refine bl_trans ?_ (by assumption))))⟩
set_option maxHeartbeats 4000000 in
theorem rvalid_any (k b r c : Int) (sh al ct : Bool) (w : World) : Calls Tryd.prog 8 #[.agg #[.int .i64 k, .int .i64 b, .int .i64 r, .int .i64 c, .bool sh, .bool al, .bool ct]] w fun e w' => e = .returned (.bool (validE k b r c)) ∧ Below w.heap.size w w' := by
  go_enter Tryd.func8, Tryd.ntmps8
  go_wp2_with fail
  all_goals
    go_ret
    exact ⟨ret_bool (by rw [Bool.eq_iff_iff]; simp_all [validE] <;> omega), (by repeat (first | with_reducible exact Below.refl _ _ | with_reducible assumption | with_reducible exact GW.grow _ | with_reducible refine bl_alloc ?_ _ | with_reducible refine Below.drew ?_ | (with_reducible refine Below.setCell ?_ ?_ _; rotate_left; focus (simp; first | done | omega)) | with_reducible refine bl_trans ?_ (GW.grow _) | (with_reducible refine bl_trans ?_ (by assumption))))⟩
theorem press_any (b r c : Int) (w : World) : Calls Tryd.prog 10 #[.int .i64 b, .int .i64 r, .int .i64 c] w fun e w' => e = .returned (.agg #[.int .i64 1, .int .i64 b, .int .i64 r, .int .i64 c, .bool false, .bool false, .bool false]) ∧ Below w.heap.size w w' := by
  go_enter Tryd.func10, Tryd.ntmps10
  go_wp2_with fail
  refine ret_row (n := 7) rfl rfl Tryd.underlying24 rfl (by kernel_rfl) rfl ⟨_, by simp (maxDischargeDepth := 6) [go_sem] <;> rfl, rfl, ?_⟩
  exact ⟨rfl, (by repeat (first | with_reducible exact Below.refl _ _ | with_reducible assumption | with_reducible exact GW.grow _ | with_reducible refine bl_alloc ?_ _ | with_reducible refine Below.drew ?_ | (with_reducible refine Below.setCell ?_ ?_ _; rotate_left; focus (simp; first | done | omega)) | with_reducible refine bl_trans ?_ (GW.grow _) | (with_reducible refine bl_trans ?_ (by assumption))))⟩
theorem release_any (b r c : Int) (w : World) : Calls Tryd.prog 23 #[.int .i64 b, .int .i64 r, .int .i64 c] w fun e w' => e = .returned (.agg #[.int .i64 2, .int .i64 b, .int .i64 r, .int .i64 c, .bool false, .bool false, .bool false]) ∧ Below w.heap.size w w' := by
  go_enter Tryd.func23, Tryd.ntmps23
  go_wp2_with fail
  refine ret_row (n := 7) rfl rfl Tryd.underlying24 rfl (by kernel_rfl) rfl ⟨_, by simp (maxDischargeDepth := 6) [go_sem] <;> rfl, rfl, ?_⟩
  exact ⟨rfl, (by repeat (first | with_reducible exact Below.refl _ _ | with_reducible assumption | with_reducible exact GW.grow _ | with_reducible refine bl_alloc ?_ _ | with_reducible refine Below.drew ?_ | (with_reducible refine Below.setCell ?_ ?_ _; rotate_left; focus (simp; first | done | omega)) | with_reducible refine bl_trans ?_ (GW.grow _) | (with_reducible refine bl_trans ?_ (by assumption))))⟩
theorem move_any (r c : Int) (w : World) : Calls Tryd.prog 15 #[.int .i64 r, .int .i64 c] w fun e w' => e = .returned (.agg #[.int .i64 3, .int .i64 0, .int .i64 r, .int .i64 c, .bool false, .bool false, .bool false]) ∧ Below w.heap.size w w' := by
  go_enter Tryd.func15, Tryd.ntmps15
  go_wp2_with fail
  refine ret_row (n := 7) rfl rfl Tryd.underlying24 rfl (by kernel_rfl) rfl ⟨_, by simp (maxDischargeDepth := 6) [go_sem] <;> rfl, rfl, ?_⟩
  exact ⟨rfl, (by repeat (first | with_reducible exact Below.refl _ _ | with_reducible assumption | with_reducible exact GW.grow _ | with_reducible refine bl_alloc ?_ _ | with_reducible refine Below.drew ?_ | (with_reducible refine Below.setCell ?_ ?_ _; rotate_left; focus (simp; first | done | omega)) | with_reducible refine bl_trans ?_ (GW.grow _) | (with_reducible refine bl_trans ?_ (by assumption))))⟩
theorem mode_any (D o : Nat) (p : Pt) (w : World) (h : PtB w D o p) : Calls Tryd.prog 18 #[.pointer (some ⟨D, o, none⟩)] w fun e w' => e = .returned (.int .i64 p.mode) ∧ Below w.heap.size w w' := by
  obtain ⟨q0, q1, q2, q3, q4, q5⟩ := h.cells
  have hl := h.lt
  go_enter Tryd.func18, Tryd.ntmps18
  go_wp2_with fail
  go_ret
  exact ⟨rfl, Below.refl _ _⟩
theorem exact_any (D o : Nat) (p : Pt) (w : World) (h : PtB w D o p) : Calls Tryd.prog 19 #[.pointer (some ⟨D, o, none⟩)] w fun e w' => e = .returned (.bool p.exact) ∧ Below w.heap.size w w' := by
  obtain ⟨q0, q1, q2, q3, q4, q5⟩ := h.cells
  have hl := h.lt
  go_enter Tryd.func19, Tryd.ntmps19
  go_wp2_with fail
  go_ret
  exact ⟨rfl, Below.refl _ _⟩
theorem held_in (D o : Nat) (m : Int) (e x y z : Bool) (a c : Int) (t : Bool) (b : Int) (w : World) (h : PtB w D o ⟨m, e, x, y, z, a, c, t⟩) (hb : b = 1 ∨ b = 2 ∨ b = 3) : Calls Tryd.prog 20 #[.pointer (some ⟨D, o, none⟩), .int .i64 b] w fun e' w' => e' = .returned (.bool (hasB ⟨m, e, x, y, z, a, c, t⟩ b)) ∧ Below w.heap.size w w' := by
  obtain ⟨q0, q1, q2, q3, q4, q5⟩ := h.cells
  have hl := h.lt
  clear h
  rcases hb with rfl | rfl | rfl <;> cases x <;> cases y <;> cases z
  all_goals
    simp only [heldN] at q2
    go_enter Tryd.func20, Tryd.ntmps20
    go_wp2_with fail
    first | refine wp_grow2 (by kernel_rfl) (by kernel_rfl) ?_ | refine wp_grow (by kernel_rfl) (by kernel_rfl) ?_
    repeat (go_big_quiet_step (fail))
    refine wpQuiet_nil ?_
    rintro _ ⟨X, rfl⟩
    go_wp2_with fail
    go_ret
    exact ⟨rfl, X.grow⟩
theorem held_any (D o : Nat) (p : Pt) (b : Int) (w : World) (h : PtB w D o p) : Calls Tryd.prog 20 #[.pointer (some ⟨D, o, none⟩), .int .i64 b] w fun e' w' => e' = .returned (.bool (hasB p b)) ∧ Below w.heap.size w w' := by
  by_cases hb : b = 1 ∨ b = 2 ∨ b = 3
  · obtain ⟨m, e, x, y, z, a, c, t⟩ := p
    exact held_in D o m e x y z a c t b w h hb
  · have e : hasB p b = false := by unfold hasB; rw [if_neg (fun h => hb (.inl h)), if_neg (fun h => hb (.inr (.inl h))), if_neg (fun h => hb (.inr (.inr h)))]
    rw [e]
    by_cases h1 : 1 ≤ b
    · have h1' : decide (1 ≤ b) = true := decide_eq_true h1
      have h2' : decide (b ≤ 3) = false := decide_eq_false (by omega)
      go_enter Tryd.func20, Tryd.ntmps20
      go_wp2_with fail
      first | refine wp_grow2 (by kernel_rfl) (by kernel_rfl) ?_ | refine wp_grow (by kernel_rfl) (by kernel_rfl) ?_
      repeat (go_big_quiet_step (fail))
      refine wpQuiet_nil ?_
      rintro _ ⟨X, rfl⟩
      go_wp2_with fail
      go_ret
      exact ⟨rfl, X.grow⟩
    · have h1' : decide (1 ≤ b) = false := decide_eq_false h1
      go_enter Tryd.func20, Tryd.ntmps20
      go_wp2_with fail
      first | refine wp_grow2 (by kernel_rfl) (by kernel_rfl) ?_ | refine wp_grow (by kernel_rfl) (by kernel_rfl) ?_
      repeat (go_big_quiet_step (fail))
      refine wpQuiet_nil ?_
      rintro _ ⟨X, rfl⟩
      go_wp2_with fail
      go_ret
      exact ⟨rfl, X.grow⟩
theorem copy_any (D : Nat) (p : Pt) (w : World) (h : Box w D #[.int .i64 p.mode, .bool p.exact, .int .u8 (heldN p.h1 p.h2 p.h3), .int .i64 p.a0, .int .i64 p.a1, .bool p.there] 29) : Calls Tryd.prog 16 #[.pointer (some ⟨D, 0, none⟩)] w fun e w' => ∃ D', e = .returned (.pointer (some ⟨D', 0, none⟩)) ∧ w.heap.size ≤ D' ∧ Box w' D' #[.int .i64 p.mode, .bool p.exact, .int .u8 (heldN p.h1 p.h2 p.h3), .int .i64 p.a0, .int .i64 p.a1, .bool p.there] 29 ∧ Below w.heap.size w w' := by
  have hc := Box.cell h
  have hl := Box.lt h
  go_enter Tryd.func16, Tryd.ntmps16
  go_wp2_with fail
  go_ret
  exact ⟨_, rfl, Nat.le_refl _, Box.new _ _ _ rfl, (by repeat (first | with_reducible exact Below.refl _ _ | with_reducible assumption | with_reducible exact GW.grow _ | with_reducible refine bl_alloc ?_ _ | with_reducible refine Below.drew ?_ | (with_reducible refine Below.setCell ?_ ?_ _; rotate_left; focus (simp; first | done | omega)) | with_reducible refine bl_trans ?_ (GW.grow _) | (with_reducible refine bl_trans ?_ (by assumption))))⟩
theorem pt_set (w : World) (D o : Nat) (p : Pt) (m : Int) (x : Bool) (h : PtB w D o p) : PtB ((w.setCell ⟨D, o, none⟩ (.int .i64 m)).setCell ⟨D, o + 1, none⟩ (.bool x)) D o { p with mode := m, exact := x } := by
  obtain ⟨cs, t, hb, q0, q1, q2, q3, q4, q5⟩ := h
  have l1 := getElem?_lt q5
  refine ⟨_, t, (hb.set _ _).set _ _, ?_, ?_, ?_, ?_, ?_, ?_⟩
  all_goals (simp only [Array.getElem?_setIfInBounds, Array.size_setIfInBounds])
  · rw [if_neg (by omega), if_pos trivial, if_pos (by omega)]
  · rw [if_pos trivial, if_pos (by omega)]
  all_goals (rw [if_neg (by omega), if_neg (by omega)]; assumption)
def setE (m : Int) : Int := if m < 0 ∨ 3 < m then 2 else 0
def setP (p : Pt) (m : Int) (x : Bool) : Pt := if m < 0 ∨ 3 < m then p else { p with mode := m, exact := x }
theorem set_any (D o : Nat) (p : Pt) (m : Int) (x : Bool) (w : World) (h : PtB w D o p) : Calls Tryd.prog 7 #[.pointer (some ⟨D, o, none⟩), .int .i64 m, .bool x] w fun e w' => e = .returned (.int .i64 (setE m)) ∧ PtB w' D o (setP p m x) ∧ Keep D o w w' := by
  obtain ⟨q0, q1, q2, q3, q4, q5⟩ := h.cells
  have hl := h.lt
  have hf := h.free
  unfold setE setP
  by_cases hm : m < 0 ∨ 3 < m
  · rw [if_pos hm, if_pos hm]
    by_cases h1 : m < 0
    · go_enter Tryd.func7, Tryd.ntmps7
      go_wp2_with fail
      go_ret
      exact ⟨rfl, h, Keep.refl _ _ _⟩
    · have h2 : 3 < m := by omega
      go_enter Tryd.func7, Tryd.ntmps7
      go_wp2_with fail
      go_ret
      exact ⟨rfl, h, Keep.refl _ _ _⟩
  · rw [if_neg hm, if_neg hm]
    have h1 : ¬ m < 0 := fun h => hm (.inl h)
    have h2 : ¬ 3 < m := fun h => hm (.inr h)
    go_enter Tryd.func7, Tryd.ntmps7
    go_wp2_with fail
    go_ret
    exact ⟨rfl, pt_set w D o p m x h, ((Keep.refl _ _ _).set _ _ (by omega)).set _ _ (by omega)⟩

end Go.Proofs.YtfhigmogcpocpaaDoor
