/- params: a rune is added to a builder. -/
import Derived.Test.YtpkkfcfkhiaggaaMC
import Derived.Outline
set_option linter.unusedSimpArgs false
set_option linter.unusedVariables false
set_option linter.unnecessarySimpa false
namespace Go.Proofs.Ytpkkfcfkhiaggaa.Pm
open Go.RowKit

/-- A builder's numbers with a digit more. -/
def digB (ws : List Int) (r : Int) : List Int := ws.set (ws.length - 1) (min (10 * max (ws.getD (ws.length - 1) 0) 0 + (r - 48)) 9999)
def addB (ws : List Int) (ov : Bool) (r : Int) : List Int := if r = 59 then openB (if ws = [] then [-1] else ws) else if ov then (if ws = [] then [-1] else ws) else digB (if ws = [] then [-1] else ws) r
def addO (ws : List Int) (ov : Bool) (r : Int) : Bool := if r = 59 then openO (if ws = [] then [-1] else ws) ov else ov

theorem get_of_take (ls ws : List Int) (h : ls.take ws.length = ws) (j : Nat) (hj : j < ws.length) : ls.getD j 0 = ws.getD j 0 := by
  have e : ws[j]? = ls[j]? := by
    have h2 : (ls.take ws.length)[j]? = ws[j]? := by rw [h]
    rw [← h2, List.getElem?_take, if_pos hj]
  simp [List.getD, e]
theorem take_set_in (ls ws : List Int) (h : ls.take ws.length = ws) (j : Nat) (x : Int) : (ls.set j x).take (ws.set j x).length = ws.set j x := by
  rw [List.length_set, List.take_set, h]
theorem add_no (p : Option Addr) (r : Int) (w : World) (h : fineR r = false) (hr : -2147483648 ≤ r ∧ r ≤ 2147483647) : Calls Try.prog 64 #[.pointer p, .int .i32 r] w fun e w' => e = .returned (.bool false) ∧ w = w' := by
  have hf : ¬ (r = 59 ∨ (48 ≤ r ∧ r ≤ 57)) := by simpa [fineR] using h
  clear h
  have z1 : (r != 59) = true := by rw [bne_iff_ne]; omega
  cases p with
  | none =>
    go_enter Try.func64, Try.ntmps64
    go_wp2_with fail
    go_ret
    exact ⟨rfl, rfl⟩
  | some a =>
    by_cases h1 : r < 48
    · clear hf
      go_enter Try.func64, Try.ntmps64
      go_wp2_with fail
      go_ret
      exact ⟨rfl, rfl⟩
    · have h2 : 57 < r := by omega
      clear hf
      go_enter Try.func64, Try.ntmps64
      go_wp2_with fail
      go_ret
      exact ⟨rfl, rfl⟩
theorem add_nil (r : Int) (w : World) : Calls Try.prog 64 #[.pointer none, .int .i32 r] w fun e w' => e = .returned (.bool false) ∧ w = w' := by
  go_enter Try.func64, Try.ntmps64
  go_wp2_with fail
  go_ret
  exact ⟨rfl, rfl⟩
/-- What Add says of the world behind it. -/
def Added (D : Nat) (t : TypeId) (pre rest : List Value) (w : World) (ws : List Int) (ov : Bool) (e : Ending) (w' : World) : Prop := e = .returned (.bool true) ∧ Bar D w w' ∧ BldV w' D t pre rest ws ov

set_option maxRecDepth 100000 in
set_option maxHeartbeats 1000000 in
theorem add_E59 (D : Nat) (t : TypeId) (pre rest : List Value) (ws : List Int) (ov : Bool) (r : Int) (w : World) (hd : BldV w D t pre rest ws ov) (hws : ws = []) (hr : r = 59) :
    Calls Try.prog 64 #[.pointer (some ⟨D, pre.length, none⟩), .int .i32 r] w (Added D t pre rest w (openB [-1]) (openO [-1] ov)) := by
  subst hr
  subst hws
  have hd0 := hd
  obtain ⟨ls0, hl0, hw0, ht0, hx0⟩ := hd
  obtain ⟨y1, y2, y3, y4, y5⟩ := BldF.of hl0 hx0
  simp only [List.length_nil] at y2
  clear y1 ht0 hx0
  go_enter Try.func64, Try.ntmps64
  go_wp2_with (first | (go_at_call 78; (with_reducible refine (open_any D t pre rest [] ov w hd0).mono ?_); rintro e w1 ⟨rfl, hb1, hd1⟩; have hd2 : BldV w1 D t pre rest [-1] ov := hd1; clear hd1 hd0 y2 y3 y4 y5; obtain ⟨ls, hl, hw, ht, hx⟩ := id hd2; obtain ⟨y1, y2, y3, y4, y5⟩ := BldF.of hl hx; have y0 := y1 0 (by omega); rw [Nat.add_zero, get_of_take ls [-1] ht 0 (by simp)] at y0; simp only [List.getD_cons_zero] at y0; have T := Lib.hid ht; clear y1 ht) | (go_at_call 78; (with_reducible refine (open_any D t pre rest _ _ _ hd2).mono ?_); rintro e w2 ⟨rfl, hb2, hd3⟩))
  go_ret
  exact ⟨rfl, hb1.trans hb2, hd3⟩

set_option maxRecDepth 100000 in
set_option maxHeartbeats 1000000 in
theorem add_N59 (D : Nat) (t : TypeId) (pre rest : List Value) (ws : List Int) (ov : Bool) (r : Int) (w : World) (hd : BldV w D t pre rest ws ov) (hws : ws ≠ []) (hr : r = 59) :
    Calls Try.prog 64 #[.pointer (some ⟨D, pre.length, none⟩), .int .i32 r] w (Added D t pre rest w (openB ws) (openO ws ov)) := by
  subst hr
  have hd2 := hd
  obtain ⟨ls, hl, hw, ht, hx⟩ := hd
  obtain ⟨y1, y2, y3, y4, y5⟩ := BldF.of hl hx
  have hpos := List.length_pos_iff.2 hws
  have z0 : ((ws.length : Int) == 0) = false := by rw [beq_eq_false_iff_ne]; omega
  have T := Lib.hid ht
  clear ht hws
  clear y1
  go_enter Try.func64, Try.ntmps64
  go_wp2_with (go_at_call 78; (with_reducible refine (open_any D t pre rest _ _ _ hd2).mono ?_); rintro e w2 ⟨rfl, hb2, hd3⟩)
  go_ret
  exact ⟨rfl, hb2, hd3⟩

set_option maxRecDepth 100000 in
set_option maxHeartbeats 1000000 in
theorem add_Eov (D : Nat) (t : TypeId) (pre rest : List Value) (ws : List Int) (ov : Bool) (r : Int) (w : World) (hd : BldV w D t pre rest ws ov) (hws : ws = []) (hr : 48 ≤ r ∧ r ≤ 57) (ho : ov = true) :
    Calls Try.prog 64 #[.pointer (some ⟨D, pre.length, none⟩), .int .i32 r] w (Added D t pre rest w [-1] true) := by
  have z9 : (r != 59) = true := by rw [bne_iff_ne]; omega
  have z8 : (r == 59) = false := by rw [beq_eq_false_iff_ne]; omega
  subst hws
  have hd0 := hd
  obtain ⟨ls0, hl0, hw0, ht0, hx0⟩ := hd
  obtain ⟨y1, y2, y3, y4, y5⟩ := BldF.of hl0 hx0
  simp only [List.length_nil] at y2
  clear y1 ht0 hx0
  subst ho
  go_enter Try.func64, Try.ntmps64
  go_wp2_with (first | (go_at_call 78; (with_reducible refine (open_any D t pre rest [] true w hd0).mono ?_); rintro e w1 ⟨rfl, hb1, hd1⟩; have hd2 : BldV w1 D t pre rest [-1] true := hd1; clear hd1 hd0 y2 y3 y4 y5; obtain ⟨ls, hl, hw, ht, hx⟩ := id hd2; obtain ⟨y1, y2, y3, y4, y5⟩ := BldF.of hl hx; have y0 := y1 0 (by omega); rw [Nat.add_zero, get_of_take ls [-1] ht 0 (by simp)] at y0; simp only [List.getD_cons_zero] at y0; have T := Lib.hid ht; clear y1 ht))
  go_ret
  exact ⟨rfl, hb1, hd2⟩

set_option maxRecDepth 100000 in
set_option maxHeartbeats 1000000 in
theorem add_Nov (D : Nat) (t : TypeId) (pre rest : List Value) (ws : List Int) (ov : Bool) (r : Int) (w : World) (hd : BldV w D t pre rest ws ov) (hws : ws ≠ []) (hr : 48 ≤ r ∧ r ≤ 57) (ho : ov = true) :
    Calls Try.prog 64 #[.pointer (some ⟨D, pre.length, none⟩), .int .i32 r] w (Added D t pre rest w ws true) := by
  have z9 : (r != 59) = true := by rw [bne_iff_ne]; omega
  have z8 : (r == 59) = false := by rw [beq_eq_false_iff_ne]; omega
  subst ho
  have hd2 := hd
  obtain ⟨ls, hl, hw, ht, hx⟩ := hd
  obtain ⟨y1, y2, y3, y4, y5⟩ := BldF.of hl hx
  have hpos := List.length_pos_iff.2 hws
  have z0 : ((ws.length : Int) == 0) = false := by rw [beq_eq_false_iff_ne]; omega
  have T := Lib.hid ht
  clear ht hws
  clear y1
  go_enter Try.func64, Try.ntmps64
  go_wp2_with fail
  go_ret
  exact ⟨rfl, Bar.refl _ _, hd2⟩

set_option maxRecDepth 100000 in
set_option maxHeartbeats 1000000 in
theorem add_E (D : Nat) (t : TypeId) (pre rest : List Value) (ws : List Int) (ov : Bool) (r : Int) (w : World) (hd : BldV w D t pre rest ws ov) (hws : ws = []) (hr : 48 ≤ r ∧ r ≤ 57) (ho : ov = false) :
    Calls Try.prog 64 #[.pointer (some ⟨D, pre.length, none⟩), .int .i32 r] w (Added D t pre rest w (digB [-1] r) false) := by
  have z9 : (r != 59) = true := by rw [bne_iff_ne]; omega
  have z8 : (r == 59) = false := by rw [beq_eq_false_iff_ne]; omega
  subst hws
  have hd0 := hd
  obtain ⟨ls0, hl0, hw0, ht0, hx0⟩ := hd
  obtain ⟨y1, y2, y3, y4, y5⟩ := BldF.of hl0 hx0
  simp only [List.length_nil] at y2
  clear y1 ht0 hx0
  subst ho
  go_enter Try.func64, Try.ntmps64
  go_wp2_with (first | (go_at_call 78; (with_reducible refine (open_any D t pre rest [] false w hd0).mono ?_); rintro e w1 ⟨rfl, hb1, hd1⟩; have hd2 : BldV w1 D t pre rest [-1] false := hd1; clear hd1 hd0 y2 y3 y4 y5; obtain ⟨ls, hl, hw, ht, hx⟩ := id hd2; obtain ⟨y1, y2, y3, y4, y5⟩ := BldF.of hl hx; have y0 := y1 0 (by omega); rw [Nat.add_zero, get_of_take ls [-1] ht 0 (by simp)] at y0; simp only [List.getD_cons_zero] at y0; have T := Lib.hid ht; clear y1 ht))
  first | refine wp_grow2 (by kernel_rfl) (by kernel_rfl) ?_ | refine wp_grow (by kernel_rfl) (by kernel_rfl) ?_
  repeat (go_big_quiet_step (fail))
  refine wpQuiet_nil ?_
  rintro _ ⟨X, rfl⟩
  go_wp2_with fail
  all_goals
    go_ret
    refine ⟨rfl, hb1.trans (Bar.set (Bar.gw (Bar.refl _ _)) _ _), ls.set 0 (min (10 * max ([-1].getD ([-1].length - 1) 0) 0 + (r - 48)) 9999), by simpa using hl, by simpa [digB] using hw, take_set_in ls [-1] T.out _ _, ?_⟩
    have hb : ∀ v : Int, v = min (10 * max ([-1].getD ([-1].length - 1) 0) 0 + (r - 48)) 9999 → Box (X.world.setCell ⟨D, pre.length, none⟩ (.int .i64 v)) D (pre ++ bldC (ls.set 0 (min (10 * max ([-1].getD ([-1].length - 1) 0) 0 + (r - 48)) 9999)) ([-1].length : Nat) false ++ rest).toArray t := fun v e => by
      subst e
      exact Box.bset hl (Box.gw (X := X) hx) 0 (by omega) _
    rw [show ((digB [-1] r).length : Nat) = [-1].length by simp [digB]]
    exact hb _ (by simp; omega)

set_option maxRecDepth 100000 in
set_option maxHeartbeats 1000000 in
theorem add_N (D : Nat) (t : TypeId) (pre rest : List Value) (ws : List Int) (ov : Bool) (r : Int) (w : World) (hd : BldV w D t pre rest ws ov) (hws : ws ≠ []) (hr : 48 ≤ r ∧ r ≤ 57) (ho : ov = false) (hok : ∀ x ∈ ws, -1 ≤ x ∧ x ≤ 9999) :
    Calls Try.prog 64 #[.pointer (some ⟨D, pre.length, none⟩), .int .i32 r] w (Added D t pre rest w (digB ws r) false) := by
  have z9 : (r != 59) = true := by rw [bne_iff_ne]; omega
  have z8 : (r == 59) = false := by rw [beq_eq_false_iff_ne]; omega
  subst ho
  have hd2 := hd
  obtain ⟨ls, hl, hw, ht, hx⟩ := hd
  obtain ⟨y1, y2, y3, y4, y5⟩ := BldF.of hl hx
  have hpos := List.length_pos_iff.2 hws
  have z0 : ((ws.length : Int) == 0) = false := by rw [beq_eq_false_iff_ne]; omega
  obtain ⟨j, hj⟩ : ∃ j, ws.length = j + 1 := ⟨ws.length - 1, by omega⟩
  have hjl : Hid (ws.length - 1 = j) := by unfold Hid; omega
  have y0 := y1 j (by omega)
  have hm : -1 ≤ ws.getD (ws.length - 1) 0 ∧ ws.getD (ws.length - 1) 0 ≤ 9999 := by
    rw [show ws.getD (ws.length - 1) 0 = ws[ws.length - 1]'(by omega) by simp [List.getD, show ws.length - 1 < ws.length by omega]]
    exact hok _ (List.getElem_mem _)
  rw [get_of_take ls ws ht j (by omega), ← hjl.out] at y0
  rw [hjl.out] at y0 hm
  have hXX : Hid (ws.getD (ws.length - 1) 0 = ws.getD j 0) := by unfold Hid; rw [hjl.out]
  generalize hxx : ws.getD j 0 = x at *
  have HX := Lib.hid hxx
  have z5 : (ws.length : Int) - 1 = (j : Int) := by omega
  have z6 : (j : Int) < 16 := by omega
  have z7 : (0 : Int) ≤ (j : Int) := by omega
  have hj16 : j < 16 := by omega
  have hjs := Lib.hid hj
  have T := Lib.hid ht
  clear hxx hj
  clear ht hws
  clear y1 hok
  go_enter Try.func64, Try.ntmps64
  go_wp2_with fail
  first | refine wp_grow2 (by kernel_rfl) (by kernel_rfl) ?_ | refine wp_grow (by kernel_rfl) (by kernel_rfl) ?_
  repeat (go_big_quiet_step (fail))
  refine wpQuiet_nil ?_
  rintro _ ⟨X, rfl⟩
  go_wp2_with fail
  all_goals
    go_ret
    refine ⟨rfl, Bar.set (Bar.gw (Bar.refl _ _)) _ _, ls.set j (min (10 * max (ws.getD (ws.length - 1) 0) 0 + (r - 48)) 9999), by simpa using hl, by simpa [digB] using hw, by unfold digB; rw [hjl.out]; rw [← hjl.out]; exact take_set_in ls ws T.out _ _, ?_⟩
    have hb : ∀ v : Int, v = min (10 * max (ws.getD (ws.length - 1) 0) 0 + (r - 48)) 9999 → Box (X.world.setCell ⟨D, pre.length + j, none⟩ (.int .i64 v)) D (pre ++ bldC (ls.set j (min (10 * max (ws.getD (ws.length - 1) 0) 0 + (r - 48)) 9999)) (ws.length : Nat) false ++ rest).toArray t := fun v e => by
      subst e
      exact Box.bset hl (Box.gw (X := X) hx) j (by exact hj16) _
    rw [show ((digB ws r).length : Nat) = ws.length by simp [digB]]
    exact hb _ (by rw [hXX.out]; omega)

end Go.Proofs.Ytpkkfcfkhiaggaa.Pm
