/- modes: the program: change, Set, Get. -/
import Derived.Test.YtgaakkgelifgpaaDoorD
import Derived.Outline
set_option linter.unusedSimpArgs false
set_option linter.unusedVariables false
set_option linter.unnecessarySimpa false
namespace Go.Proofs.YtgaakkgelifgpaaDoor
open Go.RowKit

/-- Block D holds modes. -/
def MdB (w : World) (D : Nat) (m : Md) : Prop := Box w D #[.bool m.aw, .bool m.ori, .bool m.ins, .bool m.vis, .bool m.app, .bool m.pas, .bool m.sgr, .int .i64 m.ptr, .int .i64 m.alt] 38
theorem isM_cases (p n : Int) : isM p n = true → (p = 0 ∧ n = 4) ∨ (p = 63 ∧ n = 1) ∨ (p = 63 ∧ n = 6) ∨ (p = 63 ∧ n = 7) ∨ (p = 63 ∧ n = 25) ∨ (p = 63 ∧ n = 1006) ∨ (p = 63 ∧ n = 2004) ∨ (p = 63 ∧ n = 1000) ∨ (p = 63 ∧ n = 1002) ∨ (p = 63 ∧ n = 1003) ∨ (p = 63 ∧ n = 47) ∨ (p = 63 ∧ n = 1047) ∨ (p = 63 ∧ n = 1049) := by
  intro h
  unfold isM at h
  split at h
  · have := of_decide_eq_true h; omega
  · simp at h; omega
theorem isM_none (p n : Int) (h : isM p n = false) : plainO p n = none ∧ choiceO p n = none := by
  unfold isM at h
  by_cases h0 : p = 0
  · rw [if_pos h0] at h
    have h1 := of_decide_eq_false h
    constructor
    · unfold plainO; rw [if_neg (by omega), if_pos (by omega)]
    · unfold choiceO; rw [if_pos (by omega)]
  · rw [if_neg h0] at h
    by_cases h6 : p = 63
    · rw [h6] at h
      simp at h
      constructor
      · unfold plainO
        rw [if_neg (by omega), if_neg (by omega), if_neg (by omega), if_neg (by omega), if_neg (by omega), if_neg (by omega), if_neg (by omega), if_neg (by omega)]
      · unfold choiceO
        have e1 : ptrL.contains n = false := by simp [ptrL]; omega
        have e2 : altL.contains n = false := by simp [altL]; omega
        rw [if_neg (by omega), e1, e2]; rfl
    · constructor
      · unfold plainO; rw [if_neg (by omega), if_pos h6]
      · unfold choiceO; rw [if_pos h6]
def Changed (D : Nat) (m : Md) (p n : Int) (on : Bool) (w : World) (e : Ending) (w' : World) : Prop := e = .returned (.bool (isM p n)) ∧ MdB w' D (if isM p n = true then setM m n on else m) ∧ Bar D w w'
theorem change_0_4 (D : Nat) (m : Md) (on : Bool) (w : World) (hb : MdB w D m) : Calls Tryd.prog 39 #[.pointer (some ⟨D, 0, none⟩), .int .i32 0, .int .i64 4, .bool on] w (Changed D m 0 4 on w) := by
  have hx : Box w D #[.bool m.aw, .bool m.ori, .bool m.ins, .bool m.vis, .bool m.app, .bool m.pas, .bool m.sgr, .int .i64 m.ptr, .int .i64 m.alt] 38 := hb
  have hD := hx.lt
  have hfz := hx.free 2
  have hcl : w.cell? ⟨D, 2, none⟩ = some (.bool m.ins) := by rw [hx.cell]; rfl
  have cP : Calls Tryd.prog 44 #[.pointer (some ⟨D, 0, none⟩), .int .i32 0, .int .i64 4] w fun e w' => e = .returned (.pointer (some ⟨D, 2, none⟩)) ∧ w = w' := plain_any D 0 4 w hD
  go_enter Tryd.func39, Tryd.ntmps39
  go_wp2_with (go_at_call 44; (with_reducible refine cP.mono ?_); rintro e w' ⟨rfl, rfl⟩)
  go_ret
  refine ⟨rfl, ?_, (Bar.refl _ _).set _ _⟩
  exact (Box.as (hx.set 2 (.bool on)) (by rfl))
theorem change_63_1 (D : Nat) (m : Md) (on : Bool) (w : World) (hb : MdB w D m) : Calls Tryd.prog 39 #[.pointer (some ⟨D, 0, none⟩), .int .i32 63, .int .i64 1, .bool on] w (Changed D m 63 1 on w) := by
  have hx : Box w D #[.bool m.aw, .bool m.ori, .bool m.ins, .bool m.vis, .bool m.app, .bool m.pas, .bool m.sgr, .int .i64 m.ptr, .int .i64 m.alt] 38 := hb
  have hD := hx.lt
  have hfz := hx.free 4
  have hcl : w.cell? ⟨D, 4, none⟩ = some (.bool m.app) := by rw [hx.cell]; rfl
  have cP : Calls Tryd.prog 44 #[.pointer (some ⟨D, 0, none⟩), .int .i32 63, .int .i64 1] w fun e w' => e = .returned (.pointer (some ⟨D, 4, none⟩)) ∧ w = w' := plain_any D 63 1 w hD
  go_enter Tryd.func39, Tryd.ntmps39
  go_wp2_with (go_at_call 44; (with_reducible refine cP.mono ?_); rintro e w' ⟨rfl, rfl⟩)
  go_ret
  refine ⟨rfl, ?_, (Bar.refl _ _).set _ _⟩
  exact (Box.as (hx.set 4 (.bool on)) (by rfl))
theorem change_63_6 (D : Nat) (m : Md) (on : Bool) (w : World) (hb : MdB w D m) : Calls Tryd.prog 39 #[.pointer (some ⟨D, 0, none⟩), .int .i32 63, .int .i64 6, .bool on] w (Changed D m 63 6 on w) := by
  have hx : Box w D #[.bool m.aw, .bool m.ori, .bool m.ins, .bool m.vis, .bool m.app, .bool m.pas, .bool m.sgr, .int .i64 m.ptr, .int .i64 m.alt] 38 := hb
  have hD := hx.lt
  have hfz := hx.free 1
  have hcl : w.cell? ⟨D, 1, none⟩ = some (.bool m.ori) := by rw [hx.cell]; rfl
  have cP : Calls Tryd.prog 44 #[.pointer (some ⟨D, 0, none⟩), .int .i32 63, .int .i64 6] w fun e w' => e = .returned (.pointer (some ⟨D, 1, none⟩)) ∧ w = w' := plain_any D 63 6 w hD
  go_enter Tryd.func39, Tryd.ntmps39
  go_wp2_with (go_at_call 44; (with_reducible refine cP.mono ?_); rintro e w' ⟨rfl, rfl⟩)
  go_ret
  refine ⟨rfl, ?_, (Bar.refl _ _).set _ _⟩
  exact (Box.as (hx.set 1 (.bool on)) (by rfl))
theorem change_63_7 (D : Nat) (m : Md) (on : Bool) (w : World) (hb : MdB w D m) : Calls Tryd.prog 39 #[.pointer (some ⟨D, 0, none⟩), .int .i32 63, .int .i64 7, .bool on] w (Changed D m 63 7 on w) := by
  have hx : Box w D #[.bool m.aw, .bool m.ori, .bool m.ins, .bool m.vis, .bool m.app, .bool m.pas, .bool m.sgr, .int .i64 m.ptr, .int .i64 m.alt] 38 := hb
  have hD := hx.lt
  have hfz := hx.free 0
  have hcl : w.cell? ⟨D, 0, none⟩ = some (.bool m.aw) := by rw [hx.cell]; rfl
  have cP : Calls Tryd.prog 44 #[.pointer (some ⟨D, 0, none⟩), .int .i32 63, .int .i64 7] w fun e w' => e = .returned (.pointer (some ⟨D, 0, none⟩)) ∧ w = w' := plain_any D 63 7 w hD
  go_enter Tryd.func39, Tryd.ntmps39
  go_wp2_with (go_at_call 44; (with_reducible refine cP.mono ?_); rintro e w' ⟨rfl, rfl⟩)
  go_ret
  refine ⟨rfl, ?_, (Bar.refl _ _).set _ _⟩
  exact (Box.as (hx.set 0 (.bool on)) (by rfl))
theorem change_63_25 (D : Nat) (m : Md) (on : Bool) (w : World) (hb : MdB w D m) : Calls Tryd.prog 39 #[.pointer (some ⟨D, 0, none⟩), .int .i32 63, .int .i64 25, .bool on] w (Changed D m 63 25 on w) := by
  have hx : Box w D #[.bool m.aw, .bool m.ori, .bool m.ins, .bool m.vis, .bool m.app, .bool m.pas, .bool m.sgr, .int .i64 m.ptr, .int .i64 m.alt] 38 := hb
  have hD := hx.lt
  have hfz := hx.free 3
  have hcl : w.cell? ⟨D, 3, none⟩ = some (.bool m.vis) := by rw [hx.cell]; rfl
  have cP : Calls Tryd.prog 44 #[.pointer (some ⟨D, 0, none⟩), .int .i32 63, .int .i64 25] w fun e w' => e = .returned (.pointer (some ⟨D, 3, none⟩)) ∧ w = w' := plain_any D 63 25 w hD
  go_enter Tryd.func39, Tryd.ntmps39
  go_wp2_with (go_at_call 44; (with_reducible refine cP.mono ?_); rintro e w' ⟨rfl, rfl⟩)
  go_ret
  refine ⟨rfl, ?_, (Bar.refl _ _).set _ _⟩
  exact (Box.as (hx.set 3 (.bool on)) (by rfl))
theorem change_63_1006 (D : Nat) (m : Md) (on : Bool) (w : World) (hb : MdB w D m) : Calls Tryd.prog 39 #[.pointer (some ⟨D, 0, none⟩), .int .i32 63, .int .i64 1006, .bool on] w (Changed D m 63 1006 on w) := by
  have hx : Box w D #[.bool m.aw, .bool m.ori, .bool m.ins, .bool m.vis, .bool m.app, .bool m.pas, .bool m.sgr, .int .i64 m.ptr, .int .i64 m.alt] 38 := hb
  have hD := hx.lt
  have hfz := hx.free 6
  have hcl : w.cell? ⟨D, 6, none⟩ = some (.bool m.sgr) := by rw [hx.cell]; rfl
  have cP : Calls Tryd.prog 44 #[.pointer (some ⟨D, 0, none⟩), .int .i32 63, .int .i64 1006] w fun e w' => e = .returned (.pointer (some ⟨D, 6, none⟩)) ∧ w = w' := plain_any D 63 1006 w hD
  go_enter Tryd.func39, Tryd.ntmps39
  go_wp2_with (go_at_call 44; (with_reducible refine cP.mono ?_); rintro e w' ⟨rfl, rfl⟩)
  go_ret
  refine ⟨rfl, ?_, (Bar.refl _ _).set _ _⟩
  exact (Box.as (hx.set 6 (.bool on)) (by rfl))
theorem change_63_2004 (D : Nat) (m : Md) (on : Bool) (w : World) (hb : MdB w D m) : Calls Tryd.prog 39 #[.pointer (some ⟨D, 0, none⟩), .int .i32 63, .int .i64 2004, .bool on] w (Changed D m 63 2004 on w) := by
  have hx : Box w D #[.bool m.aw, .bool m.ori, .bool m.ins, .bool m.vis, .bool m.app, .bool m.pas, .bool m.sgr, .int .i64 m.ptr, .int .i64 m.alt] 38 := hb
  have hD := hx.lt
  have hfz := hx.free 5
  have hcl : w.cell? ⟨D, 5, none⟩ = some (.bool m.pas) := by rw [hx.cell]; rfl
  have cP : Calls Tryd.prog 44 #[.pointer (some ⟨D, 0, none⟩), .int .i32 63, .int .i64 2004] w fun e w' => e = .returned (.pointer (some ⟨D, 5, none⟩)) ∧ w = w' := plain_any D 63 2004 w hD
  go_enter Tryd.func39, Tryd.ntmps39
  go_wp2_with (go_at_call 44; (with_reducible refine cP.mono ?_); rintro e w' ⟨rfl, rfl⟩)
  go_ret
  refine ⟨rfl, ?_, (Bar.refl _ _).set _ _⟩
  exact (Box.as (hx.set 5 (.bool on)) (by rfl))
theorem change_63_1000_true (D : Nat) (m : Md) (w : World) (hb : MdB w D m) (hg : Glob w) : Calls Tryd.prog 39 #[.pointer (some ⟨D, 0, none⟩), .int .i32 63, .int .i64 1000, .bool true] w (Changed D m 63 1000 true w) := by
  have hx : Box w D #[.bool m.aw, .bool m.ori, .bool m.ins, .bool m.vis, .bool m.app, .bool m.pas, .bool m.sgr, .int .i64 m.ptr, .int .i64 m.alt] 38 := hb
  have hD := hx.lt
  have hfz := hx.free 7
  have hcl : w.cell? ⟨D, 7, none⟩ = some (.int .i64 m.ptr) := by rw [hx.cell]; rfl
  have cP : Calls Tryd.prog 44 #[.pointer (some ⟨D, 0, none⟩), .int .i32 63, .int .i64 1000] w fun e w' => e = .returned (.pointer none) ∧ w = w' := plain_any D 63 1000 w hD
  have cC : Calls Tryd.prog 45 #[.pointer (some ⟨D, 0, none⟩), .int .i32 63, .int .i64 1000] w fun e w' => e = .returned (.pointer (some ⟨D, 7, none⟩)) ∧ w = w' := choice_any D 63 1000 w hD hg
  go_enter Tryd.func39, Tryd.ntmps39
  go_wp2_with (first | (go_at_call 44; (with_reducible refine cP.mono ?_); rintro e w' ⟨rfl, rfl⟩) | (go_at_call 45; (with_reducible refine cC.mono ?_); rintro e w' ⟨rfl, rfl⟩))
  go_ret
  refine ⟨rfl, ?_, (Bar.refl _ _).set _ _⟩
  exact (Box.as (hx.set 7 (.int .i64 1000)) (by rfl))
theorem change_63_1000_false (D : Nat) (m : Md) (w : World) (hb : MdB w D m) (hg : Glob w) : Calls Tryd.prog 39 #[.pointer (some ⟨D, 0, none⟩), .int .i32 63, .int .i64 1000, .bool false] w (Changed D m 63 1000 false w) := by
  have hx : Box w D #[.bool m.aw, .bool m.ori, .bool m.ins, .bool m.vis, .bool m.app, .bool m.pas, .bool m.sgr, .int .i64 m.ptr, .int .i64 m.alt] 38 := hb
  have hD := hx.lt
  have hfz := hx.free 7
  have hcl : w.cell? ⟨D, 7, none⟩ = some (.int .i64 m.ptr) := by rw [hx.cell]; rfl
  have cP : Calls Tryd.prog 44 #[.pointer (some ⟨D, 0, none⟩), .int .i32 63, .int .i64 1000] w fun e w' => e = .returned (.pointer none) ∧ w = w' := plain_any D 63 1000 w hD
  have cC : Calls Tryd.prog 45 #[.pointer (some ⟨D, 0, none⟩), .int .i32 63, .int .i64 1000] w fun e w' => e = .returned (.pointer (some ⟨D, 7, none⟩)) ∧ w = w' := choice_any D 63 1000 w hD hg
  by_cases hq : m.ptr = 1000
  · have e : setM m 1000 false = { m with ptr := 0 } := by simp [setM, hq]
    rw [hq] at hcl
    go_enter Tryd.func39, Tryd.ntmps39
    go_wp2_with (first | (go_at_call 44; (with_reducible refine cP.mono ?_); rintro e w' ⟨rfl, rfl⟩) | (go_at_call 45; (with_reducible refine cC.mono ?_); rintro e w' ⟨rfl, rfl⟩))
    go_ret
    refine ⟨rfl, ?_, (Bar.refl _ _).set _ _⟩
    rw [show isM 63 1000 = true by decide, if_pos rfl, e]
    exact (Box.as (hx.set 7 (.int .i64 0)) (by rfl))
  · have e : setM m 1000 false = m := by simp [setM, hq]
    have hq2 : (m.ptr == 1000) = false := by simpa using hq
    go_enter Tryd.func39, Tryd.ntmps39
    go_wp2_with (first | (go_at_call 44; (with_reducible refine cP.mono ?_); rintro e w' ⟨rfl, rfl⟩) | (go_at_call 45; (with_reducible refine cC.mono ?_); rintro e w' ⟨rfl, rfl⟩))
    go_ret
    refine ⟨rfl, ?_, Bar.refl _ _⟩
    rw [show isM 63 1000 = true by decide, if_pos rfl, e]
    exact hb
theorem change_63_1002_true (D : Nat) (m : Md) (w : World) (hb : MdB w D m) (hg : Glob w) : Calls Tryd.prog 39 #[.pointer (some ⟨D, 0, none⟩), .int .i32 63, .int .i64 1002, .bool true] w (Changed D m 63 1002 true w) := by
  have hx : Box w D #[.bool m.aw, .bool m.ori, .bool m.ins, .bool m.vis, .bool m.app, .bool m.pas, .bool m.sgr, .int .i64 m.ptr, .int .i64 m.alt] 38 := hb
  have hD := hx.lt
  have hfz := hx.free 7
  have hcl : w.cell? ⟨D, 7, none⟩ = some (.int .i64 m.ptr) := by rw [hx.cell]; rfl
  have cP : Calls Tryd.prog 44 #[.pointer (some ⟨D, 0, none⟩), .int .i32 63, .int .i64 1002] w fun e w' => e = .returned (.pointer none) ∧ w = w' := plain_any D 63 1002 w hD
  have cC : Calls Tryd.prog 45 #[.pointer (some ⟨D, 0, none⟩), .int .i32 63, .int .i64 1002] w fun e w' => e = .returned (.pointer (some ⟨D, 7, none⟩)) ∧ w = w' := choice_any D 63 1002 w hD hg
  go_enter Tryd.func39, Tryd.ntmps39
  go_wp2_with (first | (go_at_call 44; (with_reducible refine cP.mono ?_); rintro e w' ⟨rfl, rfl⟩) | (go_at_call 45; (with_reducible refine cC.mono ?_); rintro e w' ⟨rfl, rfl⟩))
  go_ret
  refine ⟨rfl, ?_, (Bar.refl _ _).set _ _⟩
  exact (Box.as (hx.set 7 (.int .i64 1002)) (by rfl))
theorem change_63_1002_false (D : Nat) (m : Md) (w : World) (hb : MdB w D m) (hg : Glob w) : Calls Tryd.prog 39 #[.pointer (some ⟨D, 0, none⟩), .int .i32 63, .int .i64 1002, .bool false] w (Changed D m 63 1002 false w) := by
  have hx : Box w D #[.bool m.aw, .bool m.ori, .bool m.ins, .bool m.vis, .bool m.app, .bool m.pas, .bool m.sgr, .int .i64 m.ptr, .int .i64 m.alt] 38 := hb
  have hD := hx.lt
  have hfz := hx.free 7
  have hcl : w.cell? ⟨D, 7, none⟩ = some (.int .i64 m.ptr) := by rw [hx.cell]; rfl
  have cP : Calls Tryd.prog 44 #[.pointer (some ⟨D, 0, none⟩), .int .i32 63, .int .i64 1002] w fun e w' => e = .returned (.pointer none) ∧ w = w' := plain_any D 63 1002 w hD
  have cC : Calls Tryd.prog 45 #[.pointer (some ⟨D, 0, none⟩), .int .i32 63, .int .i64 1002] w fun e w' => e = .returned (.pointer (some ⟨D, 7, none⟩)) ∧ w = w' := choice_any D 63 1002 w hD hg
  by_cases hq : m.ptr = 1002
  · have e : setM m 1002 false = { m with ptr := 0 } := by simp [setM, hq]
    rw [hq] at hcl
    go_enter Tryd.func39, Tryd.ntmps39
    go_wp2_with (first | (go_at_call 44; (with_reducible refine cP.mono ?_); rintro e w' ⟨rfl, rfl⟩) | (go_at_call 45; (with_reducible refine cC.mono ?_); rintro e w' ⟨rfl, rfl⟩))
    go_ret
    refine ⟨rfl, ?_, (Bar.refl _ _).set _ _⟩
    rw [show isM 63 1002 = true by decide, if_pos rfl, e]
    exact (Box.as (hx.set 7 (.int .i64 0)) (by rfl))
  · have e : setM m 1002 false = m := by simp [setM, hq]
    have hq2 : (m.ptr == 1002) = false := by simpa using hq
    go_enter Tryd.func39, Tryd.ntmps39
    go_wp2_with (first | (go_at_call 44; (with_reducible refine cP.mono ?_); rintro e w' ⟨rfl, rfl⟩) | (go_at_call 45; (with_reducible refine cC.mono ?_); rintro e w' ⟨rfl, rfl⟩))
    go_ret
    refine ⟨rfl, ?_, Bar.refl _ _⟩
    rw [show isM 63 1002 = true by decide, if_pos rfl, e]
    exact hb
theorem change_63_1003_true (D : Nat) (m : Md) (w : World) (hb : MdB w D m) (hg : Glob w) : Calls Tryd.prog 39 #[.pointer (some ⟨D, 0, none⟩), .int .i32 63, .int .i64 1003, .bool true] w (Changed D m 63 1003 true w) := by
  have hx : Box w D #[.bool m.aw, .bool m.ori, .bool m.ins, .bool m.vis, .bool m.app, .bool m.pas, .bool m.sgr, .int .i64 m.ptr, .int .i64 m.alt] 38 := hb
  have hD := hx.lt
  have hfz := hx.free 7
  have hcl : w.cell? ⟨D, 7, none⟩ = some (.int .i64 m.ptr) := by rw [hx.cell]; rfl
  have cP : Calls Tryd.prog 44 #[.pointer (some ⟨D, 0, none⟩), .int .i32 63, .int .i64 1003] w fun e w' => e = .returned (.pointer none) ∧ w = w' := plain_any D 63 1003 w hD
  have cC : Calls Tryd.prog 45 #[.pointer (some ⟨D, 0, none⟩), .int .i32 63, .int .i64 1003] w fun e w' => e = .returned (.pointer (some ⟨D, 7, none⟩)) ∧ w = w' := choice_any D 63 1003 w hD hg
  go_enter Tryd.func39, Tryd.ntmps39
  go_wp2_with (first | (go_at_call 44; (with_reducible refine cP.mono ?_); rintro e w' ⟨rfl, rfl⟩) | (go_at_call 45; (with_reducible refine cC.mono ?_); rintro e w' ⟨rfl, rfl⟩))
  go_ret
  refine ⟨rfl, ?_, (Bar.refl _ _).set _ _⟩
  exact (Box.as (hx.set 7 (.int .i64 1003)) (by rfl))
theorem change_63_1003_false (D : Nat) (m : Md) (w : World) (hb : MdB w D m) (hg : Glob w) : Calls Tryd.prog 39 #[.pointer (some ⟨D, 0, none⟩), .int .i32 63, .int .i64 1003, .bool false] w (Changed D m 63 1003 false w) := by
  have hx : Box w D #[.bool m.aw, .bool m.ori, .bool m.ins, .bool m.vis, .bool m.app, .bool m.pas, .bool m.sgr, .int .i64 m.ptr, .int .i64 m.alt] 38 := hb
  have hD := hx.lt
  have hfz := hx.free 7
  have hcl : w.cell? ⟨D, 7, none⟩ = some (.int .i64 m.ptr) := by rw [hx.cell]; rfl
  have cP : Calls Tryd.prog 44 #[.pointer (some ⟨D, 0, none⟩), .int .i32 63, .int .i64 1003] w fun e w' => e = .returned (.pointer none) ∧ w = w' := plain_any D 63 1003 w hD
  have cC : Calls Tryd.prog 45 #[.pointer (some ⟨D, 0, none⟩), .int .i32 63, .int .i64 1003] w fun e w' => e = .returned (.pointer (some ⟨D, 7, none⟩)) ∧ w = w' := choice_any D 63 1003 w hD hg
  by_cases hq : m.ptr = 1003
  · have e : setM m 1003 false = { m with ptr := 0 } := by simp [setM, hq]
    rw [hq] at hcl
    go_enter Tryd.func39, Tryd.ntmps39
    go_wp2_with (first | (go_at_call 44; (with_reducible refine cP.mono ?_); rintro e w' ⟨rfl, rfl⟩) | (go_at_call 45; (with_reducible refine cC.mono ?_); rintro e w' ⟨rfl, rfl⟩))
    go_ret
    refine ⟨rfl, ?_, (Bar.refl _ _).set _ _⟩
    rw [show isM 63 1003 = true by decide, if_pos rfl, e]
    exact (Box.as (hx.set 7 (.int .i64 0)) (by rfl))
  · have e : setM m 1003 false = m := by simp [setM, hq]
    have hq2 : (m.ptr == 1003) = false := by simpa using hq
    go_enter Tryd.func39, Tryd.ntmps39
    go_wp2_with (first | (go_at_call 44; (with_reducible refine cP.mono ?_); rintro e w' ⟨rfl, rfl⟩) | (go_at_call 45; (with_reducible refine cC.mono ?_); rintro e w' ⟨rfl, rfl⟩))
    go_ret
    refine ⟨rfl, ?_, Bar.refl _ _⟩
    rw [show isM 63 1003 = true by decide, if_pos rfl, e]
    exact hb
theorem change_63_47_true (D : Nat) (m : Md) (w : World) (hb : MdB w D m) (hg : Glob w) : Calls Tryd.prog 39 #[.pointer (some ⟨D, 0, none⟩), .int .i32 63, .int .i64 47, .bool true] w (Changed D m 63 47 true w) := by
  have hx : Box w D #[.bool m.aw, .bool m.ori, .bool m.ins, .bool m.vis, .bool m.app, .bool m.pas, .bool m.sgr, .int .i64 m.ptr, .int .i64 m.alt] 38 := hb
  have hD := hx.lt
  have hfz := hx.free 8
  have hcl : w.cell? ⟨D, 8, none⟩ = some (.int .i64 m.alt) := by rw [hx.cell]; rfl
  have cP : Calls Tryd.prog 44 #[.pointer (some ⟨D, 0, none⟩), .int .i32 63, .int .i64 47] w fun e w' => e = .returned (.pointer none) ∧ w = w' := plain_any D 63 47 w hD
  have cC : Calls Tryd.prog 45 #[.pointer (some ⟨D, 0, none⟩), .int .i32 63, .int .i64 47] w fun e w' => e = .returned (.pointer (some ⟨D, 8, none⟩)) ∧ w = w' := choice_any D 63 47 w hD hg
  go_enter Tryd.func39, Tryd.ntmps39
  go_wp2_with (first | (go_at_call 44; (with_reducible refine cP.mono ?_); rintro e w' ⟨rfl, rfl⟩) | (go_at_call 45; (with_reducible refine cC.mono ?_); rintro e w' ⟨rfl, rfl⟩))
  go_ret
  refine ⟨rfl, ?_, (Bar.refl _ _).set _ _⟩
  exact (Box.as (hx.set 8 (.int .i64 47)) (by rfl))
theorem change_63_47_false (D : Nat) (m : Md) (w : World) (hb : MdB w D m) (hg : Glob w) : Calls Tryd.prog 39 #[.pointer (some ⟨D, 0, none⟩), .int .i32 63, .int .i64 47, .bool false] w (Changed D m 63 47 false w) := by
  have hx : Box w D #[.bool m.aw, .bool m.ori, .bool m.ins, .bool m.vis, .bool m.app, .bool m.pas, .bool m.sgr, .int .i64 m.ptr, .int .i64 m.alt] 38 := hb
  have hD := hx.lt
  have hfz := hx.free 8
  have hcl : w.cell? ⟨D, 8, none⟩ = some (.int .i64 m.alt) := by rw [hx.cell]; rfl
  have cP : Calls Tryd.prog 44 #[.pointer (some ⟨D, 0, none⟩), .int .i32 63, .int .i64 47] w fun e w' => e = .returned (.pointer none) ∧ w = w' := plain_any D 63 47 w hD
  have cC : Calls Tryd.prog 45 #[.pointer (some ⟨D, 0, none⟩), .int .i32 63, .int .i64 47] w fun e w' => e = .returned (.pointer (some ⟨D, 8, none⟩)) ∧ w = w' := choice_any D 63 47 w hD hg
  by_cases hq : m.alt = 47
  · have e : setM m 47 false = { m with alt := 0 } := by simp [setM, hq]
    rw [hq] at hcl
    go_enter Tryd.func39, Tryd.ntmps39
    go_wp2_with (first | (go_at_call 44; (with_reducible refine cP.mono ?_); rintro e w' ⟨rfl, rfl⟩) | (go_at_call 45; (with_reducible refine cC.mono ?_); rintro e w' ⟨rfl, rfl⟩))
    go_ret
    refine ⟨rfl, ?_, (Bar.refl _ _).set _ _⟩
    rw [show isM 63 47 = true by decide, if_pos rfl, e]
    exact (Box.as (hx.set 8 (.int .i64 0)) (by rfl))
  · have e : setM m 47 false = m := by simp [setM, hq]
    have hq2 : (m.alt == 47) = false := by simpa using hq
    go_enter Tryd.func39, Tryd.ntmps39
    go_wp2_with (first | (go_at_call 44; (with_reducible refine cP.mono ?_); rintro e w' ⟨rfl, rfl⟩) | (go_at_call 45; (with_reducible refine cC.mono ?_); rintro e w' ⟨rfl, rfl⟩))
    go_ret
    refine ⟨rfl, ?_, Bar.refl _ _⟩
    rw [show isM 63 47 = true by decide, if_pos rfl, e]
    exact hb
theorem change_63_1047_true (D : Nat) (m : Md) (w : World) (hb : MdB w D m) (hg : Glob w) : Calls Tryd.prog 39 #[.pointer (some ⟨D, 0, none⟩), .int .i32 63, .int .i64 1047, .bool true] w (Changed D m 63 1047 true w) := by
  have hx : Box w D #[.bool m.aw, .bool m.ori, .bool m.ins, .bool m.vis, .bool m.app, .bool m.pas, .bool m.sgr, .int .i64 m.ptr, .int .i64 m.alt] 38 := hb
  have hD := hx.lt
  have hfz := hx.free 8
  have hcl : w.cell? ⟨D, 8, none⟩ = some (.int .i64 m.alt) := by rw [hx.cell]; rfl
  have cP : Calls Tryd.prog 44 #[.pointer (some ⟨D, 0, none⟩), .int .i32 63, .int .i64 1047] w fun e w' => e = .returned (.pointer none) ∧ w = w' := plain_any D 63 1047 w hD
  have cC : Calls Tryd.prog 45 #[.pointer (some ⟨D, 0, none⟩), .int .i32 63, .int .i64 1047] w fun e w' => e = .returned (.pointer (some ⟨D, 8, none⟩)) ∧ w = w' := choice_any D 63 1047 w hD hg
  go_enter Tryd.func39, Tryd.ntmps39
  go_wp2_with (first | (go_at_call 44; (with_reducible refine cP.mono ?_); rintro e w' ⟨rfl, rfl⟩) | (go_at_call 45; (with_reducible refine cC.mono ?_); rintro e w' ⟨rfl, rfl⟩))
  go_ret
  refine ⟨rfl, ?_, (Bar.refl _ _).set _ _⟩
  exact (Box.as (hx.set 8 (.int .i64 1047)) (by rfl))
theorem change_63_1047_false (D : Nat) (m : Md) (w : World) (hb : MdB w D m) (hg : Glob w) : Calls Tryd.prog 39 #[.pointer (some ⟨D, 0, none⟩), .int .i32 63, .int .i64 1047, .bool false] w (Changed D m 63 1047 false w) := by
  have hx : Box w D #[.bool m.aw, .bool m.ori, .bool m.ins, .bool m.vis, .bool m.app, .bool m.pas, .bool m.sgr, .int .i64 m.ptr, .int .i64 m.alt] 38 := hb
  have hD := hx.lt
  have hfz := hx.free 8
  have hcl : w.cell? ⟨D, 8, none⟩ = some (.int .i64 m.alt) := by rw [hx.cell]; rfl
  have cP : Calls Tryd.prog 44 #[.pointer (some ⟨D, 0, none⟩), .int .i32 63, .int .i64 1047] w fun e w' => e = .returned (.pointer none) ∧ w = w' := plain_any D 63 1047 w hD
  have cC : Calls Tryd.prog 45 #[.pointer (some ⟨D, 0, none⟩), .int .i32 63, .int .i64 1047] w fun e w' => e = .returned (.pointer (some ⟨D, 8, none⟩)) ∧ w = w' := choice_any D 63 1047 w hD hg
  by_cases hq : m.alt = 1047
  · have e : setM m 1047 false = { m with alt := 0 } := by simp [setM, hq]
    rw [hq] at hcl
    go_enter Tryd.func39, Tryd.ntmps39
    go_wp2_with (first | (go_at_call 44; (with_reducible refine cP.mono ?_); rintro e w' ⟨rfl, rfl⟩) | (go_at_call 45; (with_reducible refine cC.mono ?_); rintro e w' ⟨rfl, rfl⟩))
    go_ret
    refine ⟨rfl, ?_, (Bar.refl _ _).set _ _⟩
    rw [show isM 63 1047 = true by decide, if_pos rfl, e]
    exact (Box.as (hx.set 8 (.int .i64 0)) (by rfl))
  · have e : setM m 1047 false = m := by simp [setM, hq]
    have hq2 : (m.alt == 1047) = false := by simpa using hq
    go_enter Tryd.func39, Tryd.ntmps39
    go_wp2_with (first | (go_at_call 44; (with_reducible refine cP.mono ?_); rintro e w' ⟨rfl, rfl⟩) | (go_at_call 45; (with_reducible refine cC.mono ?_); rintro e w' ⟨rfl, rfl⟩))
    go_ret
    refine ⟨rfl, ?_, Bar.refl _ _⟩
    rw [show isM 63 1047 = true by decide, if_pos rfl, e]
    exact hb
theorem change_63_1049_true (D : Nat) (m : Md) (w : World) (hb : MdB w D m) (hg : Glob w) : Calls Tryd.prog 39 #[.pointer (some ⟨D, 0, none⟩), .int .i32 63, .int .i64 1049, .bool true] w (Changed D m 63 1049 true w) := by
  have hx : Box w D #[.bool m.aw, .bool m.ori, .bool m.ins, .bool m.vis, .bool m.app, .bool m.pas, .bool m.sgr, .int .i64 m.ptr, .int .i64 m.alt] 38 := hb
  have hD := hx.lt
  have hfz := hx.free 8
  have hcl : w.cell? ⟨D, 8, none⟩ = some (.int .i64 m.alt) := by rw [hx.cell]; rfl
  have cP : Calls Tryd.prog 44 #[.pointer (some ⟨D, 0, none⟩), .int .i32 63, .int .i64 1049] w fun e w' => e = .returned (.pointer none) ∧ w = w' := plain_any D 63 1049 w hD
  have cC : Calls Tryd.prog 45 #[.pointer (some ⟨D, 0, none⟩), .int .i32 63, .int .i64 1049] w fun e w' => e = .returned (.pointer (some ⟨D, 8, none⟩)) ∧ w = w' := choice_any D 63 1049 w hD hg
  go_enter Tryd.func39, Tryd.ntmps39
  go_wp2_with (first | (go_at_call 44; (with_reducible refine cP.mono ?_); rintro e w' ⟨rfl, rfl⟩) | (go_at_call 45; (with_reducible refine cC.mono ?_); rintro e w' ⟨rfl, rfl⟩))
  go_ret
  refine ⟨rfl, ?_, (Bar.refl _ _).set _ _⟩
  exact (Box.as (hx.set 8 (.int .i64 1049)) (by rfl))
theorem change_63_1049_false (D : Nat) (m : Md) (w : World) (hb : MdB w D m) (hg : Glob w) : Calls Tryd.prog 39 #[.pointer (some ⟨D, 0, none⟩), .int .i32 63, .int .i64 1049, .bool false] w (Changed D m 63 1049 false w) := by
  have hx : Box w D #[.bool m.aw, .bool m.ori, .bool m.ins, .bool m.vis, .bool m.app, .bool m.pas, .bool m.sgr, .int .i64 m.ptr, .int .i64 m.alt] 38 := hb
  have hD := hx.lt
  have hfz := hx.free 8
  have hcl : w.cell? ⟨D, 8, none⟩ = some (.int .i64 m.alt) := by rw [hx.cell]; rfl
  have cP : Calls Tryd.prog 44 #[.pointer (some ⟨D, 0, none⟩), .int .i32 63, .int .i64 1049] w fun e w' => e = .returned (.pointer none) ∧ w = w' := plain_any D 63 1049 w hD
  have cC : Calls Tryd.prog 45 #[.pointer (some ⟨D, 0, none⟩), .int .i32 63, .int .i64 1049] w fun e w' => e = .returned (.pointer (some ⟨D, 8, none⟩)) ∧ w = w' := choice_any D 63 1049 w hD hg
  by_cases hq : m.alt = 1049
  · have e : setM m 1049 false = { m with alt := 0 } := by simp [setM, hq]
    rw [hq] at hcl
    go_enter Tryd.func39, Tryd.ntmps39
    go_wp2_with (first | (go_at_call 44; (with_reducible refine cP.mono ?_); rintro e w' ⟨rfl, rfl⟩) | (go_at_call 45; (with_reducible refine cC.mono ?_); rintro e w' ⟨rfl, rfl⟩))
    go_ret
    refine ⟨rfl, ?_, (Bar.refl _ _).set _ _⟩
    rw [show isM 63 1049 = true by decide, if_pos rfl, e]
    exact (Box.as (hx.set 8 (.int .i64 0)) (by rfl))
  · have e : setM m 1049 false = m := by simp [setM, hq]
    have hq2 : (m.alt == 1049) = false := by simpa using hq
    go_enter Tryd.func39, Tryd.ntmps39
    go_wp2_with (first | (go_at_call 44; (with_reducible refine cP.mono ?_); rintro e w' ⟨rfl, rfl⟩) | (go_at_call 45; (with_reducible refine cC.mono ?_); rintro e w' ⟨rfl, rfl⟩))
    go_ret
    refine ⟨rfl, ?_, Bar.refl _ _⟩
    rw [show isM 63 1049 = true by decide, if_pos rfl, e]
    exact hb
theorem change_any (D : Nat) (m : Md) (p n : Int) (on : Bool) (w : World) (hb : MdB w D m) (hg : Glob w) : Calls Tryd.prog 39 #[.pointer (some ⟨D, 0, none⟩), .int .i32 p, .int .i64 n, .bool on] w (Changed D m p n on w) := by
  cases hm : isM p n
  · obtain ⟨h1, h2⟩ := isM_none p n hm
    have hx : Box w D #[.bool m.aw, .bool m.ori, .bool m.ins, .bool m.vis, .bool m.app, .bool m.pas, .bool m.sgr, .int .i64 m.ptr, .int .i64 m.alt] 38 := hb
    have hD := hx.lt
    have cP := plain_any D p n w hD
    have cC := choice_any D p n w hD hg
    rw [h1] at cP
    rw [h2] at cC
    unfold Changed
    rw [hm]
    go_enter Tryd.func39, Tryd.ntmps39
    go_wp2_with (first | (go_at_call 44; (with_reducible refine cP.mono ?_); rintro e w' ⟨rfl, rfl⟩) | (go_at_call 45; (with_reducible refine cC.mono ?_); rintro e w' ⟨rfl, rfl⟩))
    go_ret
    exact ⟨rfl, hb, Bar.refl _ _⟩
  · rcases isM_cases p n hm with ⟨rfl, rfl⟩ | ⟨rfl, rfl⟩ | ⟨rfl, rfl⟩ | ⟨rfl, rfl⟩ | ⟨rfl, rfl⟩ | ⟨rfl, rfl⟩ | ⟨rfl, rfl⟩ | ⟨rfl, rfl⟩ | ⟨rfl, rfl⟩ | ⟨rfl, rfl⟩ | ⟨rfl, rfl⟩ | ⟨rfl, rfl⟩ | ⟨rfl, rfl⟩
    · exact change_0_4 D m on w hb
    · exact change_63_1 D m on w hb
    · exact change_63_6 D m on w hb
    · exact change_63_7 D m on w hb
    · exact change_63_25 D m on w hb
    · exact change_63_1006 D m on w hb
    · exact change_63_2004 D m on w hb
    · cases on
      · exact change_63_1000_false D m w hb hg
      · exact change_63_1000_true D m w hb hg
    · cases on
      · exact change_63_1002_false D m w hb hg
      · exact change_63_1002_true D m w hb hg
    · cases on
      · exact change_63_1003_false D m w hb hg
      · exact change_63_1003_true D m w hb hg
    · cases on
      · exact change_63_47_false D m w hb hg
      · exact change_63_47_true D m w hb hg
    · cases on
      · exact change_63_1047_false D m w hb hg
      · exact change_63_1047_true D m w hb hg
    · cases on
      · exact change_63_1049_false D m w hb hg
      · exact change_63_1049_true D m w hb hg

end Go.Proofs.YtgaakkgelifgpaaDoor
