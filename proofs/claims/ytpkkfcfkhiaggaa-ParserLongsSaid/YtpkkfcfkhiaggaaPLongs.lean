/- parser: ParserLongs returns true for every input. No condition. Printed by mk_pl.py. -/
import Derived.Test.YtpkkfcfkhiaggaaXM
import Derived.Test.YtpkkfcfkhiaggaaOpen
import Derived.Test.YtpkkfcfkhiaggaaLift
import Derived.ChangeSlices
import Derived.Test.YtpkkfcfkhiaggaaShelf
import Derived.Laws.Cover4
import Derived.Deep.CutBlock
import Derived.Deep.DeepCutAuto
import Derived.Outline
set_option linter.unusedSimpArgs false
set_option linter.unusedVariables false
set_option linter.unnecessarySimpa false
namespace Go.Proofs.Ytpkkfcfkhiaggaa
open Go.ChangeShapes Go.WideShapes Go.ChangeAt Go.RowKit

theorem rep_n (s : ByteArray) (c : Nat) (hc : c ≤ 10000) (hs : s.size ≤ 1000) : ∃ R : ByteArray, R.size = c * s.size ∧ ∀ w, Calls Try.prog 22 #[.string s, .int .i64 (c : Int)] w fun e w' => e = .returned (.string R) ∧ Below w.heap.size w w' :=
  ⟨_, by show (Lib.repeatL s.data.toList c).toArray.size = _; rw [List.size_toArray, Lib.repeatL_length]; rfl, fun w => Try.strings_Repeat s c w (by omega) (Nat.le_trans (Nat.mul_le_mul hs hc) (by decide))⟩
set_option maxRecDepth 100000 in
set_option maxHeartbeats 8000000 in
theorem parserLongs_any (m : Nat) (r : Int) (p i : Nat) (w : World) : Calls Try.prog 8 #[.int .u16 m, .int .i32 r, .int .u8 p, .int .u8 i] w fun e w' => e = .returned (.bool true) ∧ Below w.heap.size w w' := by
  by_cases hq1 : (m : Int) < 1020
  · go_enter Try.func8, Try.ntmps8
    go_wp2_with (go_at_call 9; (with_reducible refine (known_any _).mono ?_); rintro e w1 ⟨rfl, hb1⟩)
    go_ret
    exact ⟨rfl, hb1⟩
  by_cases hq2 : (1030 : Int) < m
  · go_enter Try.func8, Try.ntmps8
    go_wp2_with (go_at_call 9; (with_reducible refine (known_any _).mono ?_); rintro e w1 ⟨rfl, hb1⟩)
    go_ret
    exact ⟨rfl, hb1⟩
  by_cases hq3 : (100 : Int) < p
  · go_enter Try.func8, Try.ntmps8
    go_wp2_with (go_at_call 9; (with_reducible refine (known_any _).mono ?_); rintro e w1 ⟨rfl, hb1⟩)
    go_ret
    exact ⟨rfl, hb1⟩
  by_cases hq4 : (20 : Int) < i
  · go_enter Try.func8, Try.ntmps8
    go_wp2_with (go_at_call 9; (with_reducible refine (known_any _).mono ?_); rintro e w1 ⟨rfl, hb1⟩)
    go_ret
    exact ⟨rfl, hb1⟩
  have hs2 := encode_size_le r
  obtain ⟨R1, z1, cR1⟩ := rep_n ⟨#[97]⟩ m (by omega) (by decide)
  obtain ⟨R2, z2, cR2⟩ := rep_n (Utf8.encode r) 20 (by omega) (by omega)
  obtain ⟨R3, z3, cR3⟩ := rep_n ⟨#[49, 59]⟩ p (by omega) (by decide)
  obtain ⟨R4, z4, cR4⟩ := rep_n ⟨#[33]⟩ i (by omega) (by decide)
  obtain ⟨R5, z5, cR5⟩ := rep_n ⟨#[40]⟩ i (by omega) (by decide)
  rw [show (⟨#[97]⟩ : ByteArray).size = 1 from rfl] at z1
  rw [show (⟨#[49, 59]⟩ : ByteArray).size = 2 from rfl] at z3
  rw [show (⟨#[33]⟩ : ByteArray).size = 1 from rfl] at z4
  rw [show (⟨#[40]⟩ : ByteArray).size = 1 from rfl] at z5
  have z6 : R1.size ≤ 1030 := by omega
  have z7 : 1000 ≤ R1.size := by omega
  have z8 : R2.size ≤ 80 := by omega
  have z9 : R3.size ≤ 200 := by omega
  have z10 : R4.size ≤ 20 := by omega
  have z11 : R5.size ≤ 20 := by omega
  clear z1 z2 z3 z4 z5
  go_enter Try.func8, Try.ntmps8
  go_upto_region 4 with (first | (go_at_call 22; (with_reducible refine (cR1 _).mono ?_); rintro e w1 ⟨rfl, hb1⟩))
  clear cR1
  refine wp_region_V Gr (by kernel_rfl) ?_
  refine wpAnyV_takeG (A := ?A0) 0 rfl (by kernel_rfl) (by kernel_rfl) (by kernel_rfl) (fun _ _ _ _ h => h) ?q0 ?r0
  case q0 =>
    intro Y
    try simp only [List.getElem_toArray, List.getElem_cons_zero, List.getElem_cons_succ]
    go_big_quiet_step (first | (go_at_call 22; with_reducible exact GW.call (cR2 _)) | (go_at_call 22; with_reducible exact GW.call (cR3 _)) | (go_at_call 22; with_reducible exact GW.call (cR4 _)) | (go_at_call 22; with_reducible exact GW.call (cR5 _)))
    refine wpQuiet_nil ?_
    rfl
  refine wpAnyV_takeG (A := ?A1) 1 rfl (by kernel_rfl) (by kernel_rfl) (by kernel_rfl) (fun _ _ _ _ h => h) ?q1 ?r1
  case q1 =>
    intro Y
    try simp only [List.getElem_toArray, List.getElem_cons_zero, List.getElem_cons_succ]
    go_big_quiet_step (first | (go_at_call 22; with_reducible exact GW.call (cR2 _)) | (go_at_call 22; with_reducible exact GW.call (cR3 _)) | (go_at_call 22; with_reducible exact GW.call (cR4 _)) | (go_at_call 22; with_reducible exact GW.call (cR5 _)))
    refine wpQuiet_nil ?_
    rfl
  refine wpAnyV_takeG (A := ?A2) 2 rfl (by kernel_rfl) (by kernel_rfl) (by kernel_rfl) (fun _ _ _ _ h => h) ?q2 ?r2
  case q2 =>
    intro Y
    try simp only [List.getElem_toArray, List.getElem_cons_zero, List.getElem_cons_succ]
    go_big_quiet_step (first | (go_at_call 22; with_reducible exact GW.call (cR2 _)) | (go_at_call 22; with_reducible exact GW.call (cR3 _)) | (go_at_call 22; with_reducible exact GW.call (cR4 _)) | (go_at_call 22; with_reducible exact GW.call (cR5 _)))
    refine wpQuiet_nil ?_
    rfl
  refine wpAnyV_takeG (A := ?A3) 3 rfl (by kernel_rfl) (by kernel_rfl) (by kernel_rfl) (fun _ _ _ _ h => h) ?q3 ?r3
  case q3 =>
    intro Y
    try simp only [List.getElem_toArray, List.getElem_cons_zero, List.getElem_cons_succ]
    go_big_quiet_step (first | (go_at_call 22; with_reducible exact GW.call (cR2 _)) | (go_at_call 22; with_reducible exact GW.call (cR3 _)) | (go_at_call 22; with_reducible exact GW.call (cR4 _)) | (go_at_call 22; with_reducible exact GW.call (cR5 _)))
    refine wpQuiet_nil ?_
    rfl
  refine wpAnyV_takeG (A := ?A4) 4 rfl (by kernel_rfl) (by kernel_rfl) (by kernel_rfl) (fun _ _ _ _ h => h) ?q4 ?r4
  case q4 =>
    intro Y
    try simp only [List.getElem_toArray, List.getElem_cons_zero, List.getElem_cons_succ]
    go_big_quiet_step (first | (go_at_call 22; with_reducible exact GW.call (cR2 _)) | (go_at_call 22; with_reducible exact GW.call (cR3 _)) | (go_at_call 22; with_reducible exact GW.call (cR4 _)) | (go_at_call 22; with_reducible exact GW.call (cR5 _)))
    refine wpQuiet_nil ?_
    rfl
  refine wpAnyV_takeG (A := ?A5) 5 rfl (by kernel_rfl) (by kernel_rfl) (by kernel_rfl) (fun _ _ _ _ h => h) ?q5 ?r5
  case q5 =>
    intro Y
    try simp only [List.getElem_toArray, List.getElem_cons_zero, List.getElem_cons_succ]
    go_big_quiet_step (first | (go_at_call 22; with_reducible exact GW.call (cR2 _)) | (go_at_call 22; with_reducible exact GW.call (cR3 _)) | (go_at_call 22; with_reducible exact GW.call (cR4 _)) | (go_at_call 22; with_reducible exact GW.call (cR5 _)))
    refine wpQuiet_nil ?_
    rfl
  refine wpAnyV_takeG (A := ?A6) 6 rfl (by kernel_rfl) (by kernel_rfl) (by kernel_rfl) (fun _ _ _ _ h => h) ?q6 ?r6
  case q6 =>
    intro Y
    try simp only [List.getElem_toArray, List.getElem_cons_zero, List.getElem_cons_succ]
    go_big_quiet_step (first | (go_at_call 22; with_reducible exact GW.call (cR2 _)) | (go_at_call 22; with_reducible exact GW.call (cR3 _)) | (go_at_call 22; with_reducible exact GW.call (cR4 _)) | (go_at_call 22; with_reducible exact GW.call (cR5 _)))
    refine wpQuiet_nil ?_
    rfl
  refine wpAnyV_takeG (A := ?A7) 7 rfl (by kernel_rfl) (by kernel_rfl) (by kernel_rfl) (fun _ _ _ _ h => h) ?q7 ?r7
  case q7 =>
    intro Y
    try simp only [List.getElem_toArray, List.getElem_cons_zero, List.getElem_cons_succ]
    go_big_quiet_step (first | (go_at_call 22; with_reducible exact GW.call (cR2 _)) | (go_at_call 22; with_reducible exact GW.call (cR3 _)) | (go_at_call 22; with_reducible exact GW.call (cR4 _)) | (go_at_call 22; with_reducible exact GW.call (cR5 _)))
    refine wpQuiet_nil ?_
    rfl
  refine wpAnyV_takeG (A := ?A8) 8 rfl (by kernel_rfl) (by kernel_rfl) (by kernel_rfl) (fun _ _ _ _ h => h) ?q8 ?r8
  case q8 =>
    intro Y
    try simp only [List.getElem_toArray, List.getElem_cons_zero, List.getElem_cons_succ]
    go_big_quiet_step (first | (go_at_call 22; with_reducible exact GW.call (cR2 _)) | (go_at_call 22; with_reducible exact GW.call (cR3 _)) | (go_at_call 22; with_reducible exact GW.call (cR4 _)) | (go_at_call 22; with_reducible exact GW.call (cR5 _)))
    refine wpQuiet_nil ?_
    rfl
  refine wpAnyV_takeG (A := ?A9) 9 rfl (by kernel_rfl) (by kernel_rfl) (by kernel_rfl) (fun _ _ _ _ h => h) ?q9 ?r9
  case q9 =>
    intro Y
    try simp only [List.getElem_toArray, List.getElem_cons_zero, List.getElem_cons_succ]
    go_big_quiet_step (first | (go_at_call 22; with_reducible exact GW.call (cR2 _)) | (go_at_call 22; with_reducible exact GW.call (cR3 _)) | (go_at_call 22; with_reducible exact GW.call (cR4 _)) | (go_at_call 22; with_reducible exact GW.call (cR5 _)))
    refine wpQuiet_nil ?_
    rfl
  refine wpAnyV_takeG (A := ?A10) 10 rfl (by kernel_rfl) (by kernel_rfl) (by kernel_rfl) (fun _ _ _ _ h => h) ?q10 ?r10
  case q10 =>
    intro Y
    try simp only [List.getElem_toArray, List.getElem_cons_zero, List.getElem_cons_succ]
    go_big_quiet_step (first | (go_at_call 22; with_reducible exact GW.call (cR2 _)) | (go_at_call 22; with_reducible exact GW.call (cR3 _)) | (go_at_call 22; with_reducible exact GW.call (cR4 _)) | (go_at_call 22; with_reducible exact GW.call (cR5 _)))
    refine wpQuiet_nil ?_
    rfl
  refine wpAnyV_takeG (A := ?A11) 11 rfl (by kernel_rfl) (by kernel_rfl) (by kernel_rfl) (fun _ _ _ _ h => h) ?q11 ?r11
  case q11 =>
    intro Y
    try simp only [List.getElem_toArray, List.getElem_cons_zero, List.getElem_cons_succ]
    go_big_quiet_step (first | (go_at_call 22; with_reducible exact GW.call (cR2 _)) | (go_at_call 22; with_reducible exact GW.call (cR3 _)) | (go_at_call 22; with_reducible exact GW.call (cR4 _)) | (go_at_call 22; with_reducible exact GW.call (cR5 _)))
    refine wpQuiet_nil ?_
    rfl
  refine wpAnyV_takeG (A := ?A12) 12 rfl (by kernel_rfl) (by kernel_rfl) (by kernel_rfl) (fun _ _ _ _ h => h) ?q12 ?r12
  case q12 =>
    intro Y
    try simp only [List.getElem_toArray, List.getElem_cons_zero, List.getElem_cons_succ]
    go_big_quiet_step (first | (go_at_call 22; with_reducible exact GW.call (cR2 _)) | (go_at_call 22; with_reducible exact GW.call (cR3 _)) | (go_at_call 22; with_reducible exact GW.call (cR4 _)) | (go_at_call 22; with_reducible exact GW.call (cR5 _)))
    refine wpQuiet_nil ?_
    rfl
  refine wpAnyV_takeG (A := ?A13) 13 rfl (by kernel_rfl) (by kernel_rfl) (by kernel_rfl) (fun _ _ _ _ h => h) ?q13 ?r13
  case q13 =>
    intro Y
    try simp only [List.getElem_toArray, List.getElem_cons_zero, List.getElem_cons_succ]
    go_big_quiet_step (first | (go_at_call 22; with_reducible exact GW.call (cR2 _)) | (go_at_call 22; with_reducible exact GW.call (cR3 _)) | (go_at_call 22; with_reducible exact GW.call (cR4 _)) | (go_at_call 22; with_reducible exact GW.call (cR5 _)))
    refine wpQuiet_nil ?_
    rfl
  refine wpAnyV_takeG (A := ?A14) 14 rfl (by kernel_rfl) (by kernel_rfl) (by kernel_rfl) (fun _ _ _ _ h => h) ?q14 ?r14
  case q14 =>
    intro Y
    try simp only [List.getElem_toArray, List.getElem_cons_zero, List.getElem_cons_succ]
    go_big_quiet_step (first | (go_at_call 22; with_reducible exact GW.call (cR2 _)) | (go_at_call 22; with_reducible exact GW.call (cR3 _)) | (go_at_call 22; with_reducible exact GW.call (cR4 _)) | (go_at_call 22; with_reducible exact GW.call (cR5 _)))
    refine wpQuiet_nil ?_
    rfl
  refine wpAnyV_takeG (A := ?A15) 15 rfl (by kernel_rfl) (by kernel_rfl) (by kernel_rfl) (fun _ _ _ _ h => h) ?q15 ?r15
  case q15 =>
    intro Y
    try simp only [List.getElem_toArray, List.getElem_cons_zero, List.getElem_cons_succ]
    go_big_quiet_step (first | (go_at_call 22; with_reducible exact GW.call (cR2 _)) | (go_at_call 22; with_reducible exact GW.call (cR3 _)) | (go_at_call 22; with_reducible exact GW.call (cR4 _)) | (go_at_call 22; with_reducible exact GW.call (cR5 _)))
    refine wpQuiet_nil ?_
    rfl
  refine wpAnyV_takeG (A := ?A16) 16 rfl (by kernel_rfl) (by kernel_rfl) (by kernel_rfl) (fun _ _ _ _ h => h) ?q16 ?r16
  case q16 =>
    intro Y
    try simp only [List.getElem_toArray, List.getElem_cons_zero, List.getElem_cons_succ]
    go_big_quiet_step (first | (go_at_call 22; with_reducible exact GW.call (cR2 _)) | (go_at_call 22; with_reducible exact GW.call (cR3 _)) | (go_at_call 22; with_reducible exact GW.call (cR4 _)) | (go_at_call 22; with_reducible exact GW.call (cR5 _)))
    refine wpQuiet_nil ?_
    rfl
  refine wpAnyV_takeG (A := ?A17) 17 rfl (by kernel_rfl) (by kernel_rfl) (by kernel_rfl) (fun _ _ _ _ h => h) ?q17 ?r17
  case q17 =>
    intro Y
    try simp only [List.getElem_toArray, List.getElem_cons_zero, List.getElem_cons_succ]
    go_big_quiet_step (first | (go_at_call 22; with_reducible exact GW.call (cR2 _)) | (go_at_call 22; with_reducible exact GW.call (cR3 _)) | (go_at_call 22; with_reducible exact GW.call (cR4 _)) | (go_at_call 22; with_reducible exact GW.call (cR5 _)))
    refine wpQuiet_nil ?_
    rfl
  refine wpAnyV_takeG (A := ?A18) 18 rfl (by kernel_rfl) (by kernel_rfl) (by kernel_rfl) (fun _ _ _ _ h => h) ?q18 ?r18
  case q18 =>
    intro Y
    try simp only [List.getElem_toArray, List.getElem_cons_zero, List.getElem_cons_succ]
    go_big_quiet_step (first | (go_at_call 22; with_reducible exact GW.call (cR2 _)) | (go_at_call 22; with_reducible exact GW.call (cR3 _)) | (go_at_call 22; with_reducible exact GW.call (cR4 _)) | (go_at_call 22; with_reducible exact GW.call (cR5 _)))
    refine wpQuiet_nil ?_
    rfl
  refine wpAnyV_takeG (A := ?A19) 19 rfl (by kernel_rfl) (by kernel_rfl) (by kernel_rfl) (fun _ _ _ _ h => h) ?q19 ?r19
  case q19 =>
    intro Y
    try simp only [List.getElem_toArray, List.getElem_cons_zero, List.getElem_cons_succ]
    go_big_quiet_step (first | (go_at_call 22; with_reducible exact GW.call (cR2 _)) | (go_at_call 22; with_reducible exact GW.call (cR3 _)) | (go_at_call 22; with_reducible exact GW.call (cR4 _)) | (go_at_call 22; with_reducible exact GW.call (cR5 _)))
    refine wpQuiet_nil ?_
    rfl
  refine wpAnyV_takeG (A := ?A20) 20 rfl (by kernel_rfl) (by kernel_rfl) (by kernel_rfl) (fun _ _ _ _ h => h) ?q20 ?r20
  case q20 =>
    intro Y
    try simp only [List.getElem_toArray, List.getElem_cons_zero, List.getElem_cons_succ]
    go_big_quiet_step (first | (go_at_call 22; with_reducible exact GW.call (cR2 _)) | (go_at_call 22; with_reducible exact GW.call (cR3 _)) | (go_at_call 22; with_reducible exact GW.call (cR4 _)) | (go_at_call 22; with_reducible exact GW.call (cR5 _)))
    refine wpQuiet_nil ?_
    rfl
  refine wpAnyV_takeG (A := ?A21) 21 rfl (by kernel_rfl) (by kernel_rfl) (by kernel_rfl) (fun _ _ _ _ h => h) ?q21 ?r21
  case q21 =>
    intro Y
    try simp only [List.getElem_toArray, List.getElem_cons_zero, List.getElem_cons_succ]
    go_big_quiet_step (first | (go_at_call 22; with_reducible exact GW.call (cR2 _)) | (go_at_call 22; with_reducible exact GW.call (cR3 _)) | (go_at_call 22; with_reducible exact GW.call (cR4 _)) | (go_at_call 22; with_reducible exact GW.call (cR5 _)))
    refine wpQuiet_nil ?_
    rfl
  refine wpAnyV_takeG (A := ?A22) 22 rfl (by kernel_rfl) (by kernel_rfl) (by kernel_rfl) (fun _ _ _ _ h => h) ?q22 ?r22
  case q22 =>
    intro Y
    try simp only [List.getElem_toArray, List.getElem_cons_zero, List.getElem_cons_succ]
    go_big_quiet_step (first | (go_at_call 22; with_reducible exact GW.call (cR2 _)) | (go_at_call 22; with_reducible exact GW.call (cR3 _)) | (go_at_call 22; with_reducible exact GW.call (cR4 _)) | (go_at_call 22; with_reducible exact GW.call (cR5 _)))
    refine wpQuiet_nil ?_
    rfl
  refine wpAnyV_takeG (A := ?A23) 23 rfl (by kernel_rfl) (by kernel_rfl) (by kernel_rfl) (fun _ _ _ _ h => h) ?q23 ?r23
  case q23 =>
    intro Y
    try simp only [List.getElem_toArray, List.getElem_cons_zero, List.getElem_cons_succ]
    go_big_quiet_step (first | (go_at_call 22; with_reducible exact GW.call (cR2 _)) | (go_at_call 22; with_reducible exact GW.call (cR3 _)) | (go_at_call 22; with_reducible exact GW.call (cR4 _)) | (go_at_call 22; with_reducible exact GW.call (cR5 _)))
    refine wpQuiet_nil ?_
    rfl
  refine wpAnyV_takeG (A := ?A24) 24 rfl (by kernel_rfl) (by kernel_rfl) (by kernel_rfl) (fun _ _ _ _ h => h) ?q24 ?r24
  case q24 =>
    intro Y
    try simp only [List.getElem_toArray, List.getElem_cons_zero, List.getElem_cons_succ]
    go_big_quiet_step (first | (go_at_call 22; with_reducible exact GW.call (cR2 _)) | (go_at_call 22; with_reducible exact GW.call (cR3 _)) | (go_at_call 22; with_reducible exact GW.call (cR4 _)) | (go_at_call 22; with_reducible exact GW.call (cR5 _)))
    refine wpQuiet_nil ?_
    rfl
  refine wpAnyV_takeG (A := ?A25) 25 rfl (by kernel_rfl) (by kernel_rfl) (by kernel_rfl) (fun _ _ _ _ h => h) ?q25 ?r25
  case q25 =>
    intro Y
    try simp only [List.getElem_toArray, List.getElem_cons_zero, List.getElem_cons_succ]
    go_big_quiet_step (first | (go_at_call 22; with_reducible exact GW.call (cR2 _)) | (go_at_call 22; with_reducible exact GW.call (cR3 _)) | (go_at_call 22; with_reducible exact GW.call (cR4 _)) | (go_at_call 22; with_reducible exact GW.call (cR5 _)))
    refine wpQuiet_nil ?_
    rfl
  refine wpAnyV_takeG (A := ?A26) 26 rfl (by kernel_rfl) (by kernel_rfl) (by kernel_rfl) (fun _ _ _ _ h => h) ?q26 ?r26
  case q26 =>
    intro Y
    try simp only [List.getElem_toArray, List.getElem_cons_zero, List.getElem_cons_succ]
    go_big_quiet_step (first | (go_at_call 22; with_reducible exact GW.call (cR2 _)) | (go_at_call 22; with_reducible exact GW.call (cR3 _)) | (go_at_call 22; with_reducible exact GW.call (cR4 _)) | (go_at_call 22; with_reducible exact GW.call (cR5 _)))
    refine wpQuiet_nil ?_
    rfl
  refine wpAnyV_takeG (A := ?A27) 27 rfl (by kernel_rfl) (by kernel_rfl) (by kernel_rfl) (fun _ _ _ _ h => h) ?q27 ?r27
  case q27 =>
    intro Y
    try simp only [List.getElem_toArray, List.getElem_cons_zero, List.getElem_cons_succ]
    go_big_quiet_step (first | (go_at_call 22; with_reducible exact GW.call (cR2 _)) | (go_at_call 22; with_reducible exact GW.call (cR3 _)) | (go_at_call 22; with_reducible exact GW.call (cR4 _)) | (go_at_call 22; with_reducible exact GW.call (cR5 _)))
    refine wpQuiet_nil ?_
    rfl
  refine wpAnyV_takeG (A := ?A28) 28 rfl (by kernel_rfl) (by kernel_rfl) (by kernel_rfl) (fun _ _ _ _ h => h) ?q28 ?r28
  case q28 =>
    intro Y
    try simp only [List.getElem_toArray, List.getElem_cons_zero, List.getElem_cons_succ]
    go_big_quiet_step (first | (go_at_call 22; with_reducible exact GW.call (cR2 _)) | (go_at_call 22; with_reducible exact GW.call (cR3 _)) | (go_at_call 22; with_reducible exact GW.call (cR4 _)) | (go_at_call 22; with_reducible exact GW.call (cR5 _)))
    refine wpQuiet_nil ?_
    rfl
  refine wpAnyV_takeG (A := ?A31) 31 rfl (by kernel_rfl) (by kernel_rfl) (by kernel_rfl) (fun _ _ _ _ h => h) ?q31 ?r31
  case q31 =>
    intro Y
    try simp only [List.getElem_toArray, List.getElem_cons_zero, List.getElem_cons_succ]
    go_big_quiet_step (first | (go_at_call 22; with_reducible exact GW.call (cR2 _)) | (go_at_call 22; with_reducible exact GW.call (cR3 _)) | (go_at_call 22; with_reducible exact GW.call (cR4 _)) | (go_at_call 22; with_reducible exact GW.call (cR5 _)))
    refine wpQuiet_nil ?_
    rfl
  refine wpAnyV_one 29 (by kernel_rfl) ?_
  intro W hW
  obtain ⟨X, rfl⟩ := GW.of hW
  refine wpOp_step rfl (fun K hK => ?_)
  go_simp
  refine hK _ _ ⟨(Below.refl _ _).alloc (Nat.le_refl _) _, ?_⟩
  clear hK K
  try simp only [Act.put, List.getElem_toArray, List.getElem_cons_zero, List.getElem_cons_succ, List.setIfInBounds_toArray, List.set_cons_zero, List.set_cons_succ]
  refine wpAnyV_takeG (A := ?A30) 30 rfl (by kernel_rfl) (by kernel_rfl) (by kernel_rfl) (fun _ _ _ _ h => h) ?q30 ?r30
  case q30 =>
    intro Y
    try simp only [List.getElem_toArray, List.getElem_cons_zero, List.getElem_cons_succ]
    go_big_quiet_step (fail)
    refine wpQuiet_nil ?_
    rfl
  refine wpAnyV_done (by kernel_rfl) ?_ _
  intro W hW
  have hW1 := hW
  have l0 : (⟨#[27, 93]⟩ : ByteArray).size = 2 := rfl
  have l1 : (⟨#[98, 7]⟩ : ByteArray).size = 2 := rfl
  have l2 : (⟨#[99, 27, 92]⟩ : ByteArray).size = 3 := rfl
  have l3 : (⟨#[27, 91]⟩ : ByteArray).size = 2 := rfl
  have l4 : (⟨#[50]⟩ : ByteArray).size = 1 := rfl
  have l5 : (⟨#[109]⟩ : ByteArray).size = 1 := rfl
  have l6 : (⟨#[27]⟩ : ByteArray).size = 1 := rfl
  have l7 : (⟨#[66]⟩ : ByteArray).size = 1 := rfl
  have hx0 : (R1.extract 0 1000).size ≤ 1030 := by rw [ByteArray.size_extract]; omega
  have hS1 : (⟨#[27, 93]⟩ ++ R1 ++ Utf8.encode r ++ ⟨#[98, 7]⟩ : ByteArray).size ≤ 2000 := by simp only [ByteArray.size_append, l0, l1, l2, l3, l4, l5, l6, l7]; omega
  have hS2 : (⟨#[27, 93]⟩ ++ R1.extract 0 1000 ++ R2 ++ ⟨#[99, 27, 92]⟩ : ByteArray).size ≤ 2000 := by simp only [ByteArray.size_append, l0, l1, l2, l3, l4, l5, l6, l7]; omega
  have hS3 : (⟨#[27, 91]⟩ ++ R3 ++ ⟨#[50]⟩ ++ R4 ++ ⟨#[109]⟩ : ByteArray).size ≤ 2000 := by simp only [ByteArray.size_append, l0, l1, l2, l3, l4, l5, l6, l7]; omega
  have hS4 : (⟨#[27]⟩ ++ R5 ++ ⟨#[66]⟩ : ByteArray).size ≤ 2000 := by simp only [ByteArray.size_append, l0, l1, l2, l3, l4, l5, l6, l7]; omega
  clear l0 l1 l2 l3 l4 l5 l6 l7 hx0 cR2 cR3 cR4 cR5
  generalize (⟨#[27, 93]⟩ ++ R1 ++ Utf8.encode r ++ ⟨#[98, 7]⟩ : ByteArray) = S1 at *
  generalize (⟨#[27, 93]⟩ ++ R1.extract 0 1000 ++ R2 ++ ⟨#[99, 27, 92]⟩ : ByteArray) = S2 at *
  generalize (⟨#[27, 91]⟩ ++ R3 ++ ⟨#[50]⟩ ++ R4 ++ ⟨#[109]⟩ : ByteArray) = S3 at *
  generalize (⟨#[27]⟩ ++ R5 ++ ⟨#[66]⟩ : ByteArray) = S4 at *
  have hX0 : Below w.heap.size w X.world := bl_trans hb1 (bl_trans (Below.refl _ _).drew X.grow)
  generalize X.world = W0 at *
  have xS := Box.past hW (Box.new W0 #[.string S1, .string S2, .string S3, .string S4] 9 rfl)
  have hXW : Below w.heap.size w W := bl_trans (bl_alloc hX0 _) hW
  have hcell : ∀ j : Nat, j < 4 → ∃ S : ByteArray, W.cell? ⟨W0.heap.size, j, none⟩ = some (.string S) ∧ S.size ≤ 2000 := by
    intro j hj
    obtain rfl | rfl | rfl | rfl : j = 0 ∨ j = 1 ∨ j = 2 ∨ j = 3 := by omega
    · exact ⟨S1, xS.cell 0, hS1⟩
    · exact ⟨S2, xS.cell 1, hS2⟩
    · exact ⟨S3, xS.cell 2, hS3⟩
    · exact ⟨S4, xS.cell 3, hS4⟩
  have xl := xS.lt
  clear xS hS1 hS2 hS3 hS4 hW1 hW hs2 z6 z7 z8 z9 z10 z11
  go_wp2_with fail
  go_loopw [64] (fun i wr => ∃ k : Nat, k ≤ 4 ∧ i = .int .i64 k ∧ Below W.heap.size W wr) (fun i _ => 4 - (intOf i).toNat)
  case atStart => exact ⟨0, by omega, rfl, Below.refl _ _⟩
  case round =>
    obtain ⟨k, hk, rfl, hbel⟩ := hrel
    by_cases hlt : k < 4
    · obtain ⟨S, hc, hS⟩ := hcell k hlt
      have hcw := (hbel.cell (p := ⟨W0.heap.size, k, none⟩) xl).trans hc
      have xl2 := Nat.lt_of_lt_of_le xl hbel.size
      have zk1 : (0 : Int) ≤ (k : Int) := by omega
      have zk2 : (k : Int) < 4 := by omega
      have hsz0 : S.size ≤ maxLen := Nat.le_trans hS (by decide)
      have hb := bytesOf_byte S
      have hlen : (bytesOf S).length ≤ 2000 := by rw [bytesOf_len]; exact hS
      obtain ⟨xs, hxs⟩ : ∃ xs, xs = bytesOf S := ⟨_, rfl⟩
      rw [← hxs] at hb hlen
      have HX := Lib.hid hxs
      clear hxs hcell
      have hp0 := PV.new wr
      have g0 : Below wr.heap.size wr (wr.alloc (.cells #[.slice none 0 0, .int .i64 0, .int .u8 0, .int .u8 0, .int .i64 0, .int .i32 0, .string ⟨#[]⟩, .int .i64 0, .int .i64 0, .int .i64 0, .int .i64 0, .int .i64 0, .int .i64 0, .int .i64 0, .int .i64 0, .int .i64 0, .int .i64 0, .int .i64 0, .int .i64 0, .int .i64 0, .int .i64 0, .int .i64 0, .int .i64 0, .int .i64 0, .bool false, .slice none 0 0] 31)) := bl_alloc (Below.refl _ _) _
      have hgs : (wr.alloc (.cells #[.slice none 0 0, .int .i64 0, .int .u8 0, .int .u8 0, .int .i64 0, .int .i32 0, .string ⟨#[]⟩, .int .i64 0, .int .i64 0, .int .i64 0, .int .i64 0, .int .i64 0, .int .i64 0, .int .i64 0, .int .i64 0, .int .i64 0, .int .i64 0, .int .i64 0, .int .i64 0, .int .i64 0, .int .i64 0, .int .i64 0, .int .i64 0, .int .i64 0, .bool false, .slice none 0 0] 31)).heap.size = wr.heap.size + 1 := by simp
      obtain ⟨hok, hfew⟩ := rwrite_ok xs hb
      obtain ⟨hsim, hal⟩ := pwrite_sim xs
      have cR : ∀ W1 vb, Rd W1 .u8 vb xs → Calls Try.prog 10 #[.agg #[.string ⟨#[]⟩, .string ⟨#[]⟩, .slice none 0 0], vb] W1 (RWr W1 (rsWrite rs0 xs)) := fun W1 vb h => rwrite_any vb xs W1 h hb (by omega)
      have cP : ∀ W1 vb, Below (wr.alloc (.cells #[.slice none 0 0, .int .i64 0, .int .u8 0, .int .u8 0, .int .i64 0, .int .i32 0, .string ⟨#[]⟩, .int .i64 0, .int .i64 0, .int .i64 0, .int .i64 0, .int .i64 0, .int .i64 0, .int .i64 0, .int .i64 0, .int .i64 0, .int .i64 0, .int .i64 0, .int .i64 0, .int .i64 0, .int .i64 0, .int .i64 0, .int .i64 0, .int .i64 0, .bool false, .slice none 0 0] 31)).heap.size (wr.alloc (.cells #[.slice none 0 0, .int .i64 0, .int .u8 0, .int .u8 0, .int .i64 0, .int .i32 0, .string ⟨#[]⟩, .int .i64 0, .int .i64 0, .int .i64 0, .int .i64 0, .int .i64 0, .int .i64 0, .int .i64 0, .int .i64 0, .int .i64 0, .int .i64 0, .int .i64 0, .int .i64 0, .int .i64 0, .int .i64 0, .int .i64 0, .int .i64 0, .int .i64 0, .bool false, .slice none 0 0] 31)) W1 → Rd W1 .u8 vb xs → vb.ownBlock ≠ some wr.heap.size → Calls Try.prog 11 #[.pointer (some ⟨wr.heap.size, 0, none⟩), vb] W1 (Stepd wr.heap.size (fun _ => False) W1 (psWrite ps0 xs)) := fun W1 vb h1 h2 h3 => pwrite_any wr.heap.size _ ps0 _ xs W1 (hp0.past h1) (fun _ h => h.elim) h2 h3 hb (by omega)
      generalize psWrite ps0 xs = P1 at *
      generalize rsWrite rs0 xs = R1 at *
      clear hp0
      generalize hW0 : (wr.alloc (.cells #[.slice none 0 0, .int .i64 0, .int .u8 0, .int .u8 0, .int .i64 0, .int .i32 0, .string ⟨#[]⟩, .int .i64 0, .int .i64 0, .int .i64 0, .int .i64 0, .int .i64 0, .int .i64 0, .int .i64 0, .int .i64 0, .int .i64 0, .int .i64 0, .int .i64 0, .int .i64 0, .int .i64 0, .int .i64 0, .int .i64 0, .int .i64 0, .int .i64 0, .bool false, .slice none 0 0] 31)) = W2 at *
      go_upto_region 8 with fail
      try rw [hW0]
      clear hW0
      go_wp2_with (first | (refine wpList_bytes rfl _ 9 22 5 rfl Try.underlying9 Try.underlying22 Try.underlying5 _ rfl hsz0 ?_; intro vb wb hrd hfr hbb; rw [← HX.out] at hrd; obtain ⟨qb, nb, hvb⟩ := Rd.lits hrd; subst hvb) | (go_at_call 10; (with_reducible refine (cR _ _ hrd).mono ?_); rintro e w3 ⟨q, c, v1, ys, rfl, k1, k2, hb3⟩; have xB := Box.new w3 #[.string (opS R1.1.op), .string (strOfNums R1.1.sq), .slice q R1.1.d.length c] 35 rfl; have hW3 : Below W2.heap.size W2 (w3.alloc (.cells #[.string (opS R1.1.op), .string (strOfNums R1.1.sq), .slice q R1.1.d.length c] 35)) := bl_alloc (bl_trans hbb hb3) _; have hs3 := (bl_trans hbb hb3).size; have hs4 := hbb.size) | (go_at_call 11; (with_reducible refine (cP _ _ (bl_trans hW3 hbb) hrd (fun e => (by have := hrd.fresh hfr _ e; have := hW3.size; omega))).mono ?_); rintro e w5 ⟨v3, zs, rfl, m1, m2, m3, m4⟩; have hs5 := m3.size; have hA : RdA w5 v3 R1.2 := (m1.trans hal) ▸ m2.rd; have hB : RdA w5 v1 R1.2 := k1 ▸ ((k2.kept (bl_trans (bl_alloc (Below.refl _ _) _) hbb)).bar m3 (by omega)).rd; have hW5 := bl_trans hW3 hbb) | (go_at_call 12; (with_reducible refine (rsame_any _ _ R1.2 w5 hA hB).mono ?_); rintro e w6 ⟨rfl, hb6⟩; have hp6 := m4.past hb6; have xB6 := Box.past hb6 ((Box.past hbb xB).bar m3 (by omega)); have yc := xB6.cell; have yl := xB6.lt) | (go_at_call 14; (with_reducible refine (looks_any wr.heap.size _ P1.1 R1.1 q c _ w6 hp6 hsim hok (by omega)).mono ?_); rintro e w7 ⟨rfl, hb7⟩))
      go_roundw
      case rel => exact ⟨k + 1, by omega, by go_num, bl_trans hbel (bl_trans (bl_trans (Bar.to_below (bl_trans g0 hW5) m3 (Nat.le_refl _)) hb6) hb7)⟩
      case measure => simp [intOf]; omega
    · clear hcell
      go_wp2_with (go_at_call 9; (with_reducible refine (known_any _).mono ?_); rintro e w8 ⟨rfl, hb8⟩)
      go_ret
      exact ⟨rfl, bl_trans (bl_trans hXW hbel) hb8⟩
theorem wf_u16 {n : Int} (h : (Lit.int .u16 n).wf = true) : ∃ m : Nat, n = m := by
  simp only [Lit.wf, Bool.and_eq_true, decide_eq_true_eq] at h
  have e1 : IntKind.u16.min = 0 := by decide
  rw [e1] at h
  exact ⟨n.toNat, by omega⟩
theorem wf_u8n {n : Int} (h : (Lit.int .u8 n).wf = true) : ∃ m : Nat, n = m := ⟨n.toNat, by have := wf_byte h; unfold Byte at this; omega⟩

set_option maxRecDepth 100000 in
theorem parserLongs_lifted (os : Os) (started : os.Started) (H : Type) (enc : TypeId × Value → H) :
    ReturnsInHanded {} Try.checked os 8 .any (Rows.parserLongsSpec.pre6 enc Try.prog Try.f8 Rows.parserLongsRow.domain false) (Rows.parserLongsSpec.post enc Try.prog Try.f8 false true false false) := by
  refine returnsInHanded_of_change (C := Try.checked) Try.own started (by kernel_rfl) Try.func8
    (ChangeSpec.witness6 (enc := enc) (C := Try.checked) false ⟨#[], #[.int .u16 0, .int .i32 0, .int .u8 0, .int .u8 0], []⟩ 8 (by kernel_rfl) (by kernel_rfl) (by kernel_rfl) (by kernel_rfl)) ?_
  intro W base args ds gs before hval0 hW hcnd _
  have hval : ∀ (j : Nat) t v, Try.f8.params[j]? = some t → args[j]? = some v → Value.okWide Try.prog W .any base t v := hval0
  have hW' := hW
  obtain ⟨p, q, hA0, hV, rfl, hfz, hnd⟩ := hW
  have hA : DataW.TrodAll enc Try.prog W 0 (fun _ => true) true Try.f8.params.toList args.toList ds p := hA0
  rw [Try.params8] at hA hval
  obtain ⟨v0, v1, v2, v3, d0, d1, d2, d3, p0, p1, p2, p3, rfl, rfl, rfl, h0, h1, h2, h3⟩ := trodAll_four hA
  obtain ⟨rfl, rfl⟩ := trodVars_none hV
  obtain ⟨m0, rfl, hm0⟩ := open_num Try.underlying58 (hval 0 58 v0 rfl rfl) h0
  obtain ⟨r, rfl, _⟩ := open_num Try.underlying21 (hval 1 21 v1 rfl rfl) h1
  obtain ⟨p0, rfl, hp0⟩ := open_num Try.underlying5 (hval 2 5 v2 rfl rfl) h2
  obtain ⟨i0, rfl, hi0⟩ := open_num Try.underlying5 (hval 3 5 v3 rfl rfl) h3
  obtain ⟨m, rfl⟩ := wf_u16 hm0
  obtain ⟨p, rfl⟩ := wf_u8n hp0
  obtain ⟨i, rfl⟩ := wf_u8n hi0
  clear hA0 hval0
  refine (parserLongs_any m r p i W).mono fun e W' ⟨he, hw⟩ => ?_
  exact ⟨_, he, post_law Try.laidOut rfl hW' (by kernel_rfl) rfl Try.underlying4 rfl hw⟩

theorem parserLongs_holds : Rows.ParserLongsSaid :=
  OpenClaim.holds_of_wide 8 Try.f8 rfl rfl rfl rfl rfl rfl rfl ⟨rfl, rfl, rfl, rfl, rfl⟩ rfl rfl rfl rfl rfl (by kernel_rfl) Try.func8 (by kernel_rfl)
    (of_decide_eq_true (by kernel_rfl)) (by unfold Func.isWrapper; rw [if_neg (of_decide_eq_false (by kernel_rfl))]; exact ⟨rfl, rfl⟩)
    (fun os started H enc _ => parserLongs_lifted os started H enc)

end Go.Proofs.Ytpkkfcfkhiaggaa
