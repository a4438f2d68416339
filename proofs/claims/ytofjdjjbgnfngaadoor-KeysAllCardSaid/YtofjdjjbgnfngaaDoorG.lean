/- keys: the law's own bytes of a key. -/
import Derived.Test.YtofjdjjbgnfngaaDoorF
import Derived.Deep.CutBlock
import Derived.Deep.DeepCutAuto
import Derived.Outline
set_option linter.unusedSimpArgs false
set_option linter.unusedVariables false
set_option linter.unnecessarySimpa false
namespace Go.Proofs.YtofjdjjbgnfngaaDoor
open Go.RowKit

def mP (sh al ct : Bool) : Nat → Int
  | 0 => 1
  | 1 => 1 + (if sh then 1 else 0)
  | 2 => 1 + (if sh then 1 else 0) + (if al then 2 else 0)
  | _ => 1 + (if sh then 1 else 0) + (if al then 2 else 0) + (if ct then 4 else 0)
theorem mP_range (sh al ct : Bool) (i : Nat) : 1 ≤ mP sh al ct i ∧ mP sh al ct i ≤ 8 := by
  match i with
  | 0 => exact ⟨by show (1 : Int) ≤ 1; decide, by show (1 : Int) ≤ 8; decide⟩
  | 1 => cases sh <;> exact ⟨by simp [mP], by simp [mP]⟩
  | 2 => cases sh <;> cases al <;> exact ⟨by simp [mP], by simp [mP]⟩
  | n + 3 => cases sh <;> cases al <;> cases ct <;> exact ⟨by simp [mP], by simp [mP]⟩
def RBytesE (code rune : Int) (sh al ct : Bool) (app nl bk : Bool) (w : World) (e : Ending) (w' : World) : Prop := e = .returned (.tuple #[.string (if bytesI code rune sh ct nl bk = true then bytesS code rune sh al ct app nl bk else ⟨#[]⟩), .bool (bytesI code rune sh ct nl bk)]) ∧ Below w.heap.size w w'
theorem elI : (Tryd.prog.info? 3).map (fun i => (i.zero, i.size, i.bytes)) = some (some (.int .i64 0), 1, 8) := by kernel_rfl
theorem run_lits (w : World) (t e : TypeId) (n : Nat) (z : Value) (parts : Array (Nat × Value)) (cells : Array Value) (i : TypeInfo) (ht : Tryd.prog.underlying t = some (.slice e)) (hi : Tryd.prog.info? e = some i) (hz : i.zero = some z) (h1 : i.size = 1) (hn : 0 < n ∧ n ≤ 1000)
    (hf : Instr.fill (fun j => some (j * 1, 1)) ((Array.range (n * 1)).map (z.cells[· % z.cells.size]!)) parts.toList = some cells) : (Instr.buildSlice t n parts).run Tryd.prog w = .ok (.slice (some ⟨w.heap.size, 0, none⟩) n n) (w.alloc (.cells cells e)) := by
  have q1 : ¬ (2 ^ 24 < n * 1) := by omega
  have q2 : ¬ (n * 1 = 0) := by omega
  simp only [Nat.mul_one] at hf q1 q2
  unfold Instr.buildSlice
  simp [run_underlying ht, sizeOf, typeInfo, zeroValue, hi, hz, h1, q2, hf, newRow, Result.andThen]
  first | done | omega
theorem wpList_lits {ops : Array Oper} {rest : List Oper} {o : Oper} {a : Act} {w : World} {Q : Exit → Act → World → Prop} (hgd : o.guard = none) (t e : TypeId) (n : Nat) (parts : Array (Nat × Operand)) (cells : Array Value) (ho : o.op = .buildSlice t n parts)
    (hrun : ∀ w, (Instr.buildSlice t n (parts.map fun (i, x) => (i, a.eval x))).run Tryd.prog w = .ok (.slice (some ⟨w.heap.size, 0, none⟩) n n) (w.alloc (.cells cells e)))
    (h : wpList Tryd.prog ops Q rest (a.put o.dst (.slice (some ⟨w.heap.size, 0, none⟩) n n)) (w.alloc (.cells cells e))) : wpList Tryd.prog ops Q (o :: rest) a w := by
  refine wpList_plain hgd fun _ hK => ?_
  unfold Oper.wp execOp
  simp only [ho, Sem.run_bind, hrun, Result.andThen_ok, Sem.run_pure]
  exact hK _ _ h
theorem litL (a : Act) (w : World) : (Instr.buildSlice 37 20 ((#[(0, .const (.string ⟨#[]⟩)), (1, .const (.string ⟨#[]⟩)), (2, .const (.string ⟨#[]⟩)), (3, .const (.string ⟨#[]⟩)), (4, .const (.string ⟨#[]⟩)), (5, .const (.string ⟨#[]⟩)), (6, .const (.string ⟨#[65]⟩)), (7, .const (.string ⟨#[66]⟩)), (8, .const (.string ⟨#[67]⟩)), (9, .const (.string ⟨#[68]⟩)), (10, .const (.string ⟨#[72]⟩)), (11, .const (.string ⟨#[70]⟩)), (12, .const (.string ⟨#[]⟩)), (13, .const (.string ⟨#[]⟩)), (14, .const (.string ⟨#[]⟩)), (15, .const (.string ⟨#[]⟩)), (16, .const (.string ⟨#[80]⟩)), (17, .const (.string ⟨#[81]⟩)), (18, .const (.string ⟨#[82]⟩)), (19, .const (.string ⟨#[83]⟩))] : Array (Nat × Operand)).map fun (i, x) => (i, a.eval x))).run Tryd.prog w = .ok (.slice (some ⟨w.heap.size, 0, none⟩) 20 20) (w.alloc (.cells #[.string ⟨#[]⟩, .string ⟨#[]⟩, .string ⟨#[]⟩, .string ⟨#[]⟩, .string ⟨#[]⟩, .string ⟨#[]⟩, .string ⟨#[65]⟩, .string ⟨#[66]⟩, .string ⟨#[67]⟩, .string ⟨#[68]⟩, .string ⟨#[72]⟩, .string ⟨#[70]⟩, .string ⟨#[]⟩, .string ⟨#[]⟩, .string ⟨#[]⟩, .string ⟨#[]⟩, .string ⟨#[80]⟩, .string ⟨#[81]⟩, .string ⟨#[82]⟩, .string ⟨#[83]⟩] 9)) := by
  have e : (((#[(0, .const (.string ⟨#[]⟩)), (1, .const (.string ⟨#[]⟩)), (2, .const (.string ⟨#[]⟩)), (3, .const (.string ⟨#[]⟩)), (4, .const (.string ⟨#[]⟩)), (5, .const (.string ⟨#[]⟩)), (6, .const (.string ⟨#[65]⟩)), (7, .const (.string ⟨#[66]⟩)), (8, .const (.string ⟨#[67]⟩)), (9, .const (.string ⟨#[68]⟩)), (10, .const (.string ⟨#[72]⟩)), (11, .const (.string ⟨#[70]⟩)), (12, .const (.string ⟨#[]⟩)), (13, .const (.string ⟨#[]⟩)), (14, .const (.string ⟨#[]⟩)), (15, .const (.string ⟨#[]⟩)), (16, .const (.string ⟨#[80]⟩)), (17, .const (.string ⟨#[81]⟩)), (18, .const (.string ⟨#[82]⟩)), (19, .const (.string ⟨#[83]⟩))] : Array (Nat × Operand)).map fun (i, x) => (i, a.eval x))) = #[(0, .string ⟨#[]⟩), (1, .string ⟨#[]⟩), (2, .string ⟨#[]⟩), (3, .string ⟨#[]⟩), (4, .string ⟨#[]⟩), (5, .string ⟨#[]⟩), (6, .string ⟨#[65]⟩), (7, .string ⟨#[66]⟩), (8, .string ⟨#[67]⟩), (9, .string ⟨#[68]⟩), (10, .string ⟨#[72]⟩), (11, .string ⟨#[70]⟩), (12, .string ⟨#[]⟩), (13, .string ⟨#[]⟩), (14, .string ⟨#[]⟩), (15, .string ⟨#[]⟩), (16, .string ⟨#[80]⟩), (17, .string ⟨#[81]⟩), (18, .string ⟨#[82]⟩), (19, .string ⟨#[83]⟩)] := by
    simp only [List.map_toArray, List.map_cons, List.map_nil]
    rfl
  rw [e]
  obtain ⟨i0, hi, hz0, hz1, hz2⟩ := info_parts elS
  exact run_lits w 37 9 20 (.string ⟨#[]⟩) _ _ i0 Tryd.underlying37 hi hz0 hz1 (by decide) (by kernel_rfl)
theorem litN (a : Act) (w : World) : (Instr.buildSlice 52 28 ((#[(0, .const (.int .i64 0)), (1, .const (.int .i64 0)), (2, .const (.int .i64 0)), (3, .const (.int .i64 0)), (4, .const (.int .i64 0)), (5, .const (.int .i64 0)), (6, .const (.int .i64 0)), (7, .const (.int .i64 0)), (8, .const (.int .i64 0)), (9, .const (.int .i64 0)), (10, .const (.int .i64 0)), (11, .const (.int .i64 0)), (12, .const (.int .i64 2)), (13, .const (.int .i64 3)), (14, .const (.int .i64 5)), (15, .const (.int .i64 6)), (16, .const (.int .i64 0)), (17, .const (.int .i64 0)), (18, .const (.int .i64 0)), (19, .const (.int .i64 0)), (20, .const (.int .i64 15)), (21, .const (.int .i64 17)), (22, .const (.int .i64 18)), (23, .const (.int .i64 19)), (24, .const (.int .i64 20)), (25, .const (.int .i64 21)), (26, .const (.int .i64 23)), (27, .const (.int .i64 24))] : Array (Nat × Operand)).map fun (i, x) => (i, a.eval x))).run Tryd.prog w = .ok (.slice (some ⟨w.heap.size, 0, none⟩) 28 28) (w.alloc (.cells #[.int .i64 0, .int .i64 0, .int .i64 0, .int .i64 0, .int .i64 0, .int .i64 0, .int .i64 0, .int .i64 0, .int .i64 0, .int .i64 0, .int .i64 0, .int .i64 0, .int .i64 2, .int .i64 3, .int .i64 5, .int .i64 6, .int .i64 0, .int .i64 0, .int .i64 0, .int .i64 0, .int .i64 15, .int .i64 17, .int .i64 18, .int .i64 19, .int .i64 20, .int .i64 21, .int .i64 23, .int .i64 24] 3)) := by
  have e : (((#[(0, .const (.int .i64 0)), (1, .const (.int .i64 0)), (2, .const (.int .i64 0)), (3, .const (.int .i64 0)), (4, .const (.int .i64 0)), (5, .const (.int .i64 0)), (6, .const (.int .i64 0)), (7, .const (.int .i64 0)), (8, .const (.int .i64 0)), (9, .const (.int .i64 0)), (10, .const (.int .i64 0)), (11, .const (.int .i64 0)), (12, .const (.int .i64 2)), (13, .const (.int .i64 3)), (14, .const (.int .i64 5)), (15, .const (.int .i64 6)), (16, .const (.int .i64 0)), (17, .const (.int .i64 0)), (18, .const (.int .i64 0)), (19, .const (.int .i64 0)), (20, .const (.int .i64 15)), (21, .const (.int .i64 17)), (22, .const (.int .i64 18)), (23, .const (.int .i64 19)), (24, .const (.int .i64 20)), (25, .const (.int .i64 21)), (26, .const (.int .i64 23)), (27, .const (.int .i64 24))] : Array (Nat × Operand)).map fun (i, x) => (i, a.eval x))) = #[(0, .int .i64 0), (1, .int .i64 0), (2, .int .i64 0), (3, .int .i64 0), (4, .int .i64 0), (5, .int .i64 0), (6, .int .i64 0), (7, .int .i64 0), (8, .int .i64 0), (9, .int .i64 0), (10, .int .i64 0), (11, .int .i64 0), (12, .int .i64 2), (13, .int .i64 3), (14, .int .i64 5), (15, .int .i64 6), (16, .int .i64 0), (17, .int .i64 0), (18, .int .i64 0), (19, .int .i64 0), (20, .int .i64 15), (21, .int .i64 17), (22, .int .i64 18), (23, .int .i64 19), (24, .int .i64 20), (25, .int .i64 21), (26, .int .i64 23), (27, .int .i64 24)] := by
    simp only [List.map_toArray, List.map_cons, List.map_nil]
    rfl
  rw [e]
  obtain ⟨i0, hi, hz0, hz1, hz2⟩ := info_parts elI
  exact run_lits w 52 3 28 (.int .i64 0) _ _ i0 Tryd.underlying52 hi hz0 hz1 (by decide) (by kernel_rfl)
theorem strSize1 (c : Int) : (strOfNums [c]).size = 1 := rfl
set_option maxHeartbeats 8000000 in
set_option maxRecDepth 100000 in
theorem rbytes_any (code rune : Int) (sh al ct : Bool) (app nl bk : Bool) (w : World) (hv : validK code rune = true) : Calls Tryd.prog 13 #[.agg #[.int .i64 code, .int .i32 rune, .bool sh, .bool al, .bool ct], .agg #[.bool app, .bool nl, .bool bk]] w (RBytesE code rune sh al ct app nl bk w) := by
  have hvk := hv
  unfold validK at hvk
  have hvk := of_decide_eq_true hvk
  have HV := Lib.hid hvk
  clear hvk
  have xk0 : Box ((w.alloc (.cells #[.int .i64 code, .int .i32 rune, .bool sh, .bool al, .bool ct] 24)).alloc (.cells #[.bool app, .bool nl, .bool bk] 26)) w.heap.size #[.int .i64 code, .int .i32 rune, .bool sh, .bool al, .bool ct] 24 := Box.alloc (Box.new _ _ _ rfl) _
  have xi0 : Box ((w.alloc (.cells #[.int .i64 code, .int .i32 rune, .bool sh, .bool al, .bool ct] 24)).alloc (.cells #[.bool app, .bool nl, .bool bk] 26)) (w.heap.size + 1) #[.bool app, .bool nl, .bool bk] 26 := Box.new _ _ _ (by simp)
  have hb0 : Below w.heap.size w ((w.alloc (.cells #[.int .i64 code, .int .i32 rune, .bool sh, .bool al, .bool ct] 24)).alloc (.cells #[.bool app, .bool nl, .bool bk] 26)) := bl_alloc (bl_alloc (Below.refl _ _) _) _
  go_enter Tryd.func13, Tryd.ntmps13
  go_upto_region 2 with fail
  obtain ⟨W0, hW0⟩ : ∃ W0, (w.alloc (.cells #[.int .i64 code, .int .i32 rune, .bool sh, .bool al, .bool ct] 24)).alloc (.cells #[.bool app, .bool nl, .bool bk] 26) = W0 := ⟨_, rfl⟩
  rw [hW0] at xk0 xi0 hb0 ⊢
  clear hW0
  have ck := xk0.cell
  have lk := xk0.lt
  have ci := xi0.cell
  have li := xi0.lt
  have hp0 : (1 : Int) = mP sh al ct 0 := rfl
  rw [show Value.int .i64 1 = Value.int .i64 (mP sh al ct 0) from rfl]
  clear hp0
  go_upto_if 14 with fail
  go_cut [6] (fun sv wx => sv = .int .i64 (mP sh al ct 1) ∧ W0 = wx)
  case first =>
    have HN : Hid (mP sh al ct 1 = mP sh al ct 0 + (if sh then 1 else 0)) := rfl
    have hmr := mP_range sh al ct 0
    generalize mP sh al ct 0 = pj at *
    generalize mP sh al ct 1 = pn at *
    cases sh
    · have HG : Hid (pj = pn) := by have := HN.out; simp only [Bool.false_eq_true, ↓reduceIte] at this; unfold Hid; omega
      clear HN
      go_wp2_with fail
      go_meet
      exact ⟨congrArg (Value.int .i64) HG.out, rfl⟩
    · have HG : Hid (pj + 1 = pn) := by have := HN.out; simp only [↓reduceIte] at this; unfold Hid; omega
      clear HN
      go_wp2_with fail
      go_meet
      exact ⟨congrArg (Value.int .i64) HG.out, rfl⟩
  case rest =>
  obtain ⟨rfl, rfl⟩ := hcut
  go_upto_if 18 with fail
  go_cut [6] (fun sv wx => sv = .int .i64 (mP sh al ct 2) ∧ W0 = wx)
  case first =>
    have HN : Hid (mP sh al ct 2 = mP sh al ct 1 + (if al then 2 else 0)) := rfl
    have hmr := mP_range sh al ct 1
    generalize mP sh al ct 1 = pj at *
    generalize mP sh al ct 2 = pn at *
    cases al
    · have HG : Hid (pj = pn) := by have := HN.out; simp only [Bool.false_eq_true, ↓reduceIte] at this; unfold Hid; omega
      clear HN
      go_wp2_with fail
      go_meet
      exact ⟨congrArg (Value.int .i64) HG.out, rfl⟩
    · have HG : Hid (pj + 2 = pn) := by have := HN.out; simp only [↓reduceIte] at this; unfold Hid; omega
      clear HN
      go_wp2_with fail
      go_meet
      exact ⟨congrArg (Value.int .i64) HG.out, rfl⟩
  case rest =>
  obtain ⟨rfl, rfl⟩ := hcut
  go_upto_if 22 with fail
  go_cut [6] (fun sv wx => sv = .int .i64 (mP sh al ct 3) ∧ W0 = wx)
  case first =>
    have HN : Hid (mP sh al ct 3 = mP sh al ct 2 + (if ct then 4 else 0)) := rfl
    have hmr := mP_range sh al ct 2
    generalize mP sh al ct 2 = pj at *
    generalize mP sh al ct 3 = pn at *
    cases ct
    · have HG : Hid (pj = pn) := by have := HN.out; simp only [Bool.false_eq_true, ↓reduceIte] at this; unfold Hid; omega
      clear HN
      go_wp2_with fail
      go_meet
      exact ⟨congrArg (Value.int .i64) HG.out, rfl⟩
    · have HG : Hid (pj + 4 = pn) := by have := HN.out; simp only [↓reduceIte] at this; unfold Hid; omega
      clear HN
      go_wp2_with fail
      go_meet
      exact ⟨congrArg (Value.int .i64) HG.out, rfl⟩
  case rest =>
  obtain ⟨rfl, rfl⟩ := hcut
  have hm := mP_range sh al ct 3
  obtain ⟨m, hm0⟩ : ∃ m, mP sh al ct 3 = m := ⟨_, rfl⟩
  have HM : Hid (modN sh al ct = m) := hm0
  rw [hm0] at hm ⊢
  clear hm0
  go_upto_region 10 with (first | (refine wpList_lits rfl 37 9 20 _ #[.string ⟨#[]⟩, .string ⟨#[]⟩, .string ⟨#[]⟩, .string ⟨#[]⟩, .string ⟨#[]⟩, .string ⟨#[]⟩, .string ⟨#[65]⟩, .string ⟨#[66]⟩, .string ⟨#[67]⟩, .string ⟨#[68]⟩, .string ⟨#[72]⟩, .string ⟨#[70]⟩, .string ⟨#[]⟩, .string ⟨#[]⟩, .string ⟨#[]⟩, .string ⟨#[]⟩, .string ⟨#[80]⟩, .string ⟨#[81]⟩, .string ⟨#[82]⟩, .string ⟨#[83]⟩] rfl (litL _) ?_; have hb8 : Below w.heap.size w (W0.alloc (.cells #[.string ⟨#[]⟩, .string ⟨#[]⟩, .string ⟨#[]⟩, .string ⟨#[]⟩, .string ⟨#[]⟩, .string ⟨#[]⟩, .string ⟨#[65]⟩, .string ⟨#[66]⟩, .string ⟨#[67]⟩, .string ⟨#[68]⟩, .string ⟨#[72]⟩, .string ⟨#[70]⟩, .string ⟨#[]⟩, .string ⟨#[]⟩, .string ⟨#[]⟩, .string ⟨#[]⟩, .string ⟨#[80]⟩, .string ⟨#[81]⟩, .string ⟨#[82]⟩, .string ⟨#[83]⟩] 9)) := bl_alloc hb0 _; have xk8 : Box (W0.alloc (.cells #[.string ⟨#[]⟩, .string ⟨#[]⟩, .string ⟨#[]⟩, .string ⟨#[]⟩, .string ⟨#[]⟩, .string ⟨#[]⟩, .string ⟨#[65]⟩, .string ⟨#[66]⟩, .string ⟨#[67]⟩, .string ⟨#[68]⟩, .string ⟨#[72]⟩, .string ⟨#[70]⟩, .string ⟨#[]⟩, .string ⟨#[]⟩, .string ⟨#[]⟩, .string ⟨#[]⟩, .string ⟨#[80]⟩, .string ⟨#[81]⟩, .string ⟨#[82]⟩, .string ⟨#[83]⟩] 9)) w.heap.size _ _ := Box.alloc xk0 _; have xi8 : Box (W0.alloc (.cells #[.string ⟨#[]⟩, .string ⟨#[]⟩, .string ⟨#[]⟩, .string ⟨#[]⟩, .string ⟨#[]⟩, .string ⟨#[]⟩, .string ⟨#[65]⟩, .string ⟨#[66]⟩, .string ⟨#[67]⟩, .string ⟨#[68]⟩, .string ⟨#[72]⟩, .string ⟨#[70]⟩, .string ⟨#[]⟩, .string ⟨#[]⟩, .string ⟨#[]⟩, .string ⟨#[]⟩, .string ⟨#[80]⟩, .string ⟨#[81]⟩, .string ⟨#[82]⟩, .string ⟨#[83]⟩] 9)) (w.heap.size + 1) _ _ := Box.alloc xi0 _; have xl8 : Box (W0.alloc (.cells #[.string ⟨#[]⟩, .string ⟨#[]⟩, .string ⟨#[]⟩, .string ⟨#[]⟩, .string ⟨#[]⟩, .string ⟨#[]⟩, .string ⟨#[65]⟩, .string ⟨#[66]⟩, .string ⟨#[67]⟩, .string ⟨#[68]⟩, .string ⟨#[72]⟩, .string ⟨#[70]⟩, .string ⟨#[]⟩, .string ⟨#[]⟩, .string ⟨#[]⟩, .string ⟨#[]⟩, .string ⟨#[80]⟩, .string ⟨#[81]⟩, .string ⟨#[82]⟩, .string ⟨#[83]⟩] 9)) W0.heap.size #[.string ⟨#[]⟩, .string ⟨#[]⟩, .string ⟨#[]⟩, .string ⟨#[]⟩, .string ⟨#[]⟩, .string ⟨#[]⟩, .string ⟨#[65]⟩, .string ⟨#[66]⟩, .string ⟨#[67]⟩, .string ⟨#[68]⟩, .string ⟨#[72]⟩, .string ⟨#[70]⟩, .string ⟨#[]⟩, .string ⟨#[]⟩, .string ⟨#[]⟩, .string ⟨#[]⟩, .string ⟨#[80]⟩, .string ⟨#[81]⟩, .string ⟨#[82]⟩, .string ⟨#[83]⟩] 9 := Box.new _ _ _ rfl; generalize W0.alloc (.cells #[.string ⟨#[]⟩, .string ⟨#[]⟩, .string ⟨#[]⟩, .string ⟨#[]⟩, .string ⟨#[]⟩, .string ⟨#[]⟩, .string ⟨#[65]⟩, .string ⟨#[66]⟩, .string ⟨#[67]⟩, .string ⟨#[68]⟩, .string ⟨#[72]⟩, .string ⟨#[70]⟩, .string ⟨#[]⟩, .string ⟨#[]⟩, .string ⟨#[]⟩, .string ⟨#[]⟩, .string ⟨#[80]⟩, .string ⟨#[81]⟩, .string ⟨#[82]⟩, .string ⟨#[83]⟩] 9) = W8 at *; obtain ⟨bl, hbl⟩ : ∃ bl, W0.heap.size = bl := ⟨_, rfl⟩; rw [hbl] at xl8 ⊢; clear hbl ck lk ci li xk0 xi0 hb0) | (refine wpList_lits rfl 52 3 28 _ #[.int .i64 0, .int .i64 0, .int .i64 0, .int .i64 0, .int .i64 0, .int .i64 0, .int .i64 0, .int .i64 0, .int .i64 0, .int .i64 0, .int .i64 0, .int .i64 0, .int .i64 2, .int .i64 3, .int .i64 5, .int .i64 6, .int .i64 0, .int .i64 0, .int .i64 0, .int .i64 0, .int .i64 15, .int .i64 17, .int .i64 18, .int .i64 19, .int .i64 20, .int .i64 21, .int .i64 23, .int .i64 24] rfl (litN _) ?_; have hb9 : Below w.heap.size w (W8.alloc (.cells #[.int .i64 0, .int .i64 0, .int .i64 0, .int .i64 0, .int .i64 0, .int .i64 0, .int .i64 0, .int .i64 0, .int .i64 0, .int .i64 0, .int .i64 0, .int .i64 0, .int .i64 2, .int .i64 3, .int .i64 5, .int .i64 6, .int .i64 0, .int .i64 0, .int .i64 0, .int .i64 0, .int .i64 15, .int .i64 17, .int .i64 18, .int .i64 19, .int .i64 20, .int .i64 21, .int .i64 23, .int .i64 24] 3)) := bl_alloc hb8 _; have xk9 : Box (W8.alloc (.cells #[.int .i64 0, .int .i64 0, .int .i64 0, .int .i64 0, .int .i64 0, .int .i64 0, .int .i64 0, .int .i64 0, .int .i64 0, .int .i64 0, .int .i64 0, .int .i64 0, .int .i64 2, .int .i64 3, .int .i64 5, .int .i64 6, .int .i64 0, .int .i64 0, .int .i64 0, .int .i64 0, .int .i64 15, .int .i64 17, .int .i64 18, .int .i64 19, .int .i64 20, .int .i64 21, .int .i64 23, .int .i64 24] 3)) w.heap.size _ _ := Box.alloc xk8 _; have xi9 : Box (W8.alloc (.cells #[.int .i64 0, .int .i64 0, .int .i64 0, .int .i64 0, .int .i64 0, .int .i64 0, .int .i64 0, .int .i64 0, .int .i64 0, .int .i64 0, .int .i64 0, .int .i64 0, .int .i64 2, .int .i64 3, .int .i64 5, .int .i64 6, .int .i64 0, .int .i64 0, .int .i64 0, .int .i64 0, .int .i64 15, .int .i64 17, .int .i64 18, .int .i64 19, .int .i64 20, .int .i64 21, .int .i64 23, .int .i64 24] 3)) (w.heap.size + 1) _ _ := Box.alloc xi8 _; have xl9 : Box (W8.alloc (.cells #[.int .i64 0, .int .i64 0, .int .i64 0, .int .i64 0, .int .i64 0, .int .i64 0, .int .i64 0, .int .i64 0, .int .i64 0, .int .i64 0, .int .i64 0, .int .i64 0, .int .i64 2, .int .i64 3, .int .i64 5, .int .i64 6, .int .i64 0, .int .i64 0, .int .i64 0, .int .i64 0, .int .i64 15, .int .i64 17, .int .i64 18, .int .i64 19, .int .i64 20, .int .i64 21, .int .i64 23, .int .i64 24] 3)) bl #[.string ⟨#[]⟩, .string ⟨#[]⟩, .string ⟨#[]⟩, .string ⟨#[]⟩, .string ⟨#[]⟩, .string ⟨#[]⟩, .string ⟨#[65]⟩, .string ⟨#[66]⟩, .string ⟨#[67]⟩, .string ⟨#[68]⟩, .string ⟨#[72]⟩, .string ⟨#[70]⟩, .string ⟨#[]⟩, .string ⟨#[]⟩, .string ⟨#[]⟩, .string ⟨#[]⟩, .string ⟨#[80]⟩, .string ⟨#[81]⟩, .string ⟨#[82]⟩, .string ⟨#[83]⟩] 9 := Box.alloc xl8 _; have xn9 : Box (W8.alloc (.cells #[.int .i64 0, .int .i64 0, .int .i64 0, .int .i64 0, .int .i64 0, .int .i64 0, .int .i64 0, .int .i64 0, .int .i64 0, .int .i64 0, .int .i64 0, .int .i64 0, .int .i64 2, .int .i64 3, .int .i64 5, .int .i64 6, .int .i64 0, .int .i64 0, .int .i64 0, .int .i64 0, .int .i64 15, .int .i64 17, .int .i64 18, .int .i64 19, .int .i64 20, .int .i64 21, .int .i64 23, .int .i64 24] 3)) W8.heap.size #[.int .i64 0, .int .i64 0, .int .i64 0, .int .i64 0, .int .i64 0, .int .i64 0, .int .i64 0, .int .i64 0, .int .i64 0, .int .i64 0, .int .i64 0, .int .i64 0, .int .i64 2, .int .i64 3, .int .i64 5, .int .i64 6, .int .i64 0, .int .i64 0, .int .i64 0, .int .i64 0, .int .i64 15, .int .i64 17, .int .i64 18, .int .i64 19, .int .i64 20, .int .i64 21, .int .i64 23, .int .i64 24] 3 := Box.new _ _ _ rfl; generalize W8.alloc (.cells #[.int .i64 0, .int .i64 0, .int .i64 0, .int .i64 0, .int .i64 0, .int .i64 0, .int .i64 0, .int .i64 0, .int .i64 0, .int .i64 0, .int .i64 0, .int .i64 0, .int .i64 2, .int .i64 3, .int .i64 5, .int .i64 6, .int .i64 0, .int .i64 0, .int .i64 0, .int .i64 0, .int .i64 15, .int .i64 17, .int .i64 18, .int .i64 19, .int .i64 20, .int .i64 21, .int .i64 23, .int .i64 24] 3) = W9 at *; obtain ⟨bn, hbn⟩ : ∃ bn, W8.heap.size = bn := ⟨_, rfl⟩; rw [hbn] at xn9 ⊢; clear hbn hb8 xk8 xi8 xl8))
  have ck := xk9.cell
  have lk := xk9.lt
  have ci := xi9.cell
  have li := xi9.lt
  have hvk := HV.out
  have hcode : code = 1 ∨ code = 2 ∨ code = 3 ∨ code = 4 ∨ code = 5 ∨ code = 6 ∨ code = 7 ∨ code = 8 ∨ code = 9 ∨ code = 10 ∨ code = 11 ∨ code = 12 ∨ code = 13 ∨ code = 14 ∨ code = 15 ∨ code = 16 ∨ code = 17 ∨ code = 18 ∨ code = 19 ∨ code = 20 ∨ code = 21 ∨ code = 22 ∨ code = 23 ∨ code = 24 ∨ code = 25 ∨ code = 26 ∨ code = 27 := by omega
  rcases hcode with rfl | rfl | rfl | rfl | rfl | rfl | rfl | rfl | rfl | rfl | rfl | rfl | rfl | rfl | rfl | rfl | rfl | rfl | rfl | rfl | rfl | rfl | rfl | rfl | rfl | rfl | rfl
  · as_aux_lemma =>
      clear HM hm
      cases ct
      · have cU := fun W => utf_any rune W (by omega) (by omega)
        have hes := enc_size rune
        have HS : Hid (∀ al, (if bytesI 1 rune sh false nl bk = true then bytesS 1 rune sh al false app nl bk else ⟨#[]⟩) = (if al = true then (⟨#[27]⟩ : ByteArray) else (⟨#[]⟩ : ByteArray)) ++ Utf8.encode rune) := fun _ => rfl
        have HI1 : Hid (bytesI 1 rune sh false nl bk = true) := rfl
        generalize Utf8.encode rune = eu at *
        have hx1 : ((⟨#[27]⟩ : ByteArray)).size = 1 := rfl
        cases al
        all_goals
          go_wp2_with (go_at_call 22; (with_reducible refine (cU _).mono ?_); rintro e w1 ⟨rfl, hb1⟩)
          go_ret2
          refine ⟨?_, bl_trans (hb9) hb1⟩
          rw [HS.out, HI1.out]
          refine congrArg (fun q => Ending.returned (.tuple #[.string q, .bool true])) ?_
          apply ByteArray.ext
          simp
      · have HS : Hid (∀ c, controlN rune = (c, true) → (if bytesI 1 rune sh true nl bk = true then bytesS 1 rune sh al true app nl bk else ⟨#[]⟩) = (if al = true then (⟨#[27]⟩ : ByteArray) else (⟨#[]⟩ : ByteArray)) ++ ⟨#[UInt8.ofNat c.toNat]⟩ ∧ bytesI 1 rune sh true nl bk = true) := fun c h => by
          have e1 : plainN 1 rune sh true nl bk = (⟨#[UInt8.ofNat (controlN rune).1.toNat]⟩, (controlN rune).2) := rfl
          have e2 : bytesI 1 rune sh true nl bk = true := by unfold bytesI; rw [if_pos (by decide), e1, h]
          refine ⟨?_, e2⟩
          rw [e2, if_pos rfl]
          unfold bytesS
          rw [if_pos (by decide), e1, h]
        have HF : Hid ((controlN rune).2 = false → (if bytesI 1 rune sh true nl bk = true then bytesS 1 rune sh al true app nl bk else ⟨#[]⟩) = ⟨#[]⟩ ∧ bytesI 1 rune sh true nl bk = false) := fun h => by
          have e2 : bytesI 1 rune sh true nl bk = false := by unfold bytesI; rw [if_pos (by decide)]; exact h
          exact ⟨by rw [e2]; rfl, e2⟩
        have kc := fun (c : Int) (W : World) => run_str (P := Tryd.prog) 44 9 5 Tryd.underlying44 Tryd.underlying5 Tryd.underlying9 (Rd.lit1 W 5 .u8 c W.heap.size rfl)
        have hx1 : ((⟨#[27]⟩ : ByteArray)).size = 1 := rfl
        have hss := fun c : Int => strSize1 c
        cases al
        all_goals
          go_wp2_with fail
          clear ck lk ci li
          go_loopw [12] (fun iv wr => ∃ k : Nat, k ≤ 32 ∧ iv = .int .i64 k ∧ Hid (∀ j : Nat, j < k → ¬ (rune = 64 + (j : Int)) ∧ ¬ (1 ≤ j ∧ j ≤ 26 ∧ rune = 96 + (j : Int))) ∧ Below W9.heap.size W9 wr) (fun iv _ => 32 - (intOf iv).toNat)
          case atStart => exact ⟨0, by omega, rfl, fun j hj => absurd hj (by omega), Below.refl _ _⟩
          case round =>
            obtain ⟨k, hk, rfl, HK, hbel⟩ := hrel
            have xk : Box wr w.heap.size _ _ := (hbel.block _ xk9.lt).trans xk9
            have ck := xk.cell
            have lk := xk.lt
            by_cases hlt : k < 32
            · have r1 : (0 : Int) ≤ (k : Int) := by omega
              have r2 : (k : Int) < 32 := by omega
              have v1 : IntKind.u8.wrap (k : Int) = (k : Int) := by simp [IntKind.wrap, IntKind.signed, IntKind.bits]; omega
              by_cases h1 : rune = 64 + (k : Int)
              · have hC : controlN rune = ((k : Int), true) := by
                  unfold controlN
                  rw [if_neg (by omega), if_pos (by omega)]
                  exact Prod.ext (by show rune - 64 = _; omega) rfl
                have HC := Lib.hid (HS.out _ hC)
                have h1' : (rune == 64 + (k : Int)) = true := by simpa using h1
                have H1 := Lib.hid h1
                clear h1 hC
                go_wp2_with fail
                go_ret2
                exact ⟨by rw [HC.out.1, HC.out.2]; (refine congrArg (fun q => Ending.returned (.tuple #[.string q, .bool true])) ?_); (apply ByteArray.ext; simp [strOfNums]), bl_alloc (bl_trans hb9 hbel) _⟩
              · have h1' : (rune == 64 + (k : Int)) = false := by simpa using h1
                by_cases h2 : 1 ≤ k ∧ k ≤ 26 ∧ rune = 96 + (k : Int)
                · obtain ⟨h3, h4, h5⟩ := h2
                  have h3' : (1 : Int) ≤ (k : Int) := by omega
                  have h4' : (k : Int) ≤ 26 := by omega
                  have hC : controlN rune = ((k : Int), true) := by
                    unfold controlN
                    rw [if_pos (by omega)]
                    exact Prod.ext (by show rune - 96 = _; omega) rfl
                  have HC := Lib.hid (HS.out _ hC)
                  have h5' : (rune == 96 + (k : Int)) = true := by simpa using h5
                  have H5 := Lib.hid h5
                  clear h5 hC h1
                  go_wp2_with fail
                  go_ret2
                  exact ⟨by rw [HC.out.1, HC.out.2]; (refine congrArg (fun q => Ending.returned (.tuple #[.string q, .bool true])) ?_); (apply ByteArray.ext; simp [strOfNums]), bl_alloc (bl_trans hb9 hbel) _⟩
                · have HN : Hid (∀ j : Nat, j < k + 1 → ¬ (rune = 64 + (j : Int)) ∧ ¬ (1 ≤ j ∧ j ≤ 26 ∧ rune = 96 + (j : Int))) := fun j hj => by
                    by_cases hjk : j = k
                    · subst hjk; exact ⟨h1, h2⟩
                    · exact HK.out j (by omega)
                  by_cases h3 : 1 ≤ k
                  · by_cases h4 : k ≤ 26
                    · have h3' : (1 : Int) ≤ (k : Int) := by omega
                      have h4' : (k : Int) ≤ 26 := by omega
                      have h5' : (rune == 96 + (k : Int)) = false := by simp; omega
                      clear h1 h2
                      go_wp2_with fail
                      go_roundw
                      case rel => exact ⟨k + 1, by omega, by go_num, HN, hbel⟩
                      case measure => simp [intOf]; omega
                    · have h3' : (1 : Int) ≤ (k : Int) := by omega
                      have h4' : ¬ (k : Int) ≤ 26 := by omega
                      clear h1 h2
                      go_wp2_with fail
                      go_roundw
                      case rel => exact ⟨k + 1, by omega, by go_num, HN, hbel⟩
                      case measure => simp [intOf]; omega
                  · have h3' : ¬ (1 : Int) ≤ (k : Int) := by omega
                    clear h1 h2
                    go_wp2_with fail
                    go_roundw
                    case rel => exact ⟨k + 1, by omega, by go_num, HN, hbel⟩
                    case measure => simp [intOf]; omega
            · have HNo : Hid (¬ (97 ≤ rune ∧ rune ≤ 122) ∧ ¬ (64 ≤ rune ∧ rune ≤ 95)) := by
                refine ⟨fun h => ?_, fun h => ?_⟩
                · have := (HK.out (rune - 96).toNat (by omega)).2
                  omega
                · have := (HK.out (rune - 64).toNat (by omega)).1
                  omega
              have hno := HNo.out
              by_cases h32 : rune = 32
              · have HC := Lib.hid (HS.out 0 (by rw [h32]; rfl))
                have h32' : (rune == 32) = true := by simpa using h32
                have H32 := Lib.hid h32
                clear h32 hno
                go_wp2_with fail
                go_ret2
                exact ⟨by rw [HC.out.1, HC.out.2]; exact congrArg (fun q => Ending.returned (.tuple #[.string q, .bool true])) (by decide +kernel), bl_trans hb9 hbel⟩
              · have h32' : (rune == 32) = false := by simpa using h32
                by_cases h63 : rune = 63
                · have HC := Lib.hid (HS.out 127 (by rw [h63]; rfl))
                  have h63' : (rune == 63) = true := by simpa using h63
                  have H63 := Lib.hid h63
                  clear h63 hno h32
                  go_wp2_with fail
                  go_ret2
                  exact ⟨by rw [HC.out.1, HC.out.2]; exact congrArg (fun q => Ending.returned (.tuple #[.string q, .bool true])) (by decide +kernel), bl_trans hb9 hbel⟩
                · have h63' : (rune == 63) = false := by simpa using h63
                  have HC := Lib.hid (HF.out (by unfold controlN; rw [if_neg (by omega), if_neg (by omega), if_neg h32, if_neg h63]))
                  clear hno h32 h63
                  go_wp2_with fail
                  go_ret2
                  exact ⟨by rw [HC.out.1, HC.out.2]; rfl, bl_trans hb9 hbel⟩
  · skip
    as_aux_lemma =>
      have e1 : plainN 2 rune sh ct nl bk = ((if nl then (⟨#[13, 10]⟩ : ByteArray) else ⟨#[13]⟩), true) := by
        unfold plainN
        repeat (first | rw [if_pos (by decide)] | rw [if_neg (by decide)])
      have e2 : bytesI 2 rune sh ct nl bk = true := by unfold bytesI; rw [if_pos (by decide), e1]
      have HI : Hid (bytesI 2 rune sh ct nl bk = true) := e2
      have HS : Hid ((if bytesI 2 rune sh ct nl bk = true then bytesS 2 rune sh al ct app nl bk else ⟨#[]⟩) = (if al = true then (⟨#[27]⟩ : ByteArray) else (⟨#[]⟩ : ByteArray)) ++ (if nl then (⟨#[13, 10]⟩ : ByteArray) else ⟨#[13]⟩)) := by
        unfold Hid
        rw [if_pos e2]
        unfold bytesS
        rw [if_pos (by decide), e1]
      clear HM hm e1 e2
      cases al <;> cases nl
      all_goals
        go_wp2_with fail
        go_ret2
        refine ⟨?_, hb9⟩
        rw [HS.out, HI.out]
        exact congrArg (fun q => Ending.returned (.tuple #[.string q, .bool true])) (by decide +kernel)
  · skip
    as_aux_lemma =>
      have e1 : plainN 3 rune sh ct nl bk = ((if sh then (⟨#[27, 91, 90]⟩ : ByteArray) else ⟨#[9]⟩), true) := by
        unfold plainN
        repeat (first | rw [if_pos (by decide)] | rw [if_neg (by decide)])
      have e2 : bytesI 3 rune sh ct nl bk = true := by unfold bytesI; rw [if_pos (by decide), e1]
      have HI : Hid (bytesI 3 rune sh ct nl bk = true) := e2
      have HS : Hid ((if bytesI 3 rune sh ct nl bk = true then bytesS 3 rune sh al ct app nl bk else ⟨#[]⟩) = (if al = true then (⟨#[27]⟩ : ByteArray) else (⟨#[]⟩ : ByteArray)) ++ (if sh then (⟨#[27, 91, 90]⟩ : ByteArray) else ⟨#[9]⟩)) := by
        unfold Hid
        rw [if_pos e2]
        unfold bytesS
        rw [if_pos (by decide), e1]
      clear HM hm e1 e2
      cases al <;> cases sh
      all_goals
        go_wp2_with fail
        go_ret2
        refine ⟨?_, hb9⟩
        rw [HS.out, HI.out]
        exact congrArg (fun q => Ending.returned (.tuple #[.string q, .bool true])) (by decide +kernel)
  · skip
    as_aux_lemma =>
      have e1 : plainN 4 rune sh ct nl bk = ((if (bk != ct) = true then (⟨#[8]⟩ : ByteArray) else ⟨#[127]⟩), true) := by
        unfold plainN
        repeat (first | rw [if_pos (by decide)] | rw [if_neg (by decide)])
      have e2 : bytesI 4 rune sh ct nl bk = true := by unfold bytesI; rw [if_pos (by decide), e1]
      have HI : Hid (bytesI 4 rune sh ct nl bk = true) := e2
      have HS : Hid ((if bytesI 4 rune sh ct nl bk = true then bytesS 4 rune sh al ct app nl bk else ⟨#[]⟩) = (if al = true then (⟨#[27]⟩ : ByteArray) else (⟨#[]⟩ : ByteArray)) ++ (if (bk != ct) = true then (⟨#[8]⟩ : ByteArray) else ⟨#[127]⟩)) := by
        unfold Hid
        rw [if_pos e2]
        unfold bytesS
        rw [if_pos (by decide), e1]
      clear HM hm e1 e2
      cases al <;> cases bk <;> cases ct
      all_goals
        go_wp2_with fail
        go_ret2
        refine ⟨?_, hb9⟩
        rw [HS.out, HI.out]
        exact congrArg (fun q => Ending.returned (.tuple #[.string q, .bool true])) (by decide +kernel)
  · skip
    as_aux_lemma =>
      have e1 : plainN 5 rune sh ct nl bk = ((⟨#[27]⟩ : ByteArray), true) := by
        unfold plainN
        repeat (first | rw [if_pos (by decide)] | rw [if_neg (by decide)])
      have e2 : bytesI 5 rune sh ct nl bk = true := by unfold bytesI; rw [if_pos (by decide), e1]
      have HI : Hid (bytesI 5 rune sh ct nl bk = true) := e2
      have HS : Hid ((if bytesI 5 rune sh ct nl bk = true then bytesS 5 rune sh al ct app nl bk else ⟨#[]⟩) = (if al = true then (⟨#[27]⟩ : ByteArray) else (⟨#[]⟩ : ByteArray)) ++ (⟨#[27]⟩ : ByteArray)) := by
        unfold Hid
        rw [if_pos e2]
        unfold bytesS
        rw [if_pos (by decide), e1]
      clear HM hm e1 e2
      cases al
      all_goals
        go_wp2_with fail
        go_ret2
        refine ⟨?_, hb9⟩
        rw [HS.out, HI.out]
        exact congrArg (fun q => Ending.returned (.tuple #[.string q, .bool true])) (by decide +kernel)
  · skip
    as_aux_lemma =>
      have cl : W9.cell? ⟨bl, 6, none⟩ = some (.string ⟨#[65]⟩) := xl9.cell 6
      have ll := xl9.lt
      clear hvk hv xl9 xn9 HV
      have HI : Hid (∀ x : ByteArray, (if bytesI 6 rune sh ct nl bk = true then x else ⟨#[]⟩) = x) := fun _ => rfl
      have HS : Hid (bytesS 6 rune sh al ct app nl bk = letterS m ⟨#[65]⟩ app) := by rw [← HM.out]; rfl
      have c2 := fun W => dig_any m W (by omega)
      have k2 := numS_size m (by omega) (by omega)
      have HU : Hid (letterS m ⟨#[65]⟩ app = if 1 < m then ((⟨#[27, 91, 49, 59]⟩ : ByteArray) ++ numS m) ++ ⟨#[65]⟩ else if app = true then (⟨#[27, 79]⟩ : ByteArray) ++ ⟨#[65]⟩ else (⟨#[27, 91]⟩ : ByteArray) ++ ⟨#[65]⟩) := rfl
      generalize numS m = s2 at *
      by_cases hm1 : 1 < m
      · have HT := HU.out
        rw [if_pos hm1] at HT
        have HT := Lib.hid HT
        clear HU
        go_wp2_with fail
        first | refine wp_grow2 (by kernel_rfl) (by kernel_rfl) ?_ | refine wp_grow (by kernel_rfl) (by kernel_rfl) ?_
        repeat (go_big_quiet_step ((go_at_call 21; with_reducible exact GW.call (c2 _))))
        refine wpQuiet_nil ?_
        rintro _ ⟨X, rfl⟩
        go_wp2_with fail
        go_ret2
        exact ⟨by rw [HI.out, HS.out, HT.out]; exact congrArg (fun q => Ending.returned (.tuple #[.string q, .bool true])) (by first | with_reducible rfl | decide +kernel), bl_trans hb9 X.grow⟩
      · have HT0 := HU.out
        rw [if_neg hm1] at HT0
        cases app
        · have HT : Hid (letterS m ⟨#[65]⟩ false = (⟨#[27, 91]⟩ : ByteArray) ++ ⟨#[65]⟩) := HT0
          clear HU HT0
          go_wp2_with fail
          go_ret2
          exact ⟨by rw [HI.out, HS.out, HT.out]; exact congrArg (fun q => Ending.returned (.tuple #[.string q, .bool true])) (by first | with_reducible rfl | decide +kernel), hb9⟩
        · have HT : Hid (letterS m ⟨#[65]⟩ true = (⟨#[27, 79]⟩ : ByteArray) ++ ⟨#[65]⟩) := HT0
          clear HU HT0
          go_wp2_with fail
          go_ret2
          exact ⟨by rw [HI.out, HS.out, HT.out]; exact congrArg (fun q => Ending.returned (.tuple #[.string q, .bool true])) (by first | with_reducible rfl | decide +kernel), hb9⟩
  · skip
    as_aux_lemma =>
      have cl : W9.cell? ⟨bl, 7, none⟩ = some (.string ⟨#[66]⟩) := xl9.cell 7
      have ll := xl9.lt
      clear hvk hv xl9 xn9 HV
      have HI : Hid (∀ x : ByteArray, (if bytesI 7 rune sh ct nl bk = true then x else ⟨#[]⟩) = x) := fun _ => rfl
      have HS : Hid (bytesS 7 rune sh al ct app nl bk = letterS m ⟨#[66]⟩ app) := by rw [← HM.out]; rfl
      have c2 := fun W => dig_any m W (by omega)
      have k2 := numS_size m (by omega) (by omega)
      have HU : Hid (letterS m ⟨#[66]⟩ app = if 1 < m then ((⟨#[27, 91, 49, 59]⟩ : ByteArray) ++ numS m) ++ ⟨#[66]⟩ else if app = true then (⟨#[27, 79]⟩ : ByteArray) ++ ⟨#[66]⟩ else (⟨#[27, 91]⟩ : ByteArray) ++ ⟨#[66]⟩) := rfl
      generalize numS m = s2 at *
      by_cases hm1 : 1 < m
      · have HT := HU.out
        rw [if_pos hm1] at HT
        have HT := Lib.hid HT
        clear HU
        go_wp2_with fail
        first | refine wp_grow2 (by kernel_rfl) (by kernel_rfl) ?_ | refine wp_grow (by kernel_rfl) (by kernel_rfl) ?_
        repeat (go_big_quiet_step ((go_at_call 21; with_reducible exact GW.call (c2 _))))
        refine wpQuiet_nil ?_
        rintro _ ⟨X, rfl⟩
        go_wp2_with fail
        go_ret2
        exact ⟨by rw [HI.out, HS.out, HT.out]; exact congrArg (fun q => Ending.returned (.tuple #[.string q, .bool true])) (by first | with_reducible rfl | decide +kernel), bl_trans hb9 X.grow⟩
      · have HT0 := HU.out
        rw [if_neg hm1] at HT0
        cases app
        · have HT : Hid (letterS m ⟨#[66]⟩ false = (⟨#[27, 91]⟩ : ByteArray) ++ ⟨#[66]⟩) := HT0
          clear HU HT0
          go_wp2_with fail
          go_ret2
          exact ⟨by rw [HI.out, HS.out, HT.out]; exact congrArg (fun q => Ending.returned (.tuple #[.string q, .bool true])) (by first | with_reducible rfl | decide +kernel), hb9⟩
        · have HT : Hid (letterS m ⟨#[66]⟩ true = (⟨#[27, 79]⟩ : ByteArray) ++ ⟨#[66]⟩) := HT0
          clear HU HT0
          go_wp2_with fail
          go_ret2
          exact ⟨by rw [HI.out, HS.out, HT.out]; exact congrArg (fun q => Ending.returned (.tuple #[.string q, .bool true])) (by first | with_reducible rfl | decide +kernel), hb9⟩
  · skip
    as_aux_lemma =>
      have cl : W9.cell? ⟨bl, 8, none⟩ = some (.string ⟨#[67]⟩) := xl9.cell 8
      have ll := xl9.lt
      clear hvk hv xl9 xn9 HV
      have HI : Hid (∀ x : ByteArray, (if bytesI 8 rune sh ct nl bk = true then x else ⟨#[]⟩) = x) := fun _ => rfl
      have HS : Hid (bytesS 8 rune sh al ct app nl bk = letterS m ⟨#[67]⟩ app) := by rw [← HM.out]; rfl
      have c2 := fun W => dig_any m W (by omega)
      have k2 := numS_size m (by omega) (by omega)
      have HU : Hid (letterS m ⟨#[67]⟩ app = if 1 < m then ((⟨#[27, 91, 49, 59]⟩ : ByteArray) ++ numS m) ++ ⟨#[67]⟩ else if app = true then (⟨#[27, 79]⟩ : ByteArray) ++ ⟨#[67]⟩ else (⟨#[27, 91]⟩ : ByteArray) ++ ⟨#[67]⟩) := rfl
      generalize numS m = s2 at *
      by_cases hm1 : 1 < m
      · have HT := HU.out
        rw [if_pos hm1] at HT
        have HT := Lib.hid HT
        clear HU
        go_wp2_with fail
        first | refine wp_grow2 (by kernel_rfl) (by kernel_rfl) ?_ | refine wp_grow (by kernel_rfl) (by kernel_rfl) ?_
        repeat (go_big_quiet_step ((go_at_call 21; with_reducible exact GW.call (c2 _))))
        refine wpQuiet_nil ?_
        rintro _ ⟨X, rfl⟩
        go_wp2_with fail
        go_ret2
        exact ⟨by rw [HI.out, HS.out, HT.out]; exact congrArg (fun q => Ending.returned (.tuple #[.string q, .bool true])) (by first | with_reducible rfl | decide +kernel), bl_trans hb9 X.grow⟩
      · have HT0 := HU.out
        rw [if_neg hm1] at HT0
        cases app
        · have HT : Hid (letterS m ⟨#[67]⟩ false = (⟨#[27, 91]⟩ : ByteArray) ++ ⟨#[67]⟩) := HT0
          clear HU HT0
          go_wp2_with fail
          go_ret2
          exact ⟨by rw [HI.out, HS.out, HT.out]; exact congrArg (fun q => Ending.returned (.tuple #[.string q, .bool true])) (by first | with_reducible rfl | decide +kernel), hb9⟩
        · have HT : Hid (letterS m ⟨#[67]⟩ true = (⟨#[27, 79]⟩ : ByteArray) ++ ⟨#[67]⟩) := HT0
          clear HU HT0
          go_wp2_with fail
          go_ret2
          exact ⟨by rw [HI.out, HS.out, HT.out]; exact congrArg (fun q => Ending.returned (.tuple #[.string q, .bool true])) (by first | with_reducible rfl | decide +kernel), hb9⟩
  · skip
    as_aux_lemma =>
      have cl : W9.cell? ⟨bl, 9, none⟩ = some (.string ⟨#[68]⟩) := xl9.cell 9
      have ll := xl9.lt
      clear hvk hv xl9 xn9 HV
      have HI : Hid (∀ x : ByteArray, (if bytesI 9 rune sh ct nl bk = true then x else ⟨#[]⟩) = x) := fun _ => rfl
      have HS : Hid (bytesS 9 rune sh al ct app nl bk = letterS m ⟨#[68]⟩ app) := by rw [← HM.out]; rfl
      have c2 := fun W => dig_any m W (by omega)
      have k2 := numS_size m (by omega) (by omega)
      have HU : Hid (letterS m ⟨#[68]⟩ app = if 1 < m then ((⟨#[27, 91, 49, 59]⟩ : ByteArray) ++ numS m) ++ ⟨#[68]⟩ else if app = true then (⟨#[27, 79]⟩ : ByteArray) ++ ⟨#[68]⟩ else (⟨#[27, 91]⟩ : ByteArray) ++ ⟨#[68]⟩) := rfl
      generalize numS m = s2 at *
      by_cases hm1 : 1 < m
      · have HT := HU.out
        rw [if_pos hm1] at HT
        have HT := Lib.hid HT
        clear HU
        go_wp2_with fail
        first | refine wp_grow2 (by kernel_rfl) (by kernel_rfl) ?_ | refine wp_grow (by kernel_rfl) (by kernel_rfl) ?_
        repeat (go_big_quiet_step ((go_at_call 21; with_reducible exact GW.call (c2 _))))
        refine wpQuiet_nil ?_
        rintro _ ⟨X, rfl⟩
        go_wp2_with fail
        go_ret2
        exact ⟨by rw [HI.out, HS.out, HT.out]; exact congrArg (fun q => Ending.returned (.tuple #[.string q, .bool true])) (by first | with_reducible rfl | decide +kernel), bl_trans hb9 X.grow⟩
      · have HT0 := HU.out
        rw [if_neg hm1] at HT0
        cases app
        · have HT : Hid (letterS m ⟨#[68]⟩ false = (⟨#[27, 91]⟩ : ByteArray) ++ ⟨#[68]⟩) := HT0
          clear HU HT0
          go_wp2_with fail
          go_ret2
          exact ⟨by rw [HI.out, HS.out, HT.out]; exact congrArg (fun q => Ending.returned (.tuple #[.string q, .bool true])) (by first | with_reducible rfl | decide +kernel), hb9⟩
        · have HT : Hid (letterS m ⟨#[68]⟩ true = (⟨#[27, 79]⟩ : ByteArray) ++ ⟨#[68]⟩) := HT0
          clear HU HT0
          go_wp2_with fail
          go_ret2
          exact ⟨by rw [HI.out, HS.out, HT.out]; exact congrArg (fun q => Ending.returned (.tuple #[.string q, .bool true])) (by first | with_reducible rfl | decide +kernel), hb9⟩
  · skip
    as_aux_lemma =>
      have cl : W9.cell? ⟨bl, 10, none⟩ = some (.string ⟨#[72]⟩) := xl9.cell 10
      have ll := xl9.lt
      clear hvk hv xl9 xn9 HV
      have HI : Hid (∀ x : ByteArray, (if bytesI 10 rune sh ct nl bk = true then x else ⟨#[]⟩) = x) := fun _ => rfl
      have HS : Hid (bytesS 10 rune sh al ct app nl bk = letterS m ⟨#[72]⟩ app) := by rw [← HM.out]; rfl
      have c2 := fun W => dig_any m W (by omega)
      have k2 := numS_size m (by omega) (by omega)
      have HU : Hid (letterS m ⟨#[72]⟩ app = if 1 < m then ((⟨#[27, 91, 49, 59]⟩ : ByteArray) ++ numS m) ++ ⟨#[72]⟩ else if app = true then (⟨#[27, 79]⟩ : ByteArray) ++ ⟨#[72]⟩ else (⟨#[27, 91]⟩ : ByteArray) ++ ⟨#[72]⟩) := rfl
      generalize numS m = s2 at *
      by_cases hm1 : 1 < m
      · have HT := HU.out
        rw [if_pos hm1] at HT
        have HT := Lib.hid HT
        clear HU
        go_wp2_with fail
        first | refine wp_grow2 (by kernel_rfl) (by kernel_rfl) ?_ | refine wp_grow (by kernel_rfl) (by kernel_rfl) ?_
        repeat (go_big_quiet_step ((go_at_call 21; with_reducible exact GW.call (c2 _))))
        refine wpQuiet_nil ?_
        rintro _ ⟨X, rfl⟩
        go_wp2_with fail
        go_ret2
        exact ⟨by rw [HI.out, HS.out, HT.out]; exact congrArg (fun q => Ending.returned (.tuple #[.string q, .bool true])) (by first | with_reducible rfl | decide +kernel), bl_trans hb9 X.grow⟩
      · have HT0 := HU.out
        rw [if_neg hm1] at HT0
        cases app
        · have HT : Hid (letterS m ⟨#[72]⟩ false = (⟨#[27, 91]⟩ : ByteArray) ++ ⟨#[72]⟩) := HT0
          clear HU HT0
          go_wp2_with fail
          go_ret2
          exact ⟨by rw [HI.out, HS.out, HT.out]; exact congrArg (fun q => Ending.returned (.tuple #[.string q, .bool true])) (by first | with_reducible rfl | decide +kernel), hb9⟩
        · have HT : Hid (letterS m ⟨#[72]⟩ true = (⟨#[27, 79]⟩ : ByteArray) ++ ⟨#[72]⟩) := HT0
          clear HU HT0
          go_wp2_with fail
          go_ret2
          exact ⟨by rw [HI.out, HS.out, HT.out]; exact congrArg (fun q => Ending.returned (.tuple #[.string q, .bool true])) (by first | with_reducible rfl | decide +kernel), hb9⟩
  · skip
    as_aux_lemma =>
      have cl : W9.cell? ⟨bl, 11, none⟩ = some (.string ⟨#[70]⟩) := xl9.cell 11
      have ll := xl9.lt
      clear hvk hv xl9 xn9 HV
      have HI : Hid (∀ x : ByteArray, (if bytesI 11 rune sh ct nl bk = true then x else ⟨#[]⟩) = x) := fun _ => rfl
      have HS : Hid (bytesS 11 rune sh al ct app nl bk = letterS m ⟨#[70]⟩ app) := by rw [← HM.out]; rfl
      have c2 := fun W => dig_any m W (by omega)
      have k2 := numS_size m (by omega) (by omega)
      have HU : Hid (letterS m ⟨#[70]⟩ app = if 1 < m then ((⟨#[27, 91, 49, 59]⟩ : ByteArray) ++ numS m) ++ ⟨#[70]⟩ else if app = true then (⟨#[27, 79]⟩ : ByteArray) ++ ⟨#[70]⟩ else (⟨#[27, 91]⟩ : ByteArray) ++ ⟨#[70]⟩) := rfl
      generalize numS m = s2 at *
      by_cases hm1 : 1 < m
      · have HT := HU.out
        rw [if_pos hm1] at HT
        have HT := Lib.hid HT
        clear HU
        go_wp2_with fail
        first | refine wp_grow2 (by kernel_rfl) (by kernel_rfl) ?_ | refine wp_grow (by kernel_rfl) (by kernel_rfl) ?_
        repeat (go_big_quiet_step ((go_at_call 21; with_reducible exact GW.call (c2 _))))
        refine wpQuiet_nil ?_
        rintro _ ⟨X, rfl⟩
        go_wp2_with fail
        go_ret2
        exact ⟨by rw [HI.out, HS.out, HT.out]; exact congrArg (fun q => Ending.returned (.tuple #[.string q, .bool true])) (by first | with_reducible rfl | decide +kernel), bl_trans hb9 X.grow⟩
      · have HT0 := HU.out
        rw [if_neg hm1] at HT0
        cases app
        · have HT : Hid (letterS m ⟨#[70]⟩ false = (⟨#[27, 91]⟩ : ByteArray) ++ ⟨#[70]⟩) := HT0
          clear HU HT0
          go_wp2_with fail
          go_ret2
          exact ⟨by rw [HI.out, HS.out, HT.out]; exact congrArg (fun q => Ending.returned (.tuple #[.string q, .bool true])) (by first | with_reducible rfl | decide +kernel), hb9⟩
        · have HT : Hid (letterS m ⟨#[70]⟩ true = (⟨#[27, 79]⟩ : ByteArray) ++ ⟨#[70]⟩) := HT0
          clear HU HT0
          go_wp2_with fail
          go_ret2
          exact ⟨by rw [HI.out, HS.out, HT.out]; exact congrArg (fun q => Ending.returned (.tuple #[.string q, .bool true])) (by first | with_reducible rfl | decide +kernel), hb9⟩
  · skip
    as_aux_lemma =>
      have cn : W9.cell? ⟨bn, 12, none⟩ = some (.int .i64 2) := xn9.cell 12
      have ln := xn9.lt
      clear hvk hv xl9 xn9 HV
      have HI : Hid (∀ x : ByteArray, (if bytesI 12 rune sh ct nl bk = true then x else ⟨#[]⟩) = x) := fun _ => rfl
      have HS : Hid (bytesS 12 rune sh al ct app nl bk = numberedS m 2) := by rw [← HM.out]; rfl
      have c1 := fun W => dig_any 2 W (by omega)
      have c2 := fun W => dig_any m W (by omega)
      have k1 := numS_size 2 (by omega) (by omega)
      have k2 := numS_size m (by omega) (by omega)
      have HU : Hid (numberedS m 2 = if 1 < m then (((⟨#[27, 91]⟩ : ByteArray) ++ numS 2) ++ ((⟨#[59]⟩ : ByteArray) ++ numS m)) ++ (⟨#[126]⟩ : ByteArray) else ((⟨#[27, 91]⟩ : ByteArray) ++ numS 2) ++ (⟨#[126]⟩ : ByteArray)) := rfl
      generalize numS 2 = s1 at *
      generalize numS m = s2 at *
      by_cases hm1 : 1 < m
      · have HT := HU.out
        rw [if_pos hm1, ← ByteArray.append_assoc] at HT
        have HT := Lib.hid HT
        clear HU
        go_wp2_with (first | (go_at_call 21; (with_reducible refine (c1 _).mono ?_); rintro e w1 ⟨rfl, hb1⟩; have hl1 := bl_trans hb9 hb1) | (go_at_call 21; (with_reducible refine (c2 _).mono ?_); rintro e w2 ⟨rfl, hb2⟩; have hl2 := bl_trans hl1 hb2))
        go_ret2
        exact ⟨by rw [HI.out, HS.out, HT.out]; exact congrArg (fun q => Ending.returned (.tuple #[.string q, .bool true])) (by first | with_reducible rfl | decide +kernel), hl2⟩
      · have HT := HU.out
        rw [if_neg hm1] at HT
        have HT := Lib.hid HT
        clear HU
        go_wp2_with (first | (go_at_call 21; (with_reducible refine (c1 _).mono ?_); rintro e w1 ⟨rfl, hb1⟩; have hl1 := bl_trans hb9 hb1))
        go_ret2
        exact ⟨by rw [HI.out, HS.out, HT.out]; exact congrArg (fun q => Ending.returned (.tuple #[.string q, .bool true])) (by first | with_reducible rfl | decide +kernel), hl1⟩
  · skip
    as_aux_lemma =>
      have cn : W9.cell? ⟨bn, 13, none⟩ = some (.int .i64 3) := xn9.cell 13
      have ln := xn9.lt
      clear hvk hv xl9 xn9 HV
      have HI : Hid (∀ x : ByteArray, (if bytesI 13 rune sh ct nl bk = true then x else ⟨#[]⟩) = x) := fun _ => rfl
      have HS : Hid (bytesS 13 rune sh al ct app nl bk = numberedS m 3) := by rw [← HM.out]; rfl
      have c1 := fun W => dig_any 3 W (by omega)
      have c2 := fun W => dig_any m W (by omega)
      have k1 := numS_size 3 (by omega) (by omega)
      have k2 := numS_size m (by omega) (by omega)
      have HU : Hid (numberedS m 3 = if 1 < m then (((⟨#[27, 91]⟩ : ByteArray) ++ numS 3) ++ ((⟨#[59]⟩ : ByteArray) ++ numS m)) ++ (⟨#[126]⟩ : ByteArray) else ((⟨#[27, 91]⟩ : ByteArray) ++ numS 3) ++ (⟨#[126]⟩ : ByteArray)) := rfl
      generalize numS 3 = s1 at *
      generalize numS m = s2 at *
      by_cases hm1 : 1 < m
      · have HT := HU.out
        rw [if_pos hm1, ← ByteArray.append_assoc] at HT
        have HT := Lib.hid HT
        clear HU
        go_wp2_with (first | (go_at_call 21; (with_reducible refine (c1 _).mono ?_); rintro e w1 ⟨rfl, hb1⟩; have hl1 := bl_trans hb9 hb1) | (go_at_call 21; (with_reducible refine (c2 _).mono ?_); rintro e w2 ⟨rfl, hb2⟩; have hl2 := bl_trans hl1 hb2))
        go_ret2
        exact ⟨by rw [HI.out, HS.out, HT.out]; exact congrArg (fun q => Ending.returned (.tuple #[.string q, .bool true])) (by first | with_reducible rfl | decide +kernel), hl2⟩
      · have HT := HU.out
        rw [if_neg hm1] at HT
        have HT := Lib.hid HT
        clear HU
        go_wp2_with (first | (go_at_call 21; (with_reducible refine (c1 _).mono ?_); rintro e w1 ⟨rfl, hb1⟩; have hl1 := bl_trans hb9 hb1))
        go_ret2
        exact ⟨by rw [HI.out, HS.out, HT.out]; exact congrArg (fun q => Ending.returned (.tuple #[.string q, .bool true])) (by first | with_reducible rfl | decide +kernel), hl1⟩
  · skip
    as_aux_lemma =>
      have cn : W9.cell? ⟨bn, 14, none⟩ = some (.int .i64 5) := xn9.cell 14
      have ln := xn9.lt
      clear hvk hv xl9 xn9 HV
      have HI : Hid (∀ x : ByteArray, (if bytesI 14 rune sh ct nl bk = true then x else ⟨#[]⟩) = x) := fun _ => rfl
      have HS : Hid (bytesS 14 rune sh al ct app nl bk = numberedS m 5) := by rw [← HM.out]; rfl
      have c1 := fun W => dig_any 5 W (by omega)
      have c2 := fun W => dig_any m W (by omega)
      have k1 := numS_size 5 (by omega) (by omega)
      have k2 := numS_size m (by omega) (by omega)
      have HU : Hid (numberedS m 5 = if 1 < m then (((⟨#[27, 91]⟩ : ByteArray) ++ numS 5) ++ ((⟨#[59]⟩ : ByteArray) ++ numS m)) ++ (⟨#[126]⟩ : ByteArray) else ((⟨#[27, 91]⟩ : ByteArray) ++ numS 5) ++ (⟨#[126]⟩ : ByteArray)) := rfl
      generalize numS 5 = s1 at *
      generalize numS m = s2 at *
      by_cases hm1 : 1 < m
      · have HT := HU.out
        rw [if_pos hm1, ← ByteArray.append_assoc] at HT
        have HT := Lib.hid HT
        clear HU
        go_wp2_with (first | (go_at_call 21; (with_reducible refine (c1 _).mono ?_); rintro e w1 ⟨rfl, hb1⟩; have hl1 := bl_trans hb9 hb1) | (go_at_call 21; (with_reducible refine (c2 _).mono ?_); rintro e w2 ⟨rfl, hb2⟩; have hl2 := bl_trans hl1 hb2))
        go_ret2
        exact ⟨by rw [HI.out, HS.out, HT.out]; exact congrArg (fun q => Ending.returned (.tuple #[.string q, .bool true])) (by first | with_reducible rfl | decide +kernel), hl2⟩
      · have HT := HU.out
        rw [if_neg hm1] at HT
        have HT := Lib.hid HT
        clear HU
        go_wp2_with (first | (go_at_call 21; (with_reducible refine (c1 _).mono ?_); rintro e w1 ⟨rfl, hb1⟩; have hl1 := bl_trans hb9 hb1))
        go_ret2
        exact ⟨by rw [HI.out, HS.out, HT.out]; exact congrArg (fun q => Ending.returned (.tuple #[.string q, .bool true])) (by first | with_reducible rfl | decide +kernel), hl1⟩
  · skip
    as_aux_lemma =>
      have cn : W9.cell? ⟨bn, 15, none⟩ = some (.int .i64 6) := xn9.cell 15
      have ln := xn9.lt
      clear hvk hv xl9 xn9 HV
      have HI : Hid (∀ x : ByteArray, (if bytesI 15 rune sh ct nl bk = true then x else ⟨#[]⟩) = x) := fun _ => rfl
      have HS : Hid (bytesS 15 rune sh al ct app nl bk = numberedS m 6) := by rw [← HM.out]; rfl
      have c1 := fun W => dig_any 6 W (by omega)
      have c2 := fun W => dig_any m W (by omega)
      have k1 := numS_size 6 (by omega) (by omega)
      have k2 := numS_size m (by omega) (by omega)
      have HU : Hid (numberedS m 6 = if 1 < m then (((⟨#[27, 91]⟩ : ByteArray) ++ numS 6) ++ ((⟨#[59]⟩ : ByteArray) ++ numS m)) ++ (⟨#[126]⟩ : ByteArray) else ((⟨#[27, 91]⟩ : ByteArray) ++ numS 6) ++ (⟨#[126]⟩ : ByteArray)) := rfl
      generalize numS 6 = s1 at *
      generalize numS m = s2 at *
      by_cases hm1 : 1 < m
      · have HT := HU.out
        rw [if_pos hm1, ← ByteArray.append_assoc] at HT
        have HT := Lib.hid HT
        clear HU
        go_wp2_with (first | (go_at_call 21; (with_reducible refine (c1 _).mono ?_); rintro e w1 ⟨rfl, hb1⟩; have hl1 := bl_trans hb9 hb1) | (go_at_call 21; (with_reducible refine (c2 _).mono ?_); rintro e w2 ⟨rfl, hb2⟩; have hl2 := bl_trans hl1 hb2))
        go_ret2
        exact ⟨by rw [HI.out, HS.out, HT.out]; exact congrArg (fun q => Ending.returned (.tuple #[.string q, .bool true])) (by first | with_reducible rfl | decide +kernel), hl2⟩
      · have HT := HU.out
        rw [if_neg hm1] at HT
        have HT := Lib.hid HT
        clear HU
        go_wp2_with (first | (go_at_call 21; (with_reducible refine (c1 _).mono ?_); rintro e w1 ⟨rfl, hb1⟩; have hl1 := bl_trans hb9 hb1))
        go_ret2
        exact ⟨by rw [HI.out, HS.out, HT.out]; exact congrArg (fun q => Ending.returned (.tuple #[.string q, .bool true])) (by first | with_reducible rfl | decide +kernel), hl1⟩
  · skip
    as_aux_lemma =>
      have cl : W9.cell? ⟨bl, 16, none⟩ = some (.string ⟨#[80]⟩) := xl9.cell 16
      have ll := xl9.lt
      have cn : W9.cell? ⟨bn, 16, none⟩ = some (.int .i64 0) := xn9.cell 16
      have ln := xn9.lt
      clear hvk hv xl9 xn9 HV
      have HI : Hid (∀ x : ByteArray, (if bytesI 16 rune sh ct nl bk = true then x else ⟨#[]⟩) = x) := fun _ => rfl
      have HS : Hid (bytesS 16 rune sh al ct app nl bk = letterS m ⟨#[80]⟩ true) := by rw [← HM.out]; rfl
      have c2 := fun W => dig_any m W (by omega)
      have k2 := numS_size m (by omega) (by omega)
      have HU : Hid (letterS m ⟨#[80]⟩ true = if 1 < m then ((⟨#[27, 91, 49, 59]⟩ : ByteArray) ++ numS m) ++ ⟨#[80]⟩ else if true = true then (⟨#[27, 79]⟩ : ByteArray) ++ ⟨#[80]⟩ else (⟨#[27, 91]⟩ : ByteArray) ++ ⟨#[80]⟩) := rfl
      generalize numS m = s2 at *
      by_cases hm1 : 1 < m
      · have HT := HU.out
        rw [if_pos hm1] at HT
        have HT := Lib.hid HT
        clear HU
        go_wp2_with fail
        first | refine wp_grow2 (by kernel_rfl) (by kernel_rfl) ?_ | refine wp_grow (by kernel_rfl) (by kernel_rfl) ?_
        repeat (go_big_quiet_step ((go_at_call 21; with_reducible exact GW.call (c2 _))))
        refine wpQuiet_nil ?_
        rintro _ ⟨X, rfl⟩
        go_wp2_with fail
        go_ret2
        exact ⟨by rw [HI.out, HS.out, HT.out]; exact congrArg (fun q => Ending.returned (.tuple #[.string q, .bool true])) (by first | with_reducible rfl | decide +kernel), bl_trans hb9 X.grow⟩
      · have HT0 := HU.out
        rw [if_neg hm1] at HT0
        have HT : Hid (letterS m ⟨#[80]⟩ true = (⟨#[27, 79]⟩ : ByteArray) ++ ⟨#[80]⟩) := HT0
        clear HU HT0
        go_wp2_with fail
        go_ret2
        exact ⟨by rw [HI.out, HS.out, HT.out]; exact congrArg (fun q => Ending.returned (.tuple #[.string q, .bool true])) (by first | with_reducible rfl | decide +kernel), hb9⟩
  · skip
    as_aux_lemma =>
      have cl : W9.cell? ⟨bl, 17, none⟩ = some (.string ⟨#[81]⟩) := xl9.cell 17
      have ll := xl9.lt
      have cn : W9.cell? ⟨bn, 17, none⟩ = some (.int .i64 0) := xn9.cell 17
      have ln := xn9.lt
      clear hvk hv xl9 xn9 HV
      have HI : Hid (∀ x : ByteArray, (if bytesI 17 rune sh ct nl bk = true then x else ⟨#[]⟩) = x) := fun _ => rfl
      have HS : Hid (bytesS 17 rune sh al ct app nl bk = letterS m ⟨#[81]⟩ true) := by rw [← HM.out]; rfl
      have c2 := fun W => dig_any m W (by omega)
      have k2 := numS_size m (by omega) (by omega)
      have HU : Hid (letterS m ⟨#[81]⟩ true = if 1 < m then ((⟨#[27, 91, 49, 59]⟩ : ByteArray) ++ numS m) ++ ⟨#[81]⟩ else if true = true then (⟨#[27, 79]⟩ : ByteArray) ++ ⟨#[81]⟩ else (⟨#[27, 91]⟩ : ByteArray) ++ ⟨#[81]⟩) := rfl
      generalize numS m = s2 at *
      by_cases hm1 : 1 < m
      · have HT := HU.out
        rw [if_pos hm1] at HT
        have HT := Lib.hid HT
        clear HU
        go_wp2_with fail
        first | refine wp_grow2 (by kernel_rfl) (by kernel_rfl) ?_ | refine wp_grow (by kernel_rfl) (by kernel_rfl) ?_
        repeat (go_big_quiet_step ((go_at_call 21; with_reducible exact GW.call (c2 _))))
        refine wpQuiet_nil ?_
        rintro _ ⟨X, rfl⟩
        go_wp2_with fail
        go_ret2
        exact ⟨by rw [HI.out, HS.out, HT.out]; exact congrArg (fun q => Ending.returned (.tuple #[.string q, .bool true])) (by first | with_reducible rfl | decide +kernel), bl_trans hb9 X.grow⟩
      · have HT0 := HU.out
        rw [if_neg hm1] at HT0
        have HT : Hid (letterS m ⟨#[81]⟩ true = (⟨#[27, 79]⟩ : ByteArray) ++ ⟨#[81]⟩) := HT0
        clear HU HT0
        go_wp2_with fail
        go_ret2
        exact ⟨by rw [HI.out, HS.out, HT.out]; exact congrArg (fun q => Ending.returned (.tuple #[.string q, .bool true])) (by first | with_reducible rfl | decide +kernel), hb9⟩
  · skip
    as_aux_lemma =>
      have cl : W9.cell? ⟨bl, 18, none⟩ = some (.string ⟨#[82]⟩) := xl9.cell 18
      have ll := xl9.lt
      have cn : W9.cell? ⟨bn, 18, none⟩ = some (.int .i64 0) := xn9.cell 18
      have ln := xn9.lt
      clear hvk hv xl9 xn9 HV
      have HI : Hid (∀ x : ByteArray, (if bytesI 18 rune sh ct nl bk = true then x else ⟨#[]⟩) = x) := fun _ => rfl
      have HS : Hid (bytesS 18 rune sh al ct app nl bk = letterS m ⟨#[82]⟩ true) := by rw [← HM.out]; rfl
      have c2 := fun W => dig_any m W (by omega)
      have k2 := numS_size m (by omega) (by omega)
      have HU : Hid (letterS m ⟨#[82]⟩ true = if 1 < m then ((⟨#[27, 91, 49, 59]⟩ : ByteArray) ++ numS m) ++ ⟨#[82]⟩ else if true = true then (⟨#[27, 79]⟩ : ByteArray) ++ ⟨#[82]⟩ else (⟨#[27, 91]⟩ : ByteArray) ++ ⟨#[82]⟩) := rfl
      generalize numS m = s2 at *
      by_cases hm1 : 1 < m
      · have HT := HU.out
        rw [if_pos hm1] at HT
        have HT := Lib.hid HT
        clear HU
        go_wp2_with fail
        first | refine wp_grow2 (by kernel_rfl) (by kernel_rfl) ?_ | refine wp_grow (by kernel_rfl) (by kernel_rfl) ?_
        repeat (go_big_quiet_step ((go_at_call 21; with_reducible exact GW.call (c2 _))))
        refine wpQuiet_nil ?_
        rintro _ ⟨X, rfl⟩
        go_wp2_with fail
        go_ret2
        exact ⟨by rw [HI.out, HS.out, HT.out]; exact congrArg (fun q => Ending.returned (.tuple #[.string q, .bool true])) (by first | with_reducible rfl | decide +kernel), bl_trans hb9 X.grow⟩
      · have HT0 := HU.out
        rw [if_neg hm1] at HT0
        have HT : Hid (letterS m ⟨#[82]⟩ true = (⟨#[27, 79]⟩ : ByteArray) ++ ⟨#[82]⟩) := HT0
        clear HU HT0
        go_wp2_with fail
        go_ret2
        exact ⟨by rw [HI.out, HS.out, HT.out]; exact congrArg (fun q => Ending.returned (.tuple #[.string q, .bool true])) (by first | with_reducible rfl | decide +kernel), hb9⟩
  · skip
    as_aux_lemma =>
      have cl : W9.cell? ⟨bl, 19, none⟩ = some (.string ⟨#[83]⟩) := xl9.cell 19
      have ll := xl9.lt
      have cn : W9.cell? ⟨bn, 19, none⟩ = some (.int .i64 0) := xn9.cell 19
      have ln := xn9.lt
      clear hvk hv xl9 xn9 HV
      have HI : Hid (∀ x : ByteArray, (if bytesI 19 rune sh ct nl bk = true then x else ⟨#[]⟩) = x) := fun _ => rfl
      have HS : Hid (bytesS 19 rune sh al ct app nl bk = letterS m ⟨#[83]⟩ true) := by rw [← HM.out]; rfl
      have c2 := fun W => dig_any m W (by omega)
      have k2 := numS_size m (by omega) (by omega)
      have HU : Hid (letterS m ⟨#[83]⟩ true = if 1 < m then ((⟨#[27, 91, 49, 59]⟩ : ByteArray) ++ numS m) ++ ⟨#[83]⟩ else if true = true then (⟨#[27, 79]⟩ : ByteArray) ++ ⟨#[83]⟩ else (⟨#[27, 91]⟩ : ByteArray) ++ ⟨#[83]⟩) := rfl
      generalize numS m = s2 at *
      by_cases hm1 : 1 < m
      · have HT := HU.out
        rw [if_pos hm1] at HT
        have HT := Lib.hid HT
        clear HU
        go_wp2_with fail
        first | refine wp_grow2 (by kernel_rfl) (by kernel_rfl) ?_ | refine wp_grow (by kernel_rfl) (by kernel_rfl) ?_
        repeat (go_big_quiet_step ((go_at_call 21; with_reducible exact GW.call (c2 _))))
        refine wpQuiet_nil ?_
        rintro _ ⟨X, rfl⟩
        go_wp2_with fail
        go_ret2
        exact ⟨by rw [HI.out, HS.out, HT.out]; exact congrArg (fun q => Ending.returned (.tuple #[.string q, .bool true])) (by first | with_reducible rfl | decide +kernel), bl_trans hb9 X.grow⟩
      · have HT0 := HU.out
        rw [if_neg hm1] at HT0
        have HT : Hid (letterS m ⟨#[83]⟩ true = (⟨#[27, 79]⟩ : ByteArray) ++ ⟨#[83]⟩) := HT0
        clear HU HT0
        go_wp2_with fail
        go_ret2
        exact ⟨by rw [HI.out, HS.out, HT.out]; exact congrArg (fun q => Ending.returned (.tuple #[.string q, .bool true])) (by first | with_reducible rfl | decide +kernel), hb9⟩
  · skip
    as_aux_lemma =>
      have cn : W9.cell? ⟨bn, 20, none⟩ = some (.int .i64 15) := xn9.cell 20
      have ln := xn9.lt
      clear hvk hv xl9 xn9 HV
      have HI : Hid (∀ x : ByteArray, (if bytesI 20 rune sh ct nl bk = true then x else ⟨#[]⟩) = x) := fun _ => rfl
      have HS : Hid (bytesS 20 rune sh al ct app nl bk = numberedS m 15) := by rw [← HM.out]; rfl
      have c1 := fun W => dig_any 15 W (by omega)
      have c2 := fun W => dig_any m W (by omega)
      have k1 := numS_size 15 (by omega) (by omega)
      have k2 := numS_size m (by omega) (by omega)
      have HU : Hid (numberedS m 15 = if 1 < m then (((⟨#[27, 91]⟩ : ByteArray) ++ numS 15) ++ ((⟨#[59]⟩ : ByteArray) ++ numS m)) ++ (⟨#[126]⟩ : ByteArray) else ((⟨#[27, 91]⟩ : ByteArray) ++ numS 15) ++ (⟨#[126]⟩ : ByteArray)) := rfl
      generalize numS 15 = s1 at *
      generalize numS m = s2 at *
      by_cases hm1 : 1 < m
      · have HT := HU.out
        rw [if_pos hm1, ← ByteArray.append_assoc] at HT
        have HT := Lib.hid HT
        clear HU
        go_wp2_with (first | (go_at_call 21; (with_reducible refine (c1 _).mono ?_); rintro e w1 ⟨rfl, hb1⟩; have hl1 := bl_trans hb9 hb1) | (go_at_call 21; (with_reducible refine (c2 _).mono ?_); rintro e w2 ⟨rfl, hb2⟩; have hl2 := bl_trans hl1 hb2))
        go_ret2
        exact ⟨by rw [HI.out, HS.out, HT.out]; exact congrArg (fun q => Ending.returned (.tuple #[.string q, .bool true])) (by first | with_reducible rfl | decide +kernel), hl2⟩
      · have HT := HU.out
        rw [if_neg hm1] at HT
        have HT := Lib.hid HT
        clear HU
        go_wp2_with (first | (go_at_call 21; (with_reducible refine (c1 _).mono ?_); rintro e w1 ⟨rfl, hb1⟩; have hl1 := bl_trans hb9 hb1))
        go_ret2
        exact ⟨by rw [HI.out, HS.out, HT.out]; exact congrArg (fun q => Ending.returned (.tuple #[.string q, .bool true])) (by first | with_reducible rfl | decide +kernel), hl1⟩
  · skip
    as_aux_lemma =>
      have cn : W9.cell? ⟨bn, 21, none⟩ = some (.int .i64 17) := xn9.cell 21
      have ln := xn9.lt
      clear hvk hv xl9 xn9 HV
      have HI : Hid (∀ x : ByteArray, (if bytesI 21 rune sh ct nl bk = true then x else ⟨#[]⟩) = x) := fun _ => rfl
      have HS : Hid (bytesS 21 rune sh al ct app nl bk = numberedS m 17) := by rw [← HM.out]; rfl
      have c1 := fun W => dig_any 17 W (by omega)
      have c2 := fun W => dig_any m W (by omega)
      have k1 := numS_size 17 (by omega) (by omega)
      have k2 := numS_size m (by omega) (by omega)
      have HU : Hid (numberedS m 17 = if 1 < m then (((⟨#[27, 91]⟩ : ByteArray) ++ numS 17) ++ ((⟨#[59]⟩ : ByteArray) ++ numS m)) ++ (⟨#[126]⟩ : ByteArray) else ((⟨#[27, 91]⟩ : ByteArray) ++ numS 17) ++ (⟨#[126]⟩ : ByteArray)) := rfl
      generalize numS 17 = s1 at *
      generalize numS m = s2 at *
      by_cases hm1 : 1 < m
      · have HT := HU.out
        rw [if_pos hm1, ← ByteArray.append_assoc] at HT
        have HT := Lib.hid HT
        clear HU
        go_wp2_with (first | (go_at_call 21; (with_reducible refine (c1 _).mono ?_); rintro e w1 ⟨rfl, hb1⟩; have hl1 := bl_trans hb9 hb1) | (go_at_call 21; (with_reducible refine (c2 _).mono ?_); rintro e w2 ⟨rfl, hb2⟩; have hl2 := bl_trans hl1 hb2))
        go_ret2
        exact ⟨by rw [HI.out, HS.out, HT.out]; exact congrArg (fun q => Ending.returned (.tuple #[.string q, .bool true])) (by first | with_reducible rfl | decide +kernel), hl2⟩
      · have HT := HU.out
        rw [if_neg hm1] at HT
        have HT := Lib.hid HT
        clear HU
        go_wp2_with (first | (go_at_call 21; (with_reducible refine (c1 _).mono ?_); rintro e w1 ⟨rfl, hb1⟩; have hl1 := bl_trans hb9 hb1))
        go_ret2
        exact ⟨by rw [HI.out, HS.out, HT.out]; exact congrArg (fun q => Ending.returned (.tuple #[.string q, .bool true])) (by first | with_reducible rfl | decide +kernel), hl1⟩
  · skip
    as_aux_lemma =>
      have cn : W9.cell? ⟨bn, 22, none⟩ = some (.int .i64 18) := xn9.cell 22
      have ln := xn9.lt
      clear hvk hv xl9 xn9 HV
      have HI : Hid (∀ x : ByteArray, (if bytesI 22 rune sh ct nl bk = true then x else ⟨#[]⟩) = x) := fun _ => rfl
      have HS : Hid (bytesS 22 rune sh al ct app nl bk = numberedS m 18) := by rw [← HM.out]; rfl
      have c1 := fun W => dig_any 18 W (by omega)
      have c2 := fun W => dig_any m W (by omega)
      have k1 := numS_size 18 (by omega) (by omega)
      have k2 := numS_size m (by omega) (by omega)
      have HU : Hid (numberedS m 18 = if 1 < m then (((⟨#[27, 91]⟩ : ByteArray) ++ numS 18) ++ ((⟨#[59]⟩ : ByteArray) ++ numS m)) ++ (⟨#[126]⟩ : ByteArray) else ((⟨#[27, 91]⟩ : ByteArray) ++ numS 18) ++ (⟨#[126]⟩ : ByteArray)) := rfl
      generalize numS 18 = s1 at *
      generalize numS m = s2 at *
      by_cases hm1 : 1 < m
      · have HT := HU.out
        rw [if_pos hm1, ← ByteArray.append_assoc] at HT
        have HT := Lib.hid HT
        clear HU
        go_wp2_with (first | (go_at_call 21; (with_reducible refine (c1 _).mono ?_); rintro e w1 ⟨rfl, hb1⟩; have hl1 := bl_trans hb9 hb1) | (go_at_call 21; (with_reducible refine (c2 _).mono ?_); rintro e w2 ⟨rfl, hb2⟩; have hl2 := bl_trans hl1 hb2))
        go_ret2
        exact ⟨by rw [HI.out, HS.out, HT.out]; exact congrArg (fun q => Ending.returned (.tuple #[.string q, .bool true])) (by first | with_reducible rfl | decide +kernel), hl2⟩
      · have HT := HU.out
        rw [if_neg hm1] at HT
        have HT := Lib.hid HT
        clear HU
        go_wp2_with (first | (go_at_call 21; (with_reducible refine (c1 _).mono ?_); rintro e w1 ⟨rfl, hb1⟩; have hl1 := bl_trans hb9 hb1))
        go_ret2
        exact ⟨by rw [HI.out, HS.out, HT.out]; exact congrArg (fun q => Ending.returned (.tuple #[.string q, .bool true])) (by first | with_reducible rfl | decide +kernel), hl1⟩
  · skip
    as_aux_lemma =>
      have cn : W9.cell? ⟨bn, 23, none⟩ = some (.int .i64 19) := xn9.cell 23
      have ln := xn9.lt
      clear hvk hv xl9 xn9 HV
      have HI : Hid (∀ x : ByteArray, (if bytesI 23 rune sh ct nl bk = true then x else ⟨#[]⟩) = x) := fun _ => rfl
      have HS : Hid (bytesS 23 rune sh al ct app nl bk = numberedS m 19) := by rw [← HM.out]; rfl
      have c1 := fun W => dig_any 19 W (by omega)
      have c2 := fun W => dig_any m W (by omega)
      have k1 := numS_size 19 (by omega) (by omega)
      have k2 := numS_size m (by omega) (by omega)
      have HU : Hid (numberedS m 19 = if 1 < m then (((⟨#[27, 91]⟩ : ByteArray) ++ numS 19) ++ ((⟨#[59]⟩ : ByteArray) ++ numS m)) ++ (⟨#[126]⟩ : ByteArray) else ((⟨#[27, 91]⟩ : ByteArray) ++ numS 19) ++ (⟨#[126]⟩ : ByteArray)) := rfl
      generalize numS 19 = s1 at *
      generalize numS m = s2 at *
      by_cases hm1 : 1 < m
      · have HT := HU.out
        rw [if_pos hm1, ← ByteArray.append_assoc] at HT
        have HT := Lib.hid HT
        clear HU
        go_wp2_with (first | (go_at_call 21; (with_reducible refine (c1 _).mono ?_); rintro e w1 ⟨rfl, hb1⟩; have hl1 := bl_trans hb9 hb1) | (go_at_call 21; (with_reducible refine (c2 _).mono ?_); rintro e w2 ⟨rfl, hb2⟩; have hl2 := bl_trans hl1 hb2))
        go_ret2
        exact ⟨by rw [HI.out, HS.out, HT.out]; exact congrArg (fun q => Ending.returned (.tuple #[.string q, .bool true])) (by first | with_reducible rfl | decide +kernel), hl2⟩
      · have HT := HU.out
        rw [if_neg hm1] at HT
        have HT := Lib.hid HT
        clear HU
        go_wp2_with (first | (go_at_call 21; (with_reducible refine (c1 _).mono ?_); rintro e w1 ⟨rfl, hb1⟩; have hl1 := bl_trans hb9 hb1))
        go_ret2
        exact ⟨by rw [HI.out, HS.out, HT.out]; exact congrArg (fun q => Ending.returned (.tuple #[.string q, .bool true])) (by first | with_reducible rfl | decide +kernel), hl1⟩
  · skip
    as_aux_lemma =>
      have cn : W9.cell? ⟨bn, 24, none⟩ = some (.int .i64 20) := xn9.cell 24
      have ln := xn9.lt
      clear hvk hv xl9 xn9 HV
      have HI : Hid (∀ x : ByteArray, (if bytesI 24 rune sh ct nl bk = true then x else ⟨#[]⟩) = x) := fun _ => rfl
      have HS : Hid (bytesS 24 rune sh al ct app nl bk = numberedS m 20) := by rw [← HM.out]; rfl
      have c1 := fun W => dig_any 20 W (by omega)
      have c2 := fun W => dig_any m W (by omega)
      have k1 := numS_size 20 (by omega) (by omega)
      have k2 := numS_size m (by omega) (by omega)
      have HU : Hid (numberedS m 20 = if 1 < m then (((⟨#[27, 91]⟩ : ByteArray) ++ numS 20) ++ ((⟨#[59]⟩ : ByteArray) ++ numS m)) ++ (⟨#[126]⟩ : ByteArray) else ((⟨#[27, 91]⟩ : ByteArray) ++ numS 20) ++ (⟨#[126]⟩ : ByteArray)) := rfl
      generalize numS 20 = s1 at *
      generalize numS m = s2 at *
      by_cases hm1 : 1 < m
      · have HT := HU.out
        rw [if_pos hm1, ← ByteArray.append_assoc] at HT
        have HT := Lib.hid HT
        clear HU
        go_wp2_with (first | (go_at_call 21; (with_reducible refine (c1 _).mono ?_); rintro e w1 ⟨rfl, hb1⟩; have hl1 := bl_trans hb9 hb1) | (go_at_call 21; (with_reducible refine (c2 _).mono ?_); rintro e w2 ⟨rfl, hb2⟩; have hl2 := bl_trans hl1 hb2))
        go_ret2
        exact ⟨by rw [HI.out, HS.out, HT.out]; exact congrArg (fun q => Ending.returned (.tuple #[.string q, .bool true])) (by first | with_reducible rfl | decide +kernel), hl2⟩
      · have HT := HU.out
        rw [if_neg hm1] at HT
        have HT := Lib.hid HT
        clear HU
        go_wp2_with (first | (go_at_call 21; (with_reducible refine (c1 _).mono ?_); rintro e w1 ⟨rfl, hb1⟩; have hl1 := bl_trans hb9 hb1))
        go_ret2
        exact ⟨by rw [HI.out, HS.out, HT.out]; exact congrArg (fun q => Ending.returned (.tuple #[.string q, .bool true])) (by first | with_reducible rfl | decide +kernel), hl1⟩
  · skip
    as_aux_lemma =>
      have cn : W9.cell? ⟨bn, 25, none⟩ = some (.int .i64 21) := xn9.cell 25
      have ln := xn9.lt
      clear hvk hv xl9 xn9 HV
      have HI : Hid (∀ x : ByteArray, (if bytesI 25 rune sh ct nl bk = true then x else ⟨#[]⟩) = x) := fun _ => rfl
      have HS : Hid (bytesS 25 rune sh al ct app nl bk = numberedS m 21) := by rw [← HM.out]; rfl
      have c1 := fun W => dig_any 21 W (by omega)
      have c2 := fun W => dig_any m W (by omega)
      have k1 := numS_size 21 (by omega) (by omega)
      have k2 := numS_size m (by omega) (by omega)
      have HU : Hid (numberedS m 21 = if 1 < m then (((⟨#[27, 91]⟩ : ByteArray) ++ numS 21) ++ ((⟨#[59]⟩ : ByteArray) ++ numS m)) ++ (⟨#[126]⟩ : ByteArray) else ((⟨#[27, 91]⟩ : ByteArray) ++ numS 21) ++ (⟨#[126]⟩ : ByteArray)) := rfl
      generalize numS 21 = s1 at *
      generalize numS m = s2 at *
      by_cases hm1 : 1 < m
      · have HT := HU.out
        rw [if_pos hm1, ← ByteArray.append_assoc] at HT
        have HT := Lib.hid HT
        clear HU
        go_wp2_with (first | (go_at_call 21; (with_reducible refine (c1 _).mono ?_); rintro e w1 ⟨rfl, hb1⟩; have hl1 := bl_trans hb9 hb1) | (go_at_call 21; (with_reducible refine (c2 _).mono ?_); rintro e w2 ⟨rfl, hb2⟩; have hl2 := bl_trans hl1 hb2))
        go_ret2
        exact ⟨by rw [HI.out, HS.out, HT.out]; exact congrArg (fun q => Ending.returned (.tuple #[.string q, .bool true])) (by first | with_reducible rfl | decide +kernel), hl2⟩
      · have HT := HU.out
        rw [if_neg hm1] at HT
        have HT := Lib.hid HT
        clear HU
        go_wp2_with (first | (go_at_call 21; (with_reducible refine (c1 _).mono ?_); rintro e w1 ⟨rfl, hb1⟩; have hl1 := bl_trans hb9 hb1))
        go_ret2
        exact ⟨by rw [HI.out, HS.out, HT.out]; exact congrArg (fun q => Ending.returned (.tuple #[.string q, .bool true])) (by first | with_reducible rfl | decide +kernel), hl1⟩
  · skip
    as_aux_lemma =>
      have cn : W9.cell? ⟨bn, 26, none⟩ = some (.int .i64 23) := xn9.cell 26
      have ln := xn9.lt
      clear hvk hv xl9 xn9 HV
      have HI : Hid (∀ x : ByteArray, (if bytesI 26 rune sh ct nl bk = true then x else ⟨#[]⟩) = x) := fun _ => rfl
      have HS : Hid (bytesS 26 rune sh al ct app nl bk = numberedS m 23) := by rw [← HM.out]; rfl
      have c1 := fun W => dig_any 23 W (by omega)
      have c2 := fun W => dig_any m W (by omega)
      have k1 := numS_size 23 (by omega) (by omega)
      have k2 := numS_size m (by omega) (by omega)
      have HU : Hid (numberedS m 23 = if 1 < m then (((⟨#[27, 91]⟩ : ByteArray) ++ numS 23) ++ ((⟨#[59]⟩ : ByteArray) ++ numS m)) ++ (⟨#[126]⟩ : ByteArray) else ((⟨#[27, 91]⟩ : ByteArray) ++ numS 23) ++ (⟨#[126]⟩ : ByteArray)) := rfl
      generalize numS 23 = s1 at *
      generalize numS m = s2 at *
      by_cases hm1 : 1 < m
      · have HT := HU.out
        rw [if_pos hm1, ← ByteArray.append_assoc] at HT
        have HT := Lib.hid HT
        clear HU
        go_wp2_with (first | (go_at_call 21; (with_reducible refine (c1 _).mono ?_); rintro e w1 ⟨rfl, hb1⟩; have hl1 := bl_trans hb9 hb1) | (go_at_call 21; (with_reducible refine (c2 _).mono ?_); rintro e w2 ⟨rfl, hb2⟩; have hl2 := bl_trans hl1 hb2))
        go_ret2
        exact ⟨by rw [HI.out, HS.out, HT.out]; exact congrArg (fun q => Ending.returned (.tuple #[.string q, .bool true])) (by first | with_reducible rfl | decide +kernel), hl2⟩
      · have HT := HU.out
        rw [if_neg hm1] at HT
        have HT := Lib.hid HT
        clear HU
        go_wp2_with (first | (go_at_call 21; (with_reducible refine (c1 _).mono ?_); rintro e w1 ⟨rfl, hb1⟩; have hl1 := bl_trans hb9 hb1))
        go_ret2
        exact ⟨by rw [HI.out, HS.out, HT.out]; exact congrArg (fun q => Ending.returned (.tuple #[.string q, .bool true])) (by first | with_reducible rfl | decide +kernel), hl1⟩
  · skip
    as_aux_lemma =>
      have cn : W9.cell? ⟨bn, 27, none⟩ = some (.int .i64 24) := xn9.cell 27
      have ln := xn9.lt
      clear hvk hv xl9 xn9 HV
      have HI : Hid (∀ x : ByteArray, (if bytesI 27 rune sh ct nl bk = true then x else ⟨#[]⟩) = x) := fun _ => rfl
      have HS : Hid (bytesS 27 rune sh al ct app nl bk = numberedS m 24) := by rw [← HM.out]; rfl
      have c1 := fun W => dig_any 24 W (by omega)
      have c2 := fun W => dig_any m W (by omega)
      have k1 := numS_size 24 (by omega) (by omega)
      have k2 := numS_size m (by omega) (by omega)
      have HU : Hid (numberedS m 24 = if 1 < m then (((⟨#[27, 91]⟩ : ByteArray) ++ numS 24) ++ ((⟨#[59]⟩ : ByteArray) ++ numS m)) ++ (⟨#[126]⟩ : ByteArray) else ((⟨#[27, 91]⟩ : ByteArray) ++ numS 24) ++ (⟨#[126]⟩ : ByteArray)) := rfl
      generalize numS 24 = s1 at *
      generalize numS m = s2 at *
      by_cases hm1 : 1 < m
      · have HT := HU.out
        rw [if_pos hm1, ← ByteArray.append_assoc] at HT
        have HT := Lib.hid HT
        clear HU
        go_wp2_with (first | (go_at_call 21; (with_reducible refine (c1 _).mono ?_); rintro e w1 ⟨rfl, hb1⟩; have hl1 := bl_trans hb9 hb1) | (go_at_call 21; (with_reducible refine (c2 _).mono ?_); rintro e w2 ⟨rfl, hb2⟩; have hl2 := bl_trans hl1 hb2))
        go_ret2
        exact ⟨by rw [HI.out, HS.out, HT.out]; exact congrArg (fun q => Ending.returned (.tuple #[.string q, .bool true])) (by first | with_reducible rfl | decide +kernel), hl2⟩
      · have HT := HU.out
        rw [if_neg hm1] at HT
        have HT := Lib.hid HT
        clear HU
        go_wp2_with (first | (go_at_call 21; (with_reducible refine (c1 _).mono ?_); rintro e w1 ⟨rfl, hb1⟩; have hl1 := bl_trans hb9 hb1))
        go_ret2
        exact ⟨by rw [HI.out, HS.out, HT.out]; exact congrArg (fun q => Ending.returned (.tuple #[.string q, .bool true])) (by first | with_reducible rfl | decide +kernel), hl1⟩

end Go.Proofs.YtofjdjjbgnfngaaDoor
