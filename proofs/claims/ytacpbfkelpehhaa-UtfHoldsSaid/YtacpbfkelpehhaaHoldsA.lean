/- utf: UtfHolds returns true for every input. No condition. -/
import Derived.Test.YtacpbfkelpehhaaStepsA
import Derived.Test.YtacpbfkelpehhaaLate2
set_option linter.unusedSimpArgs false
set_option linter.unusedVariables false
set_option linter.unnecessarySimpa false
namespace Go.Proofs.Ytacpbfkelpehhaa
open Go.ChangeShapes Go.WideShapes Go.ChangeAt Go.RowKit
attribute [local go_sem ↓] Go.wp_at_zero Go.wp_at_succ

/-- A part of a slice that is read. -/
theorem Rd.part {w : World} {k : IntKind} {a : Option Addr} {n cap : Nat} {xs : List Int} (h : Rd w k (.slice a n cap) xs) (l hh : Nat) (h1 : l ≤ hh) (h2 : hh ≤ xs.length) : Rd w k (sliced a l hh cap 1) ((xs.take hh).drop l) := by
  obtain ⟨p, c, hp, e1, e2, e3⟩ := h
  injection hp with g1 g2 g3
  subst g1 g2 g3
  have hlen : ((xs.take hh).drop l).length = hh - l := by rw [List.length_drop, List.length_take]; omega
  unfold sliced
  refine ⟨_, cap - l, by rw [hlen], by rw [hlen]; omega, by unfold maxLen at *; omega, ?_⟩
  rcases e3 with ⟨rfl, rfl⟩ | ⟨b, off, rfl, hlt, hc⟩
  · refine .inl ⟨by split <;> rfl, by omega⟩
  · by_cases hm : cap = l
    · have hnil : (xs.take hh).drop l = [] := by rw [List.drop_eq_nil_iff, List.length_take]; omega
      refine .inr ⟨b, off, by rw [if_pos hm], hlt, fun i x hx => by rw [hnil] at hx; simp at hx⟩
    · refine .inr ⟨b, off + l, by rw [if_neg hm, Option.map_some, Addr.add_lit, Nat.mul_one], hlt, fun i x hx => ?_⟩
      rw [List.getElem?_drop, List.getElem?_take] at hx
      split at hx
      · rw [Nat.add_assoc]; exact hc (l + i) x hx
      · cases hx
theorem sliced_block (a : Option Addr) (n c l hh m s : Nat) : (sliced a l hh m s).ownBlock = (Value.slice a n c).ownBlock := by
  unfold sliced
  cases a with
  | none => split <;> rfl
  | some a =>
    simp only [Option.map_some]
    split
    · rfl
    · simp only [Value.ownBlock, Addr.add]; split <;> rfl
theorem sizeOf8 (w : World) : (sizeOf (Try.prog.elem 22)).run Try.prog w = .ok 1 w := by kernel_rfl
theorem elem8 : Try.prog.underlying 22 = some (.slice (Try.prog.elem 22)) := by kernel_rfl
/-- A slice expression without a third index, as an operation of a walk. -/
theorem wpList_part {ops : Array Oper} {rest : List Oper} {o : Oper} {a : Act} {w : World} {Q : Exit → Act → World → Prop} (hgd : o.guard = none) (x : Operand) (lo hi : Option Operand)
    (ho : o.op = .slice 22 x lo hi none) (p : Option Addr) (cap : Nat) (xs : List Int) (hx : a.eval x = .slice p xs.length cap) (hrd : Rd w .u8 (.slice p xs.length cap) xs) (l hh : Nat)
    (hl : (lo.map a.eval = none ∧ l = 0) ∨ lo.map a.eval = some (.int .i64 l)) (hh2 : (hi.map a.eval = none ∧ hh = xs.length) ∨ hi.map a.eval = some (.int .i64 hh)) (h1 : l ≤ hh) (h2 : hh ≤ xs.length)
    (h : ∀ v', Rd w .u8 v' ((xs.take hh).drop l) → v'.ownBlock = (Value.slice p xs.length cap).ownBlock → wpList Try.prog ops Q rest (a.put o.dst v') w) : wpList Try.prog ops Q (o :: rest) a w := by
  have hcap : xs.length ≤ cap := by
    obtain ⟨q, c, hp, e1, _⟩ := hrd
    injection hp with g1 g2 g3
    omega
  refine wpList_plain hgd fun _ hK => ?_
  have hrun : (Instr.slice 22 (.slice p xs.length cap) (lo.map a.eval) (hi.map a.eval) none).run Try.prog w = .ok (sliced p l hh cap 1) w := by
    rw [run_slice_any w 22 p xs.length cap elem8]
    have hb : (Instr.sliceBounds true xs.length cap (lo.map a.eval) (hi.map a.eval) none).run Try.prog w = .ok (l, hh, cap) w := by
      have k1 := run_sliceBound (P := Try.prog) w .i64 (hh : Int) cap .sliceAcap (by omega) (by omega)
      have k2 := run_sliceBound (P := Try.prog) w .i64 (l : Int) hh .sliceB (by omega) (by omega)
      rcases hl with ⟨hl, rfl⟩ | hl <;> rcases hh2 with ⟨hh2, rfl⟩ | hh2 <;> rw [hl, hh2] <;> simp [Instr.sliceBounds, k1, k2]
    rw [hb]
    simp only [Result.andThen_ok, sizeOf8]
  unfold Oper.wp execOp
  simp only [ho, Sem.run_bind, Sem.run_pure, Result.andThen_ok, hx]
  have hat : (Instr.sliceAt 22 (.slice p xs.length cap) (lo.map a.eval) (hi.map a.eval) none).run Try.prog w = .ok (sliced p l hh cap 1) w := by
    rw [run_sliceAt_slice w 22 _ _ _ _ elem8, hrun]
  show Oper.upon Try.prog o a _ Q ((Sem.run Try.prog (Instr.sliceAt 22 (.slice p xs.length cap) (lo.map a.eval) (hi.map a.eval) none) w).andThen fun v w' => Result.ok (Next.value v) w')
  rw [hat]
  exact hK _ _ (h _ (hrd.part l hh h1 h2) (sliced_block p xs.length cap l hh cap 1))

end Go.Proofs.Ytacpbfkelpehhaa
