/- A reference's decimal. -/
import Derived.Test.YtdoeiaekimbecaaDoorTab
import Derived.Test.YtdoeiaekimbecaaDoorLate2

import Derived.Outline
set_option linter.unusedSimpArgs false
set_option linter.unusedVariables false
set_option linter.unnecessarySimpa false
namespace Go.Proofs.YtdoeiaekimbecaaDoor
open Go.RowKit

theorem mk_app (a b : List UInt8) : (⟨a.toArray⟩ : ByteArray) ++ ⟨b.toArray⟩ = ⟨(a ++ b).toArray⟩ := by apply ByteArray.ext; simp
theorem size_mk (l : List UInt8) : (⟨l.toArray⟩ : ByteArray).size = l.length := by simp [ByteArray.size]
theorem strOf_one (c : Int) : strOfNums [c] = ⟨[UInt8.ofNat c.toNat].toArray⟩ := rfl
set_option maxRecDepth 100000 in
set_option maxHeartbeats 4000000 in
theorem decimal_any (n : Nat) : ∀ (w : World), n ≤ 1000000 → Calls Tryd.prog 29 #[.int .i64 n] w fun e w' => e = .returned (.string ⟨(Lib.decDigits n).toArray⟩) ∧ Below w.heap.size w w' := by
  induction n using Nat.strongRecOn with
  | _ n ih =>
  intro w hn
  by_cases h : n < 10
  · have hrd : ∀ c : Int, Rd (w.alloc (.cells #[.int .u8 c] 5)) .u8 (.slice (some ⟨w.heap.size, 0, none⟩) 1 1) [c] := fun c => Rd.lit1 w 5 .u8 c w.heap.size rfl
    have kc := fun c : Int => run_str (P := Tryd.prog) 64 9 5 Tryd.underlying64 Tryd.underlying5 Tryd.underlying9 (hrd c)
    have e : Lib.decDigits n = [UInt8.ofNat (48 + n)] := Lib.decDigits_one h
    rw [e]
    clear e
    go_enter Tryd.func29, Tryd.ntmps29
    go_wp2_with fail
    go_ret
    refine ⟨?_, (Below.refl _ _).alloc (Nat.le_refl _) _⟩
    show Ending.returned (Value.string (strOfNums [48 + (n : Int)])) = _
    rw [strOf_one, show (48 + (n : Int)).toNat = 48 + n by omega]
  · have d1 := fun w => ih (n / 10) (by omega) w (by omega)
    rw [show ((n / 10 : Nat) : Int) = (n : Int) / 10 by omega] at d1
    have hl1 : (Lib.decDigits (n / 10)).length ≤ 21 := by have := Lib.itoa_length_le (n / 10 : Nat) (by omega) (by omega); rwa [Lib.itoa_nonneg] at this
    have e2 : (Ending.returned (.string ((⟨(Lib.decDigits (n / 10)).toArray⟩ : ByteArray) ++ strOfNums [48 + (n : Int) % 10])) : Ending) = .returned (.string ⟨(Lib.decDigits n).toArray⟩) := by
      have e : Lib.decDigits n = Lib.decDigits (n / 10) ++ [UInt8.ofNat (48 + n % 10)] := by rw [Lib.decDigits, dif_neg h]
      rw [e, ← mk_app, strOf_one, show (48 + (n : Int) % 10).toNat = 48 + n % 10 by omega]
    clear ih
    have hsz : (strOfNums [48 + (n : Int) % 10]).size = 1 := by rw [strOf_one, size_mk]; rfl
    have hl9 : ¬ 9223372036854775807 < (Lib.decDigits (n / 10)).length + 1 := by omega
    have t1 : ((n : Int)).tmod 10 = (n : Int) % 10 := Int.tmod_eq_emod_of_nonneg (by omega)
    have t2 : ((n : Int)).tdiv 10 = (n : Int) / 10 := Int.tdiv_eq_ediv_of_nonneg (by omega)
    have t3 : IntKind.i64.wrap ((n : Int) / 10) = (n : Int) / 10 := IntWalk.i64_in _ (by omega)
    have t4 : IntKind.i64.wrap (48 + (n : Int) % 10) = 48 + (n : Int) % 10 := IntWalk.i64_in _ (by omega)
    have t5 : IntKind.u8.wrap (48 + (n : Int) % 10) = 48 + (n : Int) % 10 := by first | exact IntWalk.u8_in _ (by omega) | (simp [IntKind.wrap, IntKind.signed, IntKind.bits]; omega)
    go_enter Tryd.func29, Tryd.ntmps29
    go_wp2_with fail
    have hS : Below w.heap.size w w.drew := (Below.refl _ _).drew
    refine wp_region_late (fun Z => Below w.heap.size w Z) [] (by kernel_rfl) ?_
    refine wpAnyG_pure (v := ?v0) 0 rfl (by kernel_rfl) (by kernel_rfl) (by kernel_rfl) (by kernel_rfl) (fun _ _ _ h => h) (Or.inl ⟨by rfl, ?h0⟩) (fun _ => hS) (fun _ => ?r0)
    case h0 => (intro w _; go_simp; try with_reducible rfl)
    try simp only [Act.put, List.getElem_toArray, List.getElem_cons_zero, List.getElem_cons_succ, List.setIfInBounds_toArray, List.set_cons_zero, List.set_cons_succ]
    refine wpAnyG_pure (v := ?v1) 1 rfl (by kernel_rfl) (by kernel_rfl) (by kernel_rfl) (by kernel_rfl) (fun _ _ _ h => h) (Or.inl ⟨by rfl, ?h1⟩) (fun _ => hS) (fun _ => ?r1)
    case h1 => (intro w _; go_simp; try with_reducible rfl)
    try simp only [Act.put, List.getElem_toArray, List.getElem_cons_zero, List.getElem_cons_succ, List.setIfInBounds_toArray, List.set_cons_zero, List.set_cons_succ]
    refine wpAnyG_pure (v := ?v3) 3 rfl (by kernel_rfl) (by kernel_rfl) (by kernel_rfl) (by kernel_rfl) (fun _ _ _ h => h) (Or.inl ⟨by rfl, ?h3⟩) (fun _ => hS) (fun _ => ?r3)
    case h3 => (intro w _; go_simp; try with_reducible rfl)
    try simp only [Act.put, List.getElem_toArray, List.getElem_cons_zero, List.getElem_cons_succ, List.setIfInBounds_toArray, List.set_cons_zero, List.set_cons_succ]
    refine wpAnyG_pure (v := ?v4) 4 rfl (by kernel_rfl) (by kernel_rfl) (by kernel_rfl) (by kernel_rfl) (fun _ _ _ h => h) (Or.inl ⟨by rfl, ?h4⟩) (fun _ => hS) (fun _ => ?r4)
    case h4 => (intro w _; go_simp; try with_reducible rfl)
    try simp only [Act.put, List.getElem_toArray, List.getElem_cons_zero, List.getElem_cons_succ, List.setIfInBounds_toArray, List.set_cons_zero, List.set_cons_succ]
    refine wpAnyG_pure (v := ?v5) 5 rfl (by kernel_rfl) (by kernel_rfl) (by kernel_rfl) (by kernel_rfl) (fun _ _ _ h => h) (Or.inl ⟨by rfl, ?h5⟩) (fun _ => hS) (fun _ => ?r5)
    case h5 => (intro w _; go_simp; try with_reducible rfl)
    try simp only [Act.put, List.getElem_toArray, List.getElem_cons_zero, List.getElem_cons_succ, List.setIfInBounds_toArray, List.set_cons_zero, List.set_cons_succ]
    refine wpAnyG_pure (v := ?v6) 6 rfl (by kernel_rfl) (by kernel_rfl) (by kernel_rfl) (by kernel_rfl) (fun _ _ _ h => h) (Or.inl ⟨by rfl, ?h6⟩) (fun _ => hS) (fun _ => ?r6)
    case h6 => (intro w _; go_simp; try with_reducible rfl)
    try simp only [Act.put, List.getElem_toArray, List.getElem_cons_zero, List.getElem_cons_succ, List.setIfInBounds_toArray, List.set_cons_zero, List.set_cons_succ]
    refine wpAnyG_two 2 7 (by kernel_rfl) ?_ ?_
    · skip
      refine wpOp_step rfl (fun K hK => ?_)
      go_simp
      (with_reducible refine (d1 w.drew).mono ?_)
      rintro e w1 ⟨rfl, hb1⟩
      have hc : Below w.heap.size w w1 := bl_trans (Below.refl _ _).drew hb1
      go_simp
      refine hK _ _ ⟨fun _ => hc, ?_⟩
      clear hK K
      try simp only [Act.put, List.getElem_toArray, List.getElem_cons_zero, List.getElem_cons_succ, List.setIfInBounds_toArray, List.set_cons_zero, List.set_cons_succ]
      refine wpAnyG_one 7 rfl (by kernel_rfl) ?_
      refine wpOp_step rfl (fun K hK => ?_)
      go_simp
      refine hK _ _ ⟨fun _ => bl_alloc hc _, ?_⟩
      clear hK K
      try simp only [Act.put, List.getElem_toArray, List.getElem_cons_zero, List.getElem_cons_succ, List.setIfInBounds_toArray, List.set_cons_zero, List.set_cons_succ]
      have hrd := Rd.lit1 w1 5 .u8 (48 + (n : Int) % 10) w1.heap.size rfl
      refine wpAnyG_mono (S' := fun Z => Below (w1.alloc (.cells #[.int .u8 (48 + (n : Int) % 10)] 5)).heap.size (w1.alloc (.cells #[.int .u8 (48 + (n : Int) % 10)] 5)) Z) (fun Z hZ => bl_trans (bl_alloc hc _) hZ) ?_
      clear hS
      have hS : Below (w1.alloc (.cells #[.int .u8 (48 + (n : Int) % 10)] 5)).heap.size (w1.alloc (.cells #[.int .u8 (48 + (n : Int) % 10)] 5)) (w1.alloc (.cells #[.int .u8 (48 + (n : Int) % 10)] 5)) := Below.refl _ _
      refine wpAnyG_load (v := ?v8a) 8 rfl (by kernel_rfl) (by kernel_rfl) (by kernel_rfl) (by kernel_rfl) (fun _ _ _ h => h) (Or.inl ⟨by rfl, ?h8a⟩) hS (fun _ => ?r8a)
      case h8a => (intro Z hZ; have kc := run_str (P := Tryd.prog) 64 9 5 Tryd.underlying64 Tryd.underlying5 Tryd.underlying9 (Rd.below hrd hZ); go_simp; try with_reducible rfl)
      try simp only [Act.put, List.getElem_toArray, List.getElem_cons_zero, List.getElem_cons_succ, List.setIfInBounds_toArray, List.set_cons_zero, List.set_cons_succ]
      refine wpAnyG_pure (v := ?v9a) 9 rfl (by kernel_rfl) (by kernel_rfl) (by kernel_rfl) (by kernel_rfl) (fun _ _ _ h => h) (Or.inl ⟨by rfl, ?h9a⟩) (fun _ => Below.refl _ _) (fun _ => ?r9a)
      case h9a => (intro w _; go_simp; try with_reducible rfl)
      try simp only [Act.put, List.getElem_toArray, List.getElem_cons_zero, List.getElem_cons_succ, List.setIfInBounds_toArray, List.set_cons_zero, List.set_cons_succ]
      refine wpAnyG_pure (v := ?v10a) 10 rfl (by kernel_rfl) (by kernel_rfl) (by kernel_rfl) (by kernel_rfl) (fun _ _ _ h => h) (Or.inl ⟨by rfl, ?h10a⟩) (fun _ => Below.refl _ _) (fun _ => ?r10a)
      case h10a => (intro w _; go_simp; try with_reducible rfl)
      try simp only [Act.put, List.getElem_toArray, List.getElem_cons_zero, List.getElem_cons_succ, List.setIfInBounds_toArray, List.set_cons_zero, List.set_cons_succ]
      refine wpAnyG_done (by kernel_rfl) ?_ _
      go_wp2_with fail
      go_ret
      exact ⟨e2, bl_alloc hc _⟩
    · skip
      refine wpOp_step rfl (fun K hK => ?_)
      go_simp
      refine hK _ _ ⟨fun _ => (bl_alloc (Below.refl _ _) _).drew, ?_⟩
      clear hK K
      try simp only [Act.put, List.getElem_toArray, List.getElem_cons_zero, List.getElem_cons_succ, List.setIfInBounds_toArray, List.set_cons_zero, List.set_cons_succ]

      have hrd := (Rd.lit1 w 5 .u8 (48 + (n : Int) % 10) w.heap.size rfl).below ((Below.refl _ _).drew)
      refine wpAnyG_mono (S' := fun Z => Below ((w.alloc (.cells #[.int .u8 (48 + (n : Int) % 10)] 5)).drew).heap.size ((w.alloc (.cells #[.int .u8 (48 + (n : Int) % 10)] 5)).drew) Z) (fun Z hZ => bl_trans (bl_alloc (Below.refl _ _) _).drew hZ) ?_
      clear hS
      have hS : Below ((w.alloc (.cells #[.int .u8 (48 + (n : Int) % 10)] 5)).drew).heap.size ((w.alloc (.cells #[.int .u8 (48 + (n : Int) % 10)] 5)).drew) ((w.alloc (.cells #[.int .u8 (48 + (n : Int) % 10)] 5)).drew) := Below.refl _ _
      refine wpAnyG_load (v := ?v8b) 8 rfl (by kernel_rfl) (by kernel_rfl) (by kernel_rfl) (by kernel_rfl) (fun _ _ _ h => h) (Or.inl ⟨by rfl, ?h8b⟩) hS (fun _ => ?r8b)
      case h8b => (intro Z hZ; have kc := run_str (P := Tryd.prog) 64 9 5 Tryd.underlying64 Tryd.underlying5 Tryd.underlying9 (Rd.below hrd hZ); go_simp; try with_reducible rfl)
      try simp only [Act.put, List.getElem_toArray, List.getElem_cons_zero, List.getElem_cons_succ, List.setIfInBounds_toArray, List.set_cons_zero, List.set_cons_succ]
      refine wpAnyG_one 2 rfl (by kernel_rfl) ?_
      refine wpOp_step rfl (fun K hK => ?_)
      go_simp
      (with_reducible refine (d1 ((w.alloc (.cells #[.int .u8 (48 + (n : Int) % 10)] 5)).drew)).mono ?_)
      rintro e w1 ⟨rfl, hb1⟩
      go_simp
      refine hK _ _ ⟨fun _ => hb1, ?_⟩
      clear hK K
      try simp only [Act.put, List.getElem_toArray, List.getElem_cons_zero, List.getElem_cons_succ, List.setIfInBounds_toArray, List.set_cons_zero, List.set_cons_succ]
      refine wpAnyG_pure (v := ?v9b) 9 rfl (by kernel_rfl) (by kernel_rfl) (by kernel_rfl) (by kernel_rfl) (fun _ _ _ h => h) (Or.inl ⟨by rfl, ?h9b⟩) (fun _ => hb1) (fun _ => ?r9b)
      case h9b => (intro w _; go_simp; try with_reducible rfl)
      try simp only [Act.put, List.getElem_toArray, List.getElem_cons_zero, List.getElem_cons_succ, List.setIfInBounds_toArray, List.set_cons_zero, List.set_cons_succ]
      refine wpAnyG_pure (v := ?v10b) 10 rfl (by kernel_rfl) (by kernel_rfl) (by kernel_rfl) (by kernel_rfl) (fun _ _ _ h => h) (Or.inl ⟨by rfl, ?h10b⟩) (fun _ => hb1) (fun _ => ?r10b)
      case h10b => (intro w _; go_simp; try with_reducible rfl)
      try simp only [Act.put, List.getElem_toArray, List.getElem_cons_zero, List.getElem_cons_succ, List.setIfInBounds_toArray, List.set_cons_zero, List.set_cons_succ]
      refine wpAnyG_done (by kernel_rfl) ?_ _
      go_wp2_with fail
      go_ret
      exact ⟨e2, bl_trans (bl_alloc (Below.refl _ _) _).drew hb1⟩

end Go.Proofs.YtdoeiaekimbecaaDoor
