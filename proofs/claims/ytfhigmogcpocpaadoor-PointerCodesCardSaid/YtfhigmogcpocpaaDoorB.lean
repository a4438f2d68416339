/- pointer: the code of an event. -/
import Derived.Test.YtfhigmogcpocpaaDoorA
import Derived.Outline
set_option linter.unusedSimpArgs false
set_option linter.unusedVariables false
set_option linter.unnecessarySimpa false
namespace Go.Proofs.YtfhigmogcpocpaaDoor
open Go.RowKit

theorem part_pair0 (w : World) (a b : Int) : (part 3 #[.int .i64 a, .int .i64 b] 0).run Tryd.prog w = .ok (.int .i64 a) w := rfl
theorem part_pair1 (w : World) (a b : Int) : (part 3 #[.int .i64 a, .int .i64 b] 1).run Tryd.prog w = .ok (.int .i64 b) w := rfl
@[go_sem] theorem eq_pair (w : World) (a b c e : Int) : (Op.equalIn 10000 27 (.agg #[.int .i64 a, .int .i64 b]) (.agg #[.int .i64 c, .int .i64 e])).run Tryd.prog w = .ok ((a == c) && (b == e)) w := by
  show (Op.equalIn (9998 + 1 + 1) 27 (.agg #[.int .i64 a, .int .i64 b]) (.agg #[.int .i64 c, .int .i64 e])).run Tryd.prog w = _
  have hs : (sizeOf 3).run Tryd.prog w = .ok 1 w := rfl
  unfold Op.equalIn
  simp only [Sem.run_bind, run_underlying Tryd.underlying27, Result.andThen_ok, hs]
  simp [Std.Legacy.Range.forIn_eq_forIn_range', Std.Legacy.Range.size, List.range', part_pair0, part_pair1, run_equalIn_int w 9998 3 .i64 .i64 _ _ Tryd.underlying3]
  by_cases h1 : a = c <;> by_cases h2 : b = e <;> simp [h1, h2]
def moveN (p : Pt) (r c : Int) : Int × Bool := if p.there = true ∧ p.a0 = r ∧ p.a1 = c then (0, false) else if p.h1 = true then (32, decide (2 ≤ p.mode)) else if p.h2 = true then (33, decide (2 ≤ p.mode)) else if p.h3 = true then (34, decide (2 ≤ p.mode)) else (35, decide (p.mode = 3))
def codeN (p : Pt) (k b r c : Int) : Int × Bool :=
  if k = 1 then (b - 1, !decide (p.mode = 0) && !hasB p b) else if k = 2 then (b - 1, !decide (p.mode = 0) && hasB p b) else if k = 4 then (64, !decide (p.mode = 0)) else if k = 5 then (65, !decide (p.mode = 0)) else moveN p r c
def CodeE (p : Pt) (k b r c : Int) (w : World) (e : Ending) (w' : World) : Prop := e = .returned (.tuple #[.int .i64 (codeN p k b r c).1, .bool (codeN p k b r c).2]) ∧ Below w.heap.size w w'
set_option maxHeartbeats 4000000 in
theorem code_1 (D o : Nat) (m : Int) (e x y z : Bool) (a0 a1 : Int) (t : Bool) (b r c : Int) (sh al ct : Bool) (w : World) (h : PtB w D o ⟨m, e, x, y, z, a0, a1, t⟩) (hb : 1 ≤ b ∧ b ≤ 3) : Calls Tryd.prog 24 #[.pointer (some ⟨D, o, none⟩), .agg #[.int .i64 1, .int .i64 b, .int .i64 r, .int .i64 c, .bool sh, .bool al, .bool ct]] w (CodeE ⟨m, e, x, y, z, a0, a1, t⟩ 1 b r c w) := by
  obtain ⟨q0, q1, q2, q3, q4, q5⟩ := h.cells
  simp only at q0 q1 q2 q3 q4 q5
  have hl := h.lt
  have cH := fun W (hb : Below w.heap.size w W) => held_any D o ⟨m, e, x, y, z, a0, a1, t⟩ b W (h.below hb)
  have t1 : IntKind.i64.wrap (b - 1) = b - 1 := IntWalk.i64_in _ (by omega)
  have hB := bl_alloc (Below.refl _ w) (.cells #[.int .i64 1, .int .i64 b, .int .i64 r, .int .i64 c, .bool sh, .bool al, .bool ct] 24)
  have e1 : codeN ⟨m, e, x, y, z, a0, a1, t⟩ 1 b r c = (b - 1, !decide (m = 0) && !hasB ⟨m, e, x, y, z, a0, a1, t⟩ b) := rfl
  unfold CodeE
  rw [e1]
  obtain ⟨q, hq⟩ : ∃ q, hasB ⟨m, e, x, y, z, a0, a1, t⟩ b = q := ⟨_, rfl⟩
  rw [hq] at cH ⊢
  clear e1 hq
  by_cases hm : m = 0
  · subst hm
    go_enter Tryd.func24, Tryd.ntmps24
    go_wp2_with fail
    first | refine wp_grow2 (by kernel_rfl) (by kernel_rfl) ?_ | refine wp_grow (by kernel_rfl) (by kernel_rfl) ?_
    repeat (go_big_quiet_step ((go_at_call 20; with_reducible exact GW.call (cH _ (bl_trans hB (GW.grow _))))))
    refine wpQuiet_nil ?_
    rintro _ ⟨X, rfl⟩
    go_wp2_with fail
    go_ret2
    exact ⟨rfl, (by repeat (first | with_reducible exact Below.refl _ _ | with_reducible assumption | with_reducible exact GW.grow _ | with_reducible refine bl_alloc ?_ _ | with_reducible refine Below.drew ?_ | (with_reducible refine Below.setCell ?_ ?_ _; rotate_left; focus (simp; first | done | omega)) | with_reducible refine bl_trans ?_ (GW.grow _) | (with_reducible refine bl_trans ?_ (by assumption))))⟩
  · have hm' : (m != 0) = true := bne_iff_ne.2 hm
    have e2 : (!decide (m = 0)) = true := by simpa using hm
    rw [e2]
    cases q
    all_goals
      go_enter Tryd.func24, Tryd.ntmps24
      go_wp2_with fail
      first | refine wp_grow2 (by kernel_rfl) (by kernel_rfl) ?_ | refine wp_grow (by kernel_rfl) (by kernel_rfl) ?_
      repeat (go_big_quiet_step ((go_at_call 20; with_reducible exact GW.call (cH _ (bl_trans hB (GW.grow _))))))
      refine wpQuiet_nil ?_
      rintro _ ⟨X, rfl⟩
      go_wp2_with fail
      go_ret2
      exact ⟨rfl, (by repeat (first | with_reducible exact Below.refl _ _ | with_reducible assumption | with_reducible exact GW.grow _ | with_reducible refine bl_alloc ?_ _ | with_reducible refine Below.drew ?_ | (with_reducible refine Below.setCell ?_ ?_ _; rotate_left; focus (simp; first | done | omega)) | with_reducible refine bl_trans ?_ (GW.grow _) | (with_reducible refine bl_trans ?_ (by assumption))))⟩
set_option maxHeartbeats 4000000 in
theorem code_2 (D o : Nat) (m : Int) (e x y z : Bool) (a0 a1 : Int) (t : Bool) (b r c : Int) (sh al ct : Bool) (w : World) (h : PtB w D o ⟨m, e, x, y, z, a0, a1, t⟩) (hb : 1 ≤ b ∧ b ≤ 3) : Calls Tryd.prog 24 #[.pointer (some ⟨D, o, none⟩), .agg #[.int .i64 2, .int .i64 b, .int .i64 r, .int .i64 c, .bool sh, .bool al, .bool ct]] w (CodeE ⟨m, e, x, y, z, a0, a1, t⟩ 2 b r c w) := by
  obtain ⟨q0, q1, q2, q3, q4, q5⟩ := h.cells
  simp only at q0 q1 q2 q3 q4 q5
  have hl := h.lt
  have cH := fun W (hb : Below w.heap.size w W) => held_any D o ⟨m, e, x, y, z, a0, a1, t⟩ b W (h.below hb)
  have t1 : IntKind.i64.wrap (b - 1) = b - 1 := IntWalk.i64_in _ (by omega)
  have hB := bl_alloc (Below.refl _ w) (.cells #[.int .i64 2, .int .i64 b, .int .i64 r, .int .i64 c, .bool sh, .bool al, .bool ct] 24)
  have e1 : codeN ⟨m, e, x, y, z, a0, a1, t⟩ 2 b r c = (b - 1, !decide (m = 0) && hasB ⟨m, e, x, y, z, a0, a1, t⟩ b) := rfl
  unfold CodeE
  rw [e1]
  obtain ⟨q, hq⟩ : ∃ q, hasB ⟨m, e, x, y, z, a0, a1, t⟩ b = q := ⟨_, rfl⟩
  rw [hq] at cH ⊢
  clear e1 hq
  by_cases hm : m = 0
  · subst hm
    go_enter Tryd.func24, Tryd.ntmps24
    go_wp2_with fail
    first | refine wp_grow2 (by kernel_rfl) (by kernel_rfl) ?_ | refine wp_grow (by kernel_rfl) (by kernel_rfl) ?_
    repeat (go_big_quiet_step ((go_at_call 20; with_reducible exact GW.call (cH _ (bl_trans hB (GW.grow _))))))
    refine wpQuiet_nil ?_
    rintro _ ⟨X, rfl⟩
    go_wp2_with fail
    go_ret2
    exact ⟨rfl, (by repeat (first | with_reducible exact Below.refl _ _ | with_reducible assumption | with_reducible exact GW.grow _ | with_reducible refine bl_alloc ?_ _ | with_reducible refine Below.drew ?_ | (with_reducible refine Below.setCell ?_ ?_ _; rotate_left; focus (simp; first | done | omega)) | with_reducible refine bl_trans ?_ (GW.grow _) | (with_reducible refine bl_trans ?_ (by assumption))))⟩
  · have hm' : (m != 0) = true := bne_iff_ne.2 hm
    have e2 : (!decide (m = 0)) = true := by simpa using hm
    rw [e2]
    cases q
    all_goals
      go_enter Tryd.func24, Tryd.ntmps24
      go_wp2_with fail
      first | refine wp_grow2 (by kernel_rfl) (by kernel_rfl) ?_ | refine wp_grow (by kernel_rfl) (by kernel_rfl) ?_
      repeat (go_big_quiet_step ((go_at_call 20; with_reducible exact GW.call (cH _ (bl_trans hB (GW.grow _))))))
      refine wpQuiet_nil ?_
      rintro _ ⟨X, rfl⟩
      go_wp2_with fail
      go_ret2
      exact ⟨rfl, (by repeat (first | with_reducible exact Below.refl _ _ | with_reducible assumption | with_reducible exact GW.grow _ | with_reducible refine bl_alloc ?_ _ | with_reducible refine Below.drew ?_ | (with_reducible refine Below.setCell ?_ ?_ _; rotate_left; focus (simp; first | done | omega)) | with_reducible refine bl_trans ?_ (GW.grow _) | (with_reducible refine bl_trans ?_ (by assumption))))⟩
theorem code_4 (D o : Nat) (m : Int) (e x y z : Bool) (a0 a1 : Int) (t : Bool) (b r c : Int) (sh al ct : Bool) (w : World) (h : PtB w D o ⟨m, e, x, y, z, a0, a1, t⟩) : Calls Tryd.prog 24 #[.pointer (some ⟨D, o, none⟩), .agg #[.int .i64 4, .int .i64 b, .int .i64 r, .int .i64 c, .bool sh, .bool al, .bool ct]] w (CodeE ⟨m, e, x, y, z, a0, a1, t⟩ 4 b r c w) := by
  obtain ⟨q0, q1, q2, q3, q4, q5⟩ := h.cells
  simp only at q0 q1 q2 q3 q4 q5
  have hl := h.lt
  have e1 : codeN ⟨m, e, x, y, z, a0, a1, t⟩ 4 b r c = (64, !decide (m = 0)) := rfl
  unfold CodeE
  rw [e1]
  by_cases hm : m = 0
  · subst hm
    go_enter Tryd.func24, Tryd.ntmps24
    go_wp2_with fail
    go_ret2
    exact ⟨rfl, (by repeat (first | with_reducible exact Below.refl _ _ | with_reducible assumption | with_reducible exact GW.grow _ | with_reducible refine bl_alloc ?_ _ | with_reducible refine Below.drew ?_ | (with_reducible refine Below.setCell ?_ ?_ _; rotate_left; focus (simp; first | done | omega)) | with_reducible refine bl_trans ?_ (GW.grow _) | (with_reducible refine bl_trans ?_ (by assumption))))⟩
  · have hm' : (m != 0) = true := bne_iff_ne.2 hm
    have e2 : (!decide (m = 0)) = true := by simpa using hm
    rw [e2]
    go_enter Tryd.func24, Tryd.ntmps24
    go_wp2_with fail
    go_ret2
    exact ⟨rfl, (by repeat (first | with_reducible exact Below.refl _ _ | with_reducible assumption | with_reducible exact GW.grow _ | with_reducible refine bl_alloc ?_ _ | with_reducible refine Below.drew ?_ | (with_reducible refine Below.setCell ?_ ?_ _; rotate_left; focus (simp; first | done | omega)) | with_reducible refine bl_trans ?_ (GW.grow _) | (with_reducible refine bl_trans ?_ (by assumption))))⟩
theorem code_5 (D o : Nat) (m : Int) (e x y z : Bool) (a0 a1 : Int) (t : Bool) (b r c : Int) (sh al ct : Bool) (w : World) (h : PtB w D o ⟨m, e, x, y, z, a0, a1, t⟩) : Calls Tryd.prog 24 #[.pointer (some ⟨D, o, none⟩), .agg #[.int .i64 5, .int .i64 b, .int .i64 r, .int .i64 c, .bool sh, .bool al, .bool ct]] w (CodeE ⟨m, e, x, y, z, a0, a1, t⟩ 5 b r c w) := by
  obtain ⟨q0, q1, q2, q3, q4, q5⟩ := h.cells
  simp only at q0 q1 q2 q3 q4 q5
  have hl := h.lt
  have e1 : codeN ⟨m, e, x, y, z, a0, a1, t⟩ 5 b r c = (65, !decide (m = 0)) := rfl
  unfold CodeE
  rw [e1]
  by_cases hm : m = 0
  · subst hm
    go_enter Tryd.func24, Tryd.ntmps24
    go_wp2_with fail
    go_ret2
    exact ⟨rfl, (by repeat (first | with_reducible exact Below.refl _ _ | with_reducible assumption | with_reducible exact GW.grow _ | with_reducible refine bl_alloc ?_ _ | with_reducible refine Below.drew ?_ | (with_reducible refine Below.setCell ?_ ?_ _; rotate_left; focus (simp; first | done | omega)) | with_reducible refine bl_trans ?_ (GW.grow _) | (with_reducible refine bl_trans ?_ (by assumption))))⟩
  · have hm' : (m != 0) = true := bne_iff_ne.2 hm
    have e2 : (!decide (m = 0)) = true := by simpa using hm
    rw [e2]
    go_enter Tryd.func24, Tryd.ntmps24
    go_wp2_with fail
    go_ret2
    exact ⟨rfl, (by repeat (first | with_reducible exact Below.refl _ _ | with_reducible assumption | with_reducible exact GW.grow _ | with_reducible refine bl_alloc ?_ _ | with_reducible refine Below.drew ?_ | (with_reducible refine Below.setCell ?_ ?_ _; rotate_left; focus (simp; first | done | omega)) | with_reducible refine bl_trans ?_ (GW.grow _) | (with_reducible refine bl_trans ?_ (by assumption))))⟩

theorem moveN_eq (m : Int) (e x y z : Bool) (a0 a1 : Int) (t : Bool) (r c : Int) (hq : ¬ (t = true ∧ a0 = r ∧ a1 = c)) (k : Nat) (hk : k < 3) (h0 : ∀ j : Nat, j < k → hasB ⟨m, e, x, y, z, a0, a1, t⟩ ((j : Int) + 1) = false) (h1 : hasB ⟨m, e, x, y, z, a0, a1, t⟩ ((k : Int) + 1) = true) : moveN ⟨m, e, x, y, z, a0, a1, t⟩ r c = (32 + (k : Int), decide (2 ≤ m)) := by
  have e : moveN ⟨m, e, x, y, z, a0, a1, t⟩ r c = if x = true then (32, decide (2 ≤ m)) else if y = true then (33, decide (2 ≤ m)) else if z = true then (34, decide (2 ≤ m)) else (35, decide (m = 3)) := if_neg hq
  rw [e]
  match k, hk with
  | 0, _ => have : x = true := h1; rw [if_pos this]; rfl
  | 1, _ =>
    have a : x = false := h0 0 (by omega)
    have : y = true := h1
    rw [if_neg (by simp [a]), if_pos this]; rfl
  | 2, _ =>
    have a : x = false := h0 0 (by omega)
    have b : y = false := h0 1 (by omega)
    have : z = true := h1
    rw [if_neg (by simp [a]), if_neg (by simp [b]), if_pos this]; rfl
theorem moveN_none (m : Int) (e x y z : Bool) (a0 a1 : Int) (t : Bool) (r c : Int) (hq : ¬ (t = true ∧ a0 = r ∧ a1 = c)) (h0 : ∀ j : Nat, j < 3 → hasB ⟨m, e, x, y, z, a0, a1, t⟩ ((j : Int) + 1) = false) : moveN ⟨m, e, x, y, z, a0, a1, t⟩ r c = (35, decide (m = 3)) := by
  have e : moveN ⟨m, e, x, y, z, a0, a1, t⟩ r c = if x = true then (32, decide (2 ≤ m)) else if y = true then (33, decide (2 ≤ m)) else if z = true then (34, decide (2 ≤ m)) else (35, decide (m = 3)) := if_neg hq
  have a : x = false := h0 0 (by omega)
  have b : y = false := h0 1 (by omega)
  have d : z = false := h0 2 (by omega)
  rw [e, if_neg (by simp [a]), if_neg (by simp [b]), if_neg (by simp [d])]
set_option maxHeartbeats 4000000 in
set_option maxRecDepth 100000 in
theorem code_3 (D o : Nat) (m : Int) (e x y z : Bool) (a0 a1 : Int) (t : Bool) (b r c : Int) (sh al ct : Bool) (w : World) (h : PtB w D o ⟨m, e, x, y, z, a0, a1, t⟩) : Calls Tryd.prog 24 #[.pointer (some ⟨D, o, none⟩), .agg #[.int .i64 3, .int .i64 b, .int .i64 r, .int .i64 c, .bool sh, .bool al, .bool ct]] w (CodeE ⟨m, e, x, y, z, a0, a1, t⟩ 3 b r c w) := by
  obtain ⟨q0, q1, q2, q3, q4, q5⟩ := h.cells
  simp only at q0 q1 q2 q3 q4 q5
  have hl := h.lt
  have e1 : codeN ⟨m, e, x, y, z, a0, a1, t⟩ 3 b r c = moveN ⟨m, e, x, y, z, a0, a1, t⟩ r c := rfl
  unfold CodeE
  rw [e1]
  clear e1
  by_cases hq : t = true ∧ a0 = r ∧ a1 = c
  · obtain ⟨rfl, rfl, rfl⟩ := hq
    have e : moveN ⟨m, e, x, y, z, a0, a1, true⟩ a0 a1 = (0, false) := by simp [moveN]
    rw [e]
    by_cases hm : m = 0
    · subst hm
      go_enter Tryd.func24, Tryd.ntmps24
      go_wp2_with fail
      first | refine wp_grow2 (by kernel_rfl) (by kernel_rfl) ?_ | refine wp_grow (by kernel_rfl) (by kernel_rfl) ?_
      repeat (go_big_quiet_step (fail))
      refine wpQuiet_nil ?_
      rintro _ ⟨X, rfl⟩
      go_wp2_with fail
      go_ret2
      exact ⟨rfl, (by repeat (first | with_reducible exact Below.refl _ _ | with_reducible assumption | with_reducible exact GW.grow _ | with_reducible refine bl_alloc ?_ _ | with_reducible refine Below.drew ?_ | (with_reducible refine Below.setCell ?_ ?_ _; rotate_left; focus (simp; first | done | omega)) | with_reducible refine bl_trans ?_ (GW.grow _) | (with_reducible refine bl_trans ?_ (by assumption))))⟩
    · have hm' : (m != 0) = true := bne_iff_ne.2 hm
      go_enter Tryd.func24, Tryd.ntmps24
      go_wp2_with fail
      first | refine wp_grow2 (by kernel_rfl) (by kernel_rfl) ?_ | refine wp_grow (by kernel_rfl) (by kernel_rfl) ?_
      repeat (go_big_quiet_step (fail))
      refine wpQuiet_nil ?_
      rintro _ ⟨X, rfl⟩
      go_wp2_with fail
      go_ret2
      exact ⟨rfl, (by repeat (first | with_reducible exact Below.refl _ _ | with_reducible assumption | with_reducible exact GW.grow _ | with_reducible refine bl_alloc ?_ _ | with_reducible refine Below.drew ?_ | (with_reducible refine Below.setCell ?_ ?_ _; rotate_left; focus (simp; first | done | omega)) | with_reducible refine bl_trans ?_ (GW.grow _) | (with_reducible refine bl_trans ?_ (by assumption))))⟩
  · have hB := bl_alloc (Below.refl _ w) (.cells #[.int .i64 3, .int .i64 b, .int .i64 r, .int .i64 c, .bool sh, .bool al, .bool ct] 24)
    have xe : Box (w.alloc (.cells #[.int .i64 3, .int .i64 b, .int .i64 r, .int .i64 c, .bool sh, .bool al, .bool ct] 24)) w.heap.size _ _ := Box.new _ _ _ rfl
    have HQ := Lib.hid hq
    have key : t = false ∨ (t = true ∧ ((a0 == r) && (a1 == c)) = false) := by
      cases t
      · exact .inl rfl
      · refine .inr ⟨rfl, ?_⟩
        simp only [true_and] at hq
        simp; exact fun h1 h2 => hq ⟨h1, h2⟩
    have hon : (m != 0) = true ∨ (m != 0) = false := by cases (m != 0) <;> simp
    rcases key with rfl | ⟨rfl, hk⟩
    · rcases hon with hon | hon
      all_goals
        go_enter Tryd.func24, Tryd.ntmps24
        go_wp2_with fail
        first | refine wp_grow2 (by kernel_rfl) (by kernel_rfl) ?_ | refine wp_grow (by kernel_rfl) (by kernel_rfl) ?_
        repeat (go_big_quiet_step (fail))
        refine wpQuiet_nil ?_
        rintro _ ⟨X, rfl⟩
        go_wp2_with fail
        go_loopw [62] (fun i wr => ∃ (k : Nat), k ≤ 3 ∧ i = .int .i64 k ∧ Hid (∀ j : Nat, j < k → hasB ⟨m, e, x, y, z, a0, a1, false⟩ ((j : Int) + 1) = false) ∧ Below w.heap.size w wr) (fun i _ => 3 - (intOf i).toNat)
        case atStart => exact ⟨0, by omega, rfl, fun j hj => absurd hj (by omega), (by repeat (first | with_reducible exact Below.refl _ _ | with_reducible assumption | with_reducible exact GW.grow _ | with_reducible refine bl_alloc ?_ _ | with_reducible refine Below.drew ?_ | (with_reducible refine Below.setCell ?_ ?_ _; rotate_left; focus (simp; first | done | omega)) | with_reducible refine bl_trans ?_ (GW.grow _) | (with_reducible refine bl_trans ?_ (by assumption))))⟩
        case round =>
          obtain ⟨k, hk3, rfl, HF, hbel⟩ := hrel
          have hpr : PtB wr D o ⟨m, e, x, y, z, a0, a1, false⟩ := h.below hbel
          obtain ⟨g0, g1, g2, g3, g4, g5⟩ := hpr.cells
          simp only at g0 g1 g2 g3 g4 g5
          have gl := hpr.lt
          clear X q0 q1 q2 q3 q4 q5
          by_cases hlt : k < 3
          · have cH := fun W (hb : Below wr.heap.size wr W) => held_any D o ⟨m, e, x, y, z, a0, a1, false⟩ ((k : Int) + 1) W (hpr.below hb)
            have r1 : (0 : Int) ≤ (k : Int) := by omega
            have r2 : (k : Int) < 3 := by omega
            obtain ⟨q, hq2⟩ : ∃ q, hasB ⟨m, e, x, y, z, a0, a1, false⟩ ((k : Int) + 1) = q := ⟨_, rfl⟩
            rw [hq2] at cH
            cases q
            · have HN : Hid (∀ j : Nat, j < k + 1 → hasB ⟨m, e, x, y, z, a0, a1, false⟩ ((j : Int) + 1) = false) := fun j hj => by
                by_cases hjk : j = k
                · subst hjk; exact hq2
                · exact HF.out j (by omega)
              clear hq2
              go_wp2_with (first | (go_at_call 20; (with_reducible refine (cH _ (Below.refl _ _)).mono ?_); rintro e w1 ⟨rfl, hb⟩))
              go_roundw
              case rel => exact ⟨k + 1, by omega, by go_num, HN, bl_trans hbel hb⟩
              case measure => simp [intOf]; omega
            · have HE := Lib.hid (moveN_eq m e x y z a0 a1 false r c (by have := HQ.out; simpa using this) k hlt HF.out hq2)
              clear hq2
              have t2 : IntKind.i64.wrap (32 + (k : Int)) = 32 + (k : Int) := IntWalk.i64_in _ (by omega)
              go_wp2_with (first | (go_at_call 20; (with_reducible refine (cH _ (Below.refl _ _)).mono ?_); rintro e w1 ⟨rfl, hb⟩; have hp1 : PtB w1 D o ⟨m, e, x, y, z, a0, a1, false⟩ := hpr.below hb; obtain ⟨f0, f1, f2, f3, f4, f5⟩ := hp1.cells; simp only at f0 f1 f2 f3 f4 f5; have gl1 := hp1.lt))
              first | refine wp_grow2 (by kernel_rfl) (by kernel_rfl) ?_ | refine wp_grow (by kernel_rfl) (by kernel_rfl) ?_
              repeat (go_big_quiet_step (fail))
              refine wpQuiet_nil ?_
              rintro _ ⟨X, rfl⟩
              go_wp2_with fail
              go_ret2
              exact ⟨by rw [HE.out]; rfl, bl_trans (bl_trans hbel hb) X.grow⟩
          · have HE := Lib.hid (moveN_none m e x y z a0 a1 false r c (by have := HQ.out; simpa using this) (fun j hj => HF.out j (by omega)))
            have hk4 : k = 3 := by omega
            subst hk4
            by_cases h3 : m = 3
            · have h3' : (m == 3) = true := by simpa using h3
              go_wp2_with fail
              first | refine wp_grow2 (by kernel_rfl) (by kernel_rfl) ?_ | refine wp_grow (by kernel_rfl) (by kernel_rfl) ?_
              repeat (go_big_quiet_step (fail))
              refine wpQuiet_nil ?_
              rintro _ ⟨X, rfl⟩
              go_wp2_with fail
              go_ret2
              exact ⟨by rw [HE.out, decide_eq_true h3]; rfl, bl_trans hbel X.grow⟩
            · have h3' : (m == 3) = false := by simpa using h3
              go_wp2_with fail
              first | refine wp_grow2 (by kernel_rfl) (by kernel_rfl) ?_ | refine wp_grow (by kernel_rfl) (by kernel_rfl) ?_
              repeat (go_big_quiet_step (fail))
              refine wpQuiet_nil ?_
              rintro _ ⟨X, rfl⟩
              go_wp2_with fail
              go_ret2
              exact ⟨by rw [HE.out, decide_eq_false h3]; rfl, bl_trans hbel X.grow⟩
    · rcases hon with hon | hon
      all_goals
        go_enter Tryd.func24, Tryd.ntmps24
        go_wp2_with fail
        first | refine wp_grow2 (by kernel_rfl) (by kernel_rfl) ?_ | refine wp_grow (by kernel_rfl) (by kernel_rfl) ?_
        repeat (go_big_quiet_step (fail))
        refine wpQuiet_nil ?_
        rintro _ ⟨X, rfl⟩
        go_wp2_with fail
        go_loopw [62] (fun i wr => ∃ (k : Nat), k ≤ 3 ∧ i = .int .i64 k ∧ Hid (∀ j : Nat, j < k → hasB ⟨m, e, x, y, z, a0, a1, true⟩ ((j : Int) + 1) = false) ∧ Below w.heap.size w wr) (fun i _ => 3 - (intOf i).toNat)
        case atStart => exact ⟨0, by omega, rfl, fun j hj => absurd hj (by omega), (by repeat (first | with_reducible exact Below.refl _ _ | with_reducible assumption | with_reducible exact GW.grow _ | with_reducible refine bl_alloc ?_ _ | with_reducible refine Below.drew ?_ | (with_reducible refine Below.setCell ?_ ?_ _; rotate_left; focus (simp; first | done | omega)) | with_reducible refine bl_trans ?_ (GW.grow _) | (with_reducible refine bl_trans ?_ (by assumption))))⟩
        case round =>
          obtain ⟨k, hk3, rfl, HF, hbel⟩ := hrel
          have hpr : PtB wr D o ⟨m, e, x, y, z, a0, a1, true⟩ := h.below hbel
          obtain ⟨g0, g1, g2, g3, g4, g5⟩ := hpr.cells
          simp only at g0 g1 g2 g3 g4 g5
          have gl := hpr.lt
          clear X q0 q1 q2 q3 q4 q5
          by_cases hlt : k < 3
          · have cH := fun W (hb : Below wr.heap.size wr W) => held_any D o ⟨m, e, x, y, z, a0, a1, true⟩ ((k : Int) + 1) W (hpr.below hb)
            have r1 : (0 : Int) ≤ (k : Int) := by omega
            have r2 : (k : Int) < 3 := by omega
            obtain ⟨q, hq2⟩ : ∃ q, hasB ⟨m, e, x, y, z, a0, a1, true⟩ ((k : Int) + 1) = q := ⟨_, rfl⟩
            rw [hq2] at cH
            cases q
            · have HN : Hid (∀ j : Nat, j < k + 1 → hasB ⟨m, e, x, y, z, a0, a1, true⟩ ((j : Int) + 1) = false) := fun j hj => by
                by_cases hjk : j = k
                · subst hjk; exact hq2
                · exact HF.out j (by omega)
              clear hq2
              go_wp2_with (first | (go_at_call 20; (with_reducible refine (cH _ (Below.refl _ _)).mono ?_); rintro e w1 ⟨rfl, hb⟩))
              go_roundw
              case rel => exact ⟨k + 1, by omega, by go_num, HN, bl_trans hbel hb⟩
              case measure => simp [intOf]; omega
            · have HE := Lib.hid (moveN_eq m e x y z a0 a1 true r c (by have := HQ.out; simpa using this) k hlt HF.out hq2)
              clear hq2
              have t2 : IntKind.i64.wrap (32 + (k : Int)) = 32 + (k : Int) := IntWalk.i64_in _ (by omega)
              go_wp2_with (first | (go_at_call 20; (with_reducible refine (cH _ (Below.refl _ _)).mono ?_); rintro e w1 ⟨rfl, hb⟩; have hp1 : PtB w1 D o ⟨m, e, x, y, z, a0, a1, true⟩ := hpr.below hb; obtain ⟨f0, f1, f2, f3, f4, f5⟩ := hp1.cells; simp only at f0 f1 f2 f3 f4 f5; have gl1 := hp1.lt))
              first | refine wp_grow2 (by kernel_rfl) (by kernel_rfl) ?_ | refine wp_grow (by kernel_rfl) (by kernel_rfl) ?_
              repeat (go_big_quiet_step (fail))
              refine wpQuiet_nil ?_
              rintro _ ⟨X, rfl⟩
              go_wp2_with fail
              go_ret2
              exact ⟨by rw [HE.out]; rfl, bl_trans (bl_trans hbel hb) X.grow⟩
          · have HE := Lib.hid (moveN_none m e x y z a0 a1 true r c (by have := HQ.out; simpa using this) (fun j hj => HF.out j (by omega)))
            have hk4 : k = 3 := by omega
            subst hk4
            by_cases h3 : m = 3
            · have h3' : (m == 3) = true := by simpa using h3
              go_wp2_with fail
              first | refine wp_grow2 (by kernel_rfl) (by kernel_rfl) ?_ | refine wp_grow (by kernel_rfl) (by kernel_rfl) ?_
              repeat (go_big_quiet_step (fail))
              refine wpQuiet_nil ?_
              rintro _ ⟨X, rfl⟩
              go_wp2_with fail
              go_ret2
              exact ⟨by rw [HE.out, decide_eq_true h3]; rfl, bl_trans hbel X.grow⟩
            · have h3' : (m == 3) = false := by simpa using h3
              go_wp2_with fail
              first | refine wp_grow2 (by kernel_rfl) (by kernel_rfl) ?_ | refine wp_grow (by kernel_rfl) (by kernel_rfl) ?_
              repeat (go_big_quiet_step (fail))
              refine wpQuiet_nil ?_
              rintro _ ⟨X, rfl⟩
              go_wp2_with fail
              go_ret2
              exact ⟨by rw [HE.out, decide_eq_false h3]; rfl, bl_trans hbel X.grow⟩
theorem code_any (D o : Nat) (p : Pt) (k b r c : Int) (sh al ct : Bool) (w : World) (h : PtB w D o p) (hv : validE k b r c = true) : Calls Tryd.prog 24 #[.pointer (some ⟨D, o, none⟩), .agg #[.int .i64 k, .int .i64 b, .int .i64 r, .int .i64 c, .bool sh, .bool al, .bool ct]] w (CodeE p k b r c w) := by
  obtain ⟨m, e, x, y, z, a0, a1, t⟩ := p
  unfold validE at hv
  have hv := of_decide_eq_true hv
  obtain ⟨hk, _⟩ := hv
  rcases hk with ⟨rfl | rfl, h1, h2⟩ | ⟨rfl | rfl | rfl, rfl⟩
  · exact code_1 D o m e x y z a0 a1 t b r c sh al ct w h ⟨h1, h2⟩
  · exact code_2 D o m e x y z a0 a1 t b r c sh al ct w h ⟨h1, h2⟩
  · exact code_3 D o m e x y z a0 a1 t 0 r c sh al ct w h
  · exact code_4 D o m e x y z a0 a1 t 0 r c sh al ct w h
  · exact code_5 D o m e x y z a0 a1 t 0 r c sh al ct w h

end Go.Proofs.YtfhigmogcpocpaaDoor
