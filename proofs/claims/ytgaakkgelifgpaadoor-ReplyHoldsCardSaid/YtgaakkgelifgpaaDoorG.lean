/- modes: the program: Get. -/
import Derived.Test.YtgaakkgelifgpaaDoorF
import Derived.Outline
set_option linter.unusedSimpArgs false
set_option linter.unusedVariables false
set_option linter.unnecessarySimpa false
namespace Go.Proofs.YtgaakkgelifgpaaDoor
open Go.RowKit

theorem valid_on (m : Md) (h : validM m = true) : onM m 1000 = decide (m.ptr = 1000) ∧ onM m 1002 = decide (m.ptr = 1002) ∧ onM m 1003 = decide (m.ptr = 1003) ∧ onM m 47 = decide (m.alt = 47) ∧ onM m 1047 = decide (m.alt = 1047) ∧ onM m 1049 = decide (m.alt = 1049) := by
  simp [validM, ptrL, altL] at h
  refine ⟨?_, ?_, ?_, ?_, ?_, ?_⟩ <;> (simp only [onM]; rw [Bool.eq_iff_iff]; simp; omega)
theorem get_0_4 (m : Md) (w : World) (hg : Glob w) (hv : validM m = true) : Calls Tryd.prog 40 #[.agg #[.bool m.aw, .bool m.ori, .bool m.ins, .bool m.vis, .bool m.app, .bool m.pas, .bool m.sgr, .int .i64 m.ptr, .int .i64 m.alt], .int .i32 0, .int .i64 4] w fun e w' => e = .returned (.tuple #[.int .i64 (if onM m 4 = true then 1 else 2), .int .i64 0]) ∧ Below w.heap.size w w' := by
  have cV := fun W (hb : Below w.heap.size w W) => valid_any m W (hg.below hb)
  rw [hv] at cV
  have cP : ∀ W, w.heap.size < W.heap.size → Calls Tryd.prog 44 #[.pointer (some ⟨w.heap.size, 0, none⟩), .int .i32 0, .int .i64 4] W fun e w' => e = .returned (.pointer (some ⟨w.heap.size, 2, none⟩)) ∧ W = w' := fun W hD => plain_any w.heap.size 0 4 W hD
  have cC : ∀ W, w.heap.size < W.heap.size → Glob W → Calls Tryd.prog 45 #[.pointer (some ⟨w.heap.size, 0, none⟩), .int .i32 0, .int .i64 4] W fun e w' => e = .returned (.pointer none) ∧ W = w' := fun W hD hG => choice_any w.heap.size 0 4 W hD hG
  have e : onM m 4 = m.ins := rfl
  rw [e]
  obtain ⟨b, hb⟩ : ∃ b, m.ins = b := ⟨_, rfl⟩
  rw [hb]
  rw [hb] at cV
  cases b
  all_goals
    go_enter Tryd.func40, Tryd.ntmps40
    go_wp2_with (first | (go_at_call 38; (with_reducible refine (cV _ (bl_alloc (Below.refl _ _) _)).mono ?_); rintro e w1 ⟨rfl, hb1⟩; obtain ⟨X, rfl⟩ := GW.of hb1; clear hb1; have hlt := GW.lt X w.heap.size (by simp); have hgx : Glob X.world := (hg.below (bl_alloc (Below.refl _ _) _)).below X.grow) | (go_at_call 44; (with_reducible refine (cP _ hlt).mono ?_); rintro e w' ⟨rfl, rfl⟩) | (go_at_call 45; (with_reducible refine (cC _ hlt hgx).mono ?_); rintro e w' ⟨rfl, rfl⟩))
    go_ret2
    exact ⟨rfl, (by repeat (first | with_reducible exact Below.refl _ _ | with_reducible assumption | with_reducible exact GW.grow _ | with_reducible refine bl_alloc ?_ _ | with_reducible refine Below.drew ?_ | (with_reducible refine Below.setCell ?_ ?_ _; rotate_left; focus (simp; first | done | omega)) | with_reducible refine bl_trans ?_ (GW.grow _) | (with_reducible refine bl_trans ?_ (by assumption))))⟩
theorem get_63_1 (m : Md) (w : World) (hg : Glob w) (hv : validM m = true) : Calls Tryd.prog 40 #[.agg #[.bool m.aw, .bool m.ori, .bool m.ins, .bool m.vis, .bool m.app, .bool m.pas, .bool m.sgr, .int .i64 m.ptr, .int .i64 m.alt], .int .i32 63, .int .i64 1] w fun e w' => e = .returned (.tuple #[.int .i64 (if onM m 1 = true then 1 else 2), .int .i64 0]) ∧ Below w.heap.size w w' := by
  have cV := fun W (hb : Below w.heap.size w W) => valid_any m W (hg.below hb)
  rw [hv] at cV
  have cP : ∀ W, w.heap.size < W.heap.size → Calls Tryd.prog 44 #[.pointer (some ⟨w.heap.size, 0, none⟩), .int .i32 63, .int .i64 1] W fun e w' => e = .returned (.pointer (some ⟨w.heap.size, 4, none⟩)) ∧ W = w' := fun W hD => plain_any w.heap.size 63 1 W hD
  have cC : ∀ W, w.heap.size < W.heap.size → Glob W → Calls Tryd.prog 45 #[.pointer (some ⟨w.heap.size, 0, none⟩), .int .i32 63, .int .i64 1] W fun e w' => e = .returned (.pointer none) ∧ W = w' := fun W hD hG => choice_any w.heap.size 63 1 W hD hG
  have e : onM m 1 = m.app := rfl
  rw [e]
  obtain ⟨b, hb⟩ : ∃ b, m.app = b := ⟨_, rfl⟩
  rw [hb]
  rw [hb] at cV
  cases b
  all_goals
    go_enter Tryd.func40, Tryd.ntmps40
    go_wp2_with (first | (go_at_call 38; (with_reducible refine (cV _ (bl_alloc (Below.refl _ _) _)).mono ?_); rintro e w1 ⟨rfl, hb1⟩; obtain ⟨X, rfl⟩ := GW.of hb1; clear hb1; have hlt := GW.lt X w.heap.size (by simp); have hgx : Glob X.world := (hg.below (bl_alloc (Below.refl _ _) _)).below X.grow) | (go_at_call 44; (with_reducible refine (cP _ hlt).mono ?_); rintro e w' ⟨rfl, rfl⟩) | (go_at_call 45; (with_reducible refine (cC _ hlt hgx).mono ?_); rintro e w' ⟨rfl, rfl⟩))
    go_ret2
    exact ⟨rfl, (by repeat (first | with_reducible exact Below.refl _ _ | with_reducible assumption | with_reducible exact GW.grow _ | with_reducible refine bl_alloc ?_ _ | with_reducible refine Below.drew ?_ | (with_reducible refine Below.setCell ?_ ?_ _; rotate_left; focus (simp; first | done | omega)) | with_reducible refine bl_trans ?_ (GW.grow _) | (with_reducible refine bl_trans ?_ (by assumption))))⟩
theorem get_63_6 (m : Md) (w : World) (hg : Glob w) (hv : validM m = true) : Calls Tryd.prog 40 #[.agg #[.bool m.aw, .bool m.ori, .bool m.ins, .bool m.vis, .bool m.app, .bool m.pas, .bool m.sgr, .int .i64 m.ptr, .int .i64 m.alt], .int .i32 63, .int .i64 6] w fun e w' => e = .returned (.tuple #[.int .i64 (if onM m 6 = true then 1 else 2), .int .i64 0]) ∧ Below w.heap.size w w' := by
  have cV := fun W (hb : Below w.heap.size w W) => valid_any m W (hg.below hb)
  rw [hv] at cV
  have cP : ∀ W, w.heap.size < W.heap.size → Calls Tryd.prog 44 #[.pointer (some ⟨w.heap.size, 0, none⟩), .int .i32 63, .int .i64 6] W fun e w' => e = .returned (.pointer (some ⟨w.heap.size, 1, none⟩)) ∧ W = w' := fun W hD => plain_any w.heap.size 63 6 W hD
  have cC : ∀ W, w.heap.size < W.heap.size → Glob W → Calls Tryd.prog 45 #[.pointer (some ⟨w.heap.size, 0, none⟩), .int .i32 63, .int .i64 6] W fun e w' => e = .returned (.pointer none) ∧ W = w' := fun W hD hG => choice_any w.heap.size 63 6 W hD hG
  have e : onM m 6 = m.ori := rfl
  rw [e]
  obtain ⟨b, hb⟩ : ∃ b, m.ori = b := ⟨_, rfl⟩
  rw [hb]
  rw [hb] at cV
  cases b
  all_goals
    go_enter Tryd.func40, Tryd.ntmps40
    go_wp2_with (first | (go_at_call 38; (with_reducible refine (cV _ (bl_alloc (Below.refl _ _) _)).mono ?_); rintro e w1 ⟨rfl, hb1⟩; obtain ⟨X, rfl⟩ := GW.of hb1; clear hb1; have hlt := GW.lt X w.heap.size (by simp); have hgx : Glob X.world := (hg.below (bl_alloc (Below.refl _ _) _)).below X.grow) | (go_at_call 44; (with_reducible refine (cP _ hlt).mono ?_); rintro e w' ⟨rfl, rfl⟩) | (go_at_call 45; (with_reducible refine (cC _ hlt hgx).mono ?_); rintro e w' ⟨rfl, rfl⟩))
    go_ret2
    exact ⟨rfl, (by repeat (first | with_reducible exact Below.refl _ _ | with_reducible assumption | with_reducible exact GW.grow _ | with_reducible refine bl_alloc ?_ _ | with_reducible refine Below.drew ?_ | (with_reducible refine Below.setCell ?_ ?_ _; rotate_left; focus (simp; first | done | omega)) | with_reducible refine bl_trans ?_ (GW.grow _) | (with_reducible refine bl_trans ?_ (by assumption))))⟩
theorem get_63_7 (m : Md) (w : World) (hg : Glob w) (hv : validM m = true) : Calls Tryd.prog 40 #[.agg #[.bool m.aw, .bool m.ori, .bool m.ins, .bool m.vis, .bool m.app, .bool m.pas, .bool m.sgr, .int .i64 m.ptr, .int .i64 m.alt], .int .i32 63, .int .i64 7] w fun e w' => e = .returned (.tuple #[.int .i64 (if onM m 7 = true then 1 else 2), .int .i64 0]) ∧ Below w.heap.size w w' := by
  have cV := fun W (hb : Below w.heap.size w W) => valid_any m W (hg.below hb)
  rw [hv] at cV
  have cP : ∀ W, w.heap.size < W.heap.size → Calls Tryd.prog 44 #[.pointer (some ⟨w.heap.size, 0, none⟩), .int .i32 63, .int .i64 7] W fun e w' => e = .returned (.pointer (some ⟨w.heap.size, 0, none⟩)) ∧ W = w' := fun W hD => plain_any w.heap.size 63 7 W hD
  have cC : ∀ W, w.heap.size < W.heap.size → Glob W → Calls Tryd.prog 45 #[.pointer (some ⟨w.heap.size, 0, none⟩), .int .i32 63, .int .i64 7] W fun e w' => e = .returned (.pointer none) ∧ W = w' := fun W hD hG => choice_any w.heap.size 63 7 W hD hG
  have e : onM m 7 = m.aw := rfl
  rw [e]
  obtain ⟨b, hb⟩ : ∃ b, m.aw = b := ⟨_, rfl⟩
  rw [hb]
  rw [hb] at cV
  cases b
  all_goals
    go_enter Tryd.func40, Tryd.ntmps40
    go_wp2_with (first | (go_at_call 38; (with_reducible refine (cV _ (bl_alloc (Below.refl _ _) _)).mono ?_); rintro e w1 ⟨rfl, hb1⟩; obtain ⟨X, rfl⟩ := GW.of hb1; clear hb1; have hlt := GW.lt X w.heap.size (by simp); have hgx : Glob X.world := (hg.below (bl_alloc (Below.refl _ _) _)).below X.grow) | (go_at_call 44; (with_reducible refine (cP _ hlt).mono ?_); rintro e w' ⟨rfl, rfl⟩) | (go_at_call 45; (with_reducible refine (cC _ hlt hgx).mono ?_); rintro e w' ⟨rfl, rfl⟩))
    go_ret2
    exact ⟨rfl, (by repeat (first | with_reducible exact Below.refl _ _ | with_reducible assumption | with_reducible exact GW.grow _ | with_reducible refine bl_alloc ?_ _ | with_reducible refine Below.drew ?_ | (with_reducible refine Below.setCell ?_ ?_ _; rotate_left; focus (simp; first | done | omega)) | with_reducible refine bl_trans ?_ (GW.grow _) | (with_reducible refine bl_trans ?_ (by assumption))))⟩
theorem get_63_25 (m : Md) (w : World) (hg : Glob w) (hv : validM m = true) : Calls Tryd.prog 40 #[.agg #[.bool m.aw, .bool m.ori, .bool m.ins, .bool m.vis, .bool m.app, .bool m.pas, .bool m.sgr, .int .i64 m.ptr, .int .i64 m.alt], .int .i32 63, .int .i64 25] w fun e w' => e = .returned (.tuple #[.int .i64 (if onM m 25 = true then 1 else 2), .int .i64 0]) ∧ Below w.heap.size w w' := by
  have cV := fun W (hb : Below w.heap.size w W) => valid_any m W (hg.below hb)
  rw [hv] at cV
  have cP : ∀ W, w.heap.size < W.heap.size → Calls Tryd.prog 44 #[.pointer (some ⟨w.heap.size, 0, none⟩), .int .i32 63, .int .i64 25] W fun e w' => e = .returned (.pointer (some ⟨w.heap.size, 3, none⟩)) ∧ W = w' := fun W hD => plain_any w.heap.size 63 25 W hD
  have cC : ∀ W, w.heap.size < W.heap.size → Glob W → Calls Tryd.prog 45 #[.pointer (some ⟨w.heap.size, 0, none⟩), .int .i32 63, .int .i64 25] W fun e w' => e = .returned (.pointer none) ∧ W = w' := fun W hD hG => choice_any w.heap.size 63 25 W hD hG
  have e : onM m 25 = m.vis := rfl
  rw [e]
  obtain ⟨b, hb⟩ : ∃ b, m.vis = b := ⟨_, rfl⟩
  rw [hb]
  rw [hb] at cV
  cases b
  all_goals
    go_enter Tryd.func40, Tryd.ntmps40
    go_wp2_with (first | (go_at_call 38; (with_reducible refine (cV _ (bl_alloc (Below.refl _ _) _)).mono ?_); rintro e w1 ⟨rfl, hb1⟩; obtain ⟨X, rfl⟩ := GW.of hb1; clear hb1; have hlt := GW.lt X w.heap.size (by simp); have hgx : Glob X.world := (hg.below (bl_alloc (Below.refl _ _) _)).below X.grow) | (go_at_call 44; (with_reducible refine (cP _ hlt).mono ?_); rintro e w' ⟨rfl, rfl⟩) | (go_at_call 45; (with_reducible refine (cC _ hlt hgx).mono ?_); rintro e w' ⟨rfl, rfl⟩))
    go_ret2
    exact ⟨rfl, (by repeat (first | with_reducible exact Below.refl _ _ | with_reducible assumption | with_reducible exact GW.grow _ | with_reducible refine bl_alloc ?_ _ | with_reducible refine Below.drew ?_ | (with_reducible refine Below.setCell ?_ ?_ _; rotate_left; focus (simp; first | done | omega)) | with_reducible refine bl_trans ?_ (GW.grow _) | (with_reducible refine bl_trans ?_ (by assumption))))⟩
theorem get_63_1006 (m : Md) (w : World) (hg : Glob w) (hv : validM m = true) : Calls Tryd.prog 40 #[.agg #[.bool m.aw, .bool m.ori, .bool m.ins, .bool m.vis, .bool m.app, .bool m.pas, .bool m.sgr, .int .i64 m.ptr, .int .i64 m.alt], .int .i32 63, .int .i64 1006] w fun e w' => e = .returned (.tuple #[.int .i64 (if onM m 1006 = true then 1 else 2), .int .i64 0]) ∧ Below w.heap.size w w' := by
  have cV := fun W (hb : Below w.heap.size w W) => valid_any m W (hg.below hb)
  rw [hv] at cV
  have cP : ∀ W, w.heap.size < W.heap.size → Calls Tryd.prog 44 #[.pointer (some ⟨w.heap.size, 0, none⟩), .int .i32 63, .int .i64 1006] W fun e w' => e = .returned (.pointer (some ⟨w.heap.size, 6, none⟩)) ∧ W = w' := fun W hD => plain_any w.heap.size 63 1006 W hD
  have cC : ∀ W, w.heap.size < W.heap.size → Glob W → Calls Tryd.prog 45 #[.pointer (some ⟨w.heap.size, 0, none⟩), .int .i32 63, .int .i64 1006] W fun e w' => e = .returned (.pointer none) ∧ W = w' := fun W hD hG => choice_any w.heap.size 63 1006 W hD hG
  have e : onM m 1006 = m.sgr := rfl
  rw [e]
  obtain ⟨b, hb⟩ : ∃ b, m.sgr = b := ⟨_, rfl⟩
  rw [hb]
  rw [hb] at cV
  cases b
  all_goals
    go_enter Tryd.func40, Tryd.ntmps40
    go_wp2_with (first | (go_at_call 38; (with_reducible refine (cV _ (bl_alloc (Below.refl _ _) _)).mono ?_); rintro e w1 ⟨rfl, hb1⟩; obtain ⟨X, rfl⟩ := GW.of hb1; clear hb1; have hlt := GW.lt X w.heap.size (by simp); have hgx : Glob X.world := (hg.below (bl_alloc (Below.refl _ _) _)).below X.grow) | (go_at_call 44; (with_reducible refine (cP _ hlt).mono ?_); rintro e w' ⟨rfl, rfl⟩) | (go_at_call 45; (with_reducible refine (cC _ hlt hgx).mono ?_); rintro e w' ⟨rfl, rfl⟩))
    go_ret2
    exact ⟨rfl, (by repeat (first | with_reducible exact Below.refl _ _ | with_reducible assumption | with_reducible exact GW.grow _ | with_reducible refine bl_alloc ?_ _ | with_reducible refine Below.drew ?_ | (with_reducible refine Below.setCell ?_ ?_ _; rotate_left; focus (simp; first | done | omega)) | with_reducible refine bl_trans ?_ (GW.grow _) | (with_reducible refine bl_trans ?_ (by assumption))))⟩
theorem get_63_2004 (m : Md) (w : World) (hg : Glob w) (hv : validM m = true) : Calls Tryd.prog 40 #[.agg #[.bool m.aw, .bool m.ori, .bool m.ins, .bool m.vis, .bool m.app, .bool m.pas, .bool m.sgr, .int .i64 m.ptr, .int .i64 m.alt], .int .i32 63, .int .i64 2004] w fun e w' => e = .returned (.tuple #[.int .i64 (if onM m 2004 = true then 1 else 2), .int .i64 0]) ∧ Below w.heap.size w w' := by
  have cV := fun W (hb : Below w.heap.size w W) => valid_any m W (hg.below hb)
  rw [hv] at cV
  have cP : ∀ W, w.heap.size < W.heap.size → Calls Tryd.prog 44 #[.pointer (some ⟨w.heap.size, 0, none⟩), .int .i32 63, .int .i64 2004] W fun e w' => e = .returned (.pointer (some ⟨w.heap.size, 5, none⟩)) ∧ W = w' := fun W hD => plain_any w.heap.size 63 2004 W hD
  have cC : ∀ W, w.heap.size < W.heap.size → Glob W → Calls Tryd.prog 45 #[.pointer (some ⟨w.heap.size, 0, none⟩), .int .i32 63, .int .i64 2004] W fun e w' => e = .returned (.pointer none) ∧ W = w' := fun W hD hG => choice_any w.heap.size 63 2004 W hD hG
  have e : onM m 2004 = m.pas := rfl
  rw [e]
  obtain ⟨b, hb⟩ : ∃ b, m.pas = b := ⟨_, rfl⟩
  rw [hb]
  rw [hb] at cV
  cases b
  all_goals
    go_enter Tryd.func40, Tryd.ntmps40
    go_wp2_with (first | (go_at_call 38; (with_reducible refine (cV _ (bl_alloc (Below.refl _ _) _)).mono ?_); rintro e w1 ⟨rfl, hb1⟩; obtain ⟨X, rfl⟩ := GW.of hb1; clear hb1; have hlt := GW.lt X w.heap.size (by simp); have hgx : Glob X.world := (hg.below (bl_alloc (Below.refl _ _) _)).below X.grow) | (go_at_call 44; (with_reducible refine (cP _ hlt).mono ?_); rintro e w' ⟨rfl, rfl⟩) | (go_at_call 45; (with_reducible refine (cC _ hlt hgx).mono ?_); rintro e w' ⟨rfl, rfl⟩))
    go_ret2
    exact ⟨rfl, (by repeat (first | with_reducible exact Below.refl _ _ | with_reducible assumption | with_reducible exact GW.grow _ | with_reducible refine bl_alloc ?_ _ | with_reducible refine Below.drew ?_ | (with_reducible refine Below.setCell ?_ ?_ _; rotate_left; focus (simp; first | done | omega)) | with_reducible refine bl_trans ?_ (GW.grow _) | (with_reducible refine bl_trans ?_ (by assumption))))⟩
theorem get_63_1000 (m : Md) (w : World) (hg : Glob w) (hv : validM m = true) : Calls Tryd.prog 40 #[.agg #[.bool m.aw, .bool m.ori, .bool m.ins, .bool m.vis, .bool m.app, .bool m.pas, .bool m.sgr, .int .i64 m.ptr, .int .i64 m.alt], .int .i32 63, .int .i64 1000] w fun e w' => e = .returned (.tuple #[.int .i64 (if onM m 1000 = true then 1 else 2), .int .i64 0]) ∧ Below w.heap.size w w' := by
  have cV := fun W (hb : Below w.heap.size w W) => valid_any m W (hg.below hb)
  rw [hv] at cV
  have cP : ∀ W, w.heap.size < W.heap.size → Calls Tryd.prog 44 #[.pointer (some ⟨w.heap.size, 0, none⟩), .int .i32 63, .int .i64 1000] W fun e w' => e = .returned (.pointer none) ∧ W = w' := fun W hD => plain_any w.heap.size 63 1000 W hD
  have cC : ∀ W, w.heap.size < W.heap.size → Glob W → Calls Tryd.prog 45 #[.pointer (some ⟨w.heap.size, 0, none⟩), .int .i32 63, .int .i64 1000] W fun e w' => e = .returned (.pointer (some ⟨w.heap.size, 7, none⟩)) ∧ W = w' := fun W hD hG => choice_any w.heap.size 63 1000 W hD hG
  have e : onM m 1000 = decide (m.ptr = 1000) := (valid_on m hv).1
  rw [e]
  by_cases hq : m.ptr = 1000
  · rw [decide_eq_true hq, if_pos rfl]
    rw [hq] at cV
    go_enter Tryd.func40, Tryd.ntmps40
    go_wp2_with (first | (go_at_call 38; (with_reducible refine (cV _ (bl_alloc (Below.refl _ _) _)).mono ?_); rintro e w1 ⟨rfl, hb1⟩; obtain ⟨X, rfl⟩ := GW.of hb1; clear hb1; have hlt := GW.lt X w.heap.size (by simp); have hgx : Glob X.world := (hg.below (bl_alloc (Below.refl _ _) _)).below X.grow) | (go_at_call 44; (with_reducible refine (cP _ hlt).mono ?_); rintro e w' ⟨rfl, rfl⟩) | (go_at_call 45; (with_reducible refine (cC _ hlt hgx).mono ?_); rintro e w' ⟨rfl, rfl⟩))
    go_ret2
    exact ⟨rfl, (by repeat (first | with_reducible exact Below.refl _ _ | with_reducible assumption | with_reducible exact GW.grow _ | with_reducible refine bl_alloc ?_ _ | with_reducible refine Below.drew ?_ | (with_reducible refine Below.setCell ?_ ?_ _; rotate_left; focus (simp; first | done | omega)) | with_reducible refine bl_trans ?_ (GW.grow _) | (with_reducible refine bl_trans ?_ (by assumption))))⟩
  · rw [decide_eq_false hq, if_neg (by simp)]
    have hq2 : (m.ptr == 1000) = false := by simpa using hq
    go_enter Tryd.func40, Tryd.ntmps40
    go_wp2_with (first | (go_at_call 38; (with_reducible refine (cV _ (bl_alloc (Below.refl _ _) _)).mono ?_); rintro e w1 ⟨rfl, hb1⟩; obtain ⟨X, rfl⟩ := GW.of hb1; clear hb1; have hlt := GW.lt X w.heap.size (by simp); have hgx : Glob X.world := (hg.below (bl_alloc (Below.refl _ _) _)).below X.grow) | (go_at_call 44; (with_reducible refine (cP _ hlt).mono ?_); rintro e w' ⟨rfl, rfl⟩) | (go_at_call 45; (with_reducible refine (cC _ hlt hgx).mono ?_); rintro e w' ⟨rfl, rfl⟩))
    go_ret2
    exact ⟨rfl, (by repeat (first | with_reducible exact Below.refl _ _ | with_reducible assumption | with_reducible exact GW.grow _ | with_reducible refine bl_alloc ?_ _ | with_reducible refine Below.drew ?_ | (with_reducible refine Below.setCell ?_ ?_ _; rotate_left; focus (simp; first | done | omega)) | with_reducible refine bl_trans ?_ (GW.grow _) | (with_reducible refine bl_trans ?_ (by assumption))))⟩
theorem get_63_1002 (m : Md) (w : World) (hg : Glob w) (hv : validM m = true) : Calls Tryd.prog 40 #[.agg #[.bool m.aw, .bool m.ori, .bool m.ins, .bool m.vis, .bool m.app, .bool m.pas, .bool m.sgr, .int .i64 m.ptr, .int .i64 m.alt], .int .i32 63, .int .i64 1002] w fun e w' => e = .returned (.tuple #[.int .i64 (if onM m 1002 = true then 1 else 2), .int .i64 0]) ∧ Below w.heap.size w w' := by
  have cV := fun W (hb : Below w.heap.size w W) => valid_any m W (hg.below hb)
  rw [hv] at cV
  have cP : ∀ W, w.heap.size < W.heap.size → Calls Tryd.prog 44 #[.pointer (some ⟨w.heap.size, 0, none⟩), .int .i32 63, .int .i64 1002] W fun e w' => e = .returned (.pointer none) ∧ W = w' := fun W hD => plain_any w.heap.size 63 1002 W hD
  have cC : ∀ W, w.heap.size < W.heap.size → Glob W → Calls Tryd.prog 45 #[.pointer (some ⟨w.heap.size, 0, none⟩), .int .i32 63, .int .i64 1002] W fun e w' => e = .returned (.pointer (some ⟨w.heap.size, 7, none⟩)) ∧ W = w' := fun W hD hG => choice_any w.heap.size 63 1002 W hD hG
  have e : onM m 1002 = decide (m.ptr = 1002) := (valid_on m hv).2.1
  rw [e]
  by_cases hq : m.ptr = 1002
  · rw [decide_eq_true hq, if_pos rfl]
    rw [hq] at cV
    go_enter Tryd.func40, Tryd.ntmps40
    go_wp2_with (first | (go_at_call 38; (with_reducible refine (cV _ (bl_alloc (Below.refl _ _) _)).mono ?_); rintro e w1 ⟨rfl, hb1⟩; obtain ⟨X, rfl⟩ := GW.of hb1; clear hb1; have hlt := GW.lt X w.heap.size (by simp); have hgx : Glob X.world := (hg.below (bl_alloc (Below.refl _ _) _)).below X.grow) | (go_at_call 44; (with_reducible refine (cP _ hlt).mono ?_); rintro e w' ⟨rfl, rfl⟩) | (go_at_call 45; (with_reducible refine (cC _ hlt hgx).mono ?_); rintro e w' ⟨rfl, rfl⟩))
    go_ret2
    exact ⟨rfl, (by repeat (first | with_reducible exact Below.refl _ _ | with_reducible assumption | with_reducible exact GW.grow _ | with_reducible refine bl_alloc ?_ _ | with_reducible refine Below.drew ?_ | (with_reducible refine Below.setCell ?_ ?_ _; rotate_left; focus (simp; first | done | omega)) | with_reducible refine bl_trans ?_ (GW.grow _) | (with_reducible refine bl_trans ?_ (by assumption))))⟩
  · rw [decide_eq_false hq, if_neg (by simp)]
    have hq2 : (m.ptr == 1002) = false := by simpa using hq
    go_enter Tryd.func40, Tryd.ntmps40
    go_wp2_with (first | (go_at_call 38; (with_reducible refine (cV _ (bl_alloc (Below.refl _ _) _)).mono ?_); rintro e w1 ⟨rfl, hb1⟩; obtain ⟨X, rfl⟩ := GW.of hb1; clear hb1; have hlt := GW.lt X w.heap.size (by simp); have hgx : Glob X.world := (hg.below (bl_alloc (Below.refl _ _) _)).below X.grow) | (go_at_call 44; (with_reducible refine (cP _ hlt).mono ?_); rintro e w' ⟨rfl, rfl⟩) | (go_at_call 45; (with_reducible refine (cC _ hlt hgx).mono ?_); rintro e w' ⟨rfl, rfl⟩))
    go_ret2
    exact ⟨rfl, (by repeat (first | with_reducible exact Below.refl _ _ | with_reducible assumption | with_reducible exact GW.grow _ | with_reducible refine bl_alloc ?_ _ | with_reducible refine Below.drew ?_ | (with_reducible refine Below.setCell ?_ ?_ _; rotate_left; focus (simp; first | done | omega)) | with_reducible refine bl_trans ?_ (GW.grow _) | (with_reducible refine bl_trans ?_ (by assumption))))⟩
theorem get_63_1003 (m : Md) (w : World) (hg : Glob w) (hv : validM m = true) : Calls Tryd.prog 40 #[.agg #[.bool m.aw, .bool m.ori, .bool m.ins, .bool m.vis, .bool m.app, .bool m.pas, .bool m.sgr, .int .i64 m.ptr, .int .i64 m.alt], .int .i32 63, .int .i64 1003] w fun e w' => e = .returned (.tuple #[.int .i64 (if onM m 1003 = true then 1 else 2), .int .i64 0]) ∧ Below w.heap.size w w' := by
  have cV := fun W (hb : Below w.heap.size w W) => valid_any m W (hg.below hb)
  rw [hv] at cV
  have cP : ∀ W, w.heap.size < W.heap.size → Calls Tryd.prog 44 #[.pointer (some ⟨w.heap.size, 0, none⟩), .int .i32 63, .int .i64 1003] W fun e w' => e = .returned (.pointer none) ∧ W = w' := fun W hD => plain_any w.heap.size 63 1003 W hD
  have cC : ∀ W, w.heap.size < W.heap.size → Glob W → Calls Tryd.prog 45 #[.pointer (some ⟨w.heap.size, 0, none⟩), .int .i32 63, .int .i64 1003] W fun e w' => e = .returned (.pointer (some ⟨w.heap.size, 7, none⟩)) ∧ W = w' := fun W hD hG => choice_any w.heap.size 63 1003 W hD hG
  have e : onM m 1003 = decide (m.ptr = 1003) := (valid_on m hv).2.2.1
  rw [e]
  by_cases hq : m.ptr = 1003
  · rw [decide_eq_true hq, if_pos rfl]
    rw [hq] at cV
    go_enter Tryd.func40, Tryd.ntmps40
    go_wp2_with (first | (go_at_call 38; (with_reducible refine (cV _ (bl_alloc (Below.refl _ _) _)).mono ?_); rintro e w1 ⟨rfl, hb1⟩; obtain ⟨X, rfl⟩ := GW.of hb1; clear hb1; have hlt := GW.lt X w.heap.size (by simp); have hgx : Glob X.world := (hg.below (bl_alloc (Below.refl _ _) _)).below X.grow) | (go_at_call 44; (with_reducible refine (cP _ hlt).mono ?_); rintro e w' ⟨rfl, rfl⟩) | (go_at_call 45; (with_reducible refine (cC _ hlt hgx).mono ?_); rintro e w' ⟨rfl, rfl⟩))
    go_ret2
    exact ⟨rfl, (by repeat (first | with_reducible exact Below.refl _ _ | with_reducible assumption | with_reducible exact GW.grow _ | with_reducible refine bl_alloc ?_ _ | with_reducible refine Below.drew ?_ | (with_reducible refine Below.setCell ?_ ?_ _; rotate_left; focus (simp; first | done | omega)) | with_reducible refine bl_trans ?_ (GW.grow _) | (with_reducible refine bl_trans ?_ (by assumption))))⟩
  · rw [decide_eq_false hq, if_neg (by simp)]
    have hq2 : (m.ptr == 1003) = false := by simpa using hq
    go_enter Tryd.func40, Tryd.ntmps40
    go_wp2_with (first | (go_at_call 38; (with_reducible refine (cV _ (bl_alloc (Below.refl _ _) _)).mono ?_); rintro e w1 ⟨rfl, hb1⟩; obtain ⟨X, rfl⟩ := GW.of hb1; clear hb1; have hlt := GW.lt X w.heap.size (by simp); have hgx : Glob X.world := (hg.below (bl_alloc (Below.refl _ _) _)).below X.grow) | (go_at_call 44; (with_reducible refine (cP _ hlt).mono ?_); rintro e w' ⟨rfl, rfl⟩) | (go_at_call 45; (with_reducible refine (cC _ hlt hgx).mono ?_); rintro e w' ⟨rfl, rfl⟩))
    go_ret2
    exact ⟨rfl, (by repeat (first | with_reducible exact Below.refl _ _ | with_reducible assumption | with_reducible exact GW.grow _ | with_reducible refine bl_alloc ?_ _ | with_reducible refine Below.drew ?_ | (with_reducible refine Below.setCell ?_ ?_ _; rotate_left; focus (simp; first | done | omega)) | with_reducible refine bl_trans ?_ (GW.grow _) | (with_reducible refine bl_trans ?_ (by assumption))))⟩
theorem get_63_47 (m : Md) (w : World) (hg : Glob w) (hv : validM m = true) : Calls Tryd.prog 40 #[.agg #[.bool m.aw, .bool m.ori, .bool m.ins, .bool m.vis, .bool m.app, .bool m.pas, .bool m.sgr, .int .i64 m.ptr, .int .i64 m.alt], .int .i32 63, .int .i64 47] w fun e w' => e = .returned (.tuple #[.int .i64 (if onM m 47 = true then 1 else 2), .int .i64 0]) ∧ Below w.heap.size w w' := by
  have cV := fun W (hb : Below w.heap.size w W) => valid_any m W (hg.below hb)
  rw [hv] at cV
  have cP : ∀ W, w.heap.size < W.heap.size → Calls Tryd.prog 44 #[.pointer (some ⟨w.heap.size, 0, none⟩), .int .i32 63, .int .i64 47] W fun e w' => e = .returned (.pointer none) ∧ W = w' := fun W hD => plain_any w.heap.size 63 47 W hD
  have cC : ∀ W, w.heap.size < W.heap.size → Glob W → Calls Tryd.prog 45 #[.pointer (some ⟨w.heap.size, 0, none⟩), .int .i32 63, .int .i64 47] W fun e w' => e = .returned (.pointer (some ⟨w.heap.size, 8, none⟩)) ∧ W = w' := fun W hD hG => choice_any w.heap.size 63 47 W hD hG
  have e : onM m 47 = decide (m.alt = 47) := (valid_on m hv).2.2.2.1
  rw [e]
  by_cases hq : m.alt = 47
  · rw [decide_eq_true hq, if_pos rfl]
    rw [hq] at cV
    go_enter Tryd.func40, Tryd.ntmps40
    go_wp2_with (first | (go_at_call 38; (with_reducible refine (cV _ (bl_alloc (Below.refl _ _) _)).mono ?_); rintro e w1 ⟨rfl, hb1⟩; obtain ⟨X, rfl⟩ := GW.of hb1; clear hb1; have hlt := GW.lt X w.heap.size (by simp); have hgx : Glob X.world := (hg.below (bl_alloc (Below.refl _ _) _)).below X.grow) | (go_at_call 44; (with_reducible refine (cP _ hlt).mono ?_); rintro e w' ⟨rfl, rfl⟩) | (go_at_call 45; (with_reducible refine (cC _ hlt hgx).mono ?_); rintro e w' ⟨rfl, rfl⟩))
    go_ret2
    exact ⟨rfl, (by repeat (first | with_reducible exact Below.refl _ _ | with_reducible assumption | with_reducible exact GW.grow _ | with_reducible refine bl_alloc ?_ _ | with_reducible refine Below.drew ?_ | (with_reducible refine Below.setCell ?_ ?_ _; rotate_left; focus (simp; first | done | omega)) | with_reducible refine bl_trans ?_ (GW.grow _) | (with_reducible refine bl_trans ?_ (by assumption))))⟩
  · rw [decide_eq_false hq, if_neg (by simp)]
    have hq2 : (m.alt == 47) = false := by simpa using hq
    go_enter Tryd.func40, Tryd.ntmps40
    go_wp2_with (first | (go_at_call 38; (with_reducible refine (cV _ (bl_alloc (Below.refl _ _) _)).mono ?_); rintro e w1 ⟨rfl, hb1⟩; obtain ⟨X, rfl⟩ := GW.of hb1; clear hb1; have hlt := GW.lt X w.heap.size (by simp); have hgx : Glob X.world := (hg.below (bl_alloc (Below.refl _ _) _)).below X.grow) | (go_at_call 44; (with_reducible refine (cP _ hlt).mono ?_); rintro e w' ⟨rfl, rfl⟩) | (go_at_call 45; (with_reducible refine (cC _ hlt hgx).mono ?_); rintro e w' ⟨rfl, rfl⟩))
    go_ret2
    exact ⟨rfl, (by repeat (first | with_reducible exact Below.refl _ _ | with_reducible assumption | with_reducible exact GW.grow _ | with_reducible refine bl_alloc ?_ _ | with_reducible refine Below.drew ?_ | (with_reducible refine Below.setCell ?_ ?_ _; rotate_left; focus (simp; first | done | omega)) | with_reducible refine bl_trans ?_ (GW.grow _) | (with_reducible refine bl_trans ?_ (by assumption))))⟩
theorem get_63_1047 (m : Md) (w : World) (hg : Glob w) (hv : validM m = true) : Calls Tryd.prog 40 #[.agg #[.bool m.aw, .bool m.ori, .bool m.ins, .bool m.vis, .bool m.app, .bool m.pas, .bool m.sgr, .int .i64 m.ptr, .int .i64 m.alt], .int .i32 63, .int .i64 1047] w fun e w' => e = .returned (.tuple #[.int .i64 (if onM m 1047 = true then 1 else 2), .int .i64 0]) ∧ Below w.heap.size w w' := by
  have cV := fun W (hb : Below w.heap.size w W) => valid_any m W (hg.below hb)
  rw [hv] at cV
  have cP : ∀ W, w.heap.size < W.heap.size → Calls Tryd.prog 44 #[.pointer (some ⟨w.heap.size, 0, none⟩), .int .i32 63, .int .i64 1047] W fun e w' => e = .returned (.pointer none) ∧ W = w' := fun W hD => plain_any w.heap.size 63 1047 W hD
  have cC : ∀ W, w.heap.size < W.heap.size → Glob W → Calls Tryd.prog 45 #[.pointer (some ⟨w.heap.size, 0, none⟩), .int .i32 63, .int .i64 1047] W fun e w' => e = .returned (.pointer (some ⟨w.heap.size, 8, none⟩)) ∧ W = w' := fun W hD hG => choice_any w.heap.size 63 1047 W hD hG
  have e : onM m 1047 = decide (m.alt = 1047) := (valid_on m hv).2.2.2.2.1
  rw [e]
  by_cases hq : m.alt = 1047
  · rw [decide_eq_true hq, if_pos rfl]
    rw [hq] at cV
    go_enter Tryd.func40, Tryd.ntmps40
    go_wp2_with (first | (go_at_call 38; (with_reducible refine (cV _ (bl_alloc (Below.refl _ _) _)).mono ?_); rintro e w1 ⟨rfl, hb1⟩; obtain ⟨X, rfl⟩ := GW.of hb1; clear hb1; have hlt := GW.lt X w.heap.size (by simp); have hgx : Glob X.world := (hg.below (bl_alloc (Below.refl _ _) _)).below X.grow) | (go_at_call 44; (with_reducible refine (cP _ hlt).mono ?_); rintro e w' ⟨rfl, rfl⟩) | (go_at_call 45; (with_reducible refine (cC _ hlt hgx).mono ?_); rintro e w' ⟨rfl, rfl⟩))
    go_ret2
    exact ⟨rfl, (by repeat (first | with_reducible exact Below.refl _ _ | with_reducible assumption | with_reducible exact GW.grow _ | with_reducible refine bl_alloc ?_ _ | with_reducible refine Below.drew ?_ | (with_reducible refine Below.setCell ?_ ?_ _; rotate_left; focus (simp; first | done | omega)) | with_reducible refine bl_trans ?_ (GW.grow _) | (with_reducible refine bl_trans ?_ (by assumption))))⟩
  · rw [decide_eq_false hq, if_neg (by simp)]
    have hq2 : (m.alt == 1047) = false := by simpa using hq
    go_enter Tryd.func40, Tryd.ntmps40
    go_wp2_with (first | (go_at_call 38; (with_reducible refine (cV _ (bl_alloc (Below.refl _ _) _)).mono ?_); rintro e w1 ⟨rfl, hb1⟩; obtain ⟨X, rfl⟩ := GW.of hb1; clear hb1; have hlt := GW.lt X w.heap.size (by simp); have hgx : Glob X.world := (hg.below (bl_alloc (Below.refl _ _) _)).below X.grow) | (go_at_call 44; (with_reducible refine (cP _ hlt).mono ?_); rintro e w' ⟨rfl, rfl⟩) | (go_at_call 45; (with_reducible refine (cC _ hlt hgx).mono ?_); rintro e w' ⟨rfl, rfl⟩))
    go_ret2
    exact ⟨rfl, (by repeat (first | with_reducible exact Below.refl _ _ | with_reducible assumption | with_reducible exact GW.grow _ | with_reducible refine bl_alloc ?_ _ | with_reducible refine Below.drew ?_ | (with_reducible refine Below.setCell ?_ ?_ _; rotate_left; focus (simp; first | done | omega)) | with_reducible refine bl_trans ?_ (GW.grow _) | (with_reducible refine bl_trans ?_ (by assumption))))⟩
theorem get_63_1049 (m : Md) (w : World) (hg : Glob w) (hv : validM m = true) : Calls Tryd.prog 40 #[.agg #[.bool m.aw, .bool m.ori, .bool m.ins, .bool m.vis, .bool m.app, .bool m.pas, .bool m.sgr, .int .i64 m.ptr, .int .i64 m.alt], .int .i32 63, .int .i64 1049] w fun e w' => e = .returned (.tuple #[.int .i64 (if onM m 1049 = true then 1 else 2), .int .i64 0]) ∧ Below w.heap.size w w' := by
  have cV := fun W (hb : Below w.heap.size w W) => valid_any m W (hg.below hb)
  rw [hv] at cV
  have cP : ∀ W, w.heap.size < W.heap.size → Calls Tryd.prog 44 #[.pointer (some ⟨w.heap.size, 0, none⟩), .int .i32 63, .int .i64 1049] W fun e w' => e = .returned (.pointer none) ∧ W = w' := fun W hD => plain_any w.heap.size 63 1049 W hD
  have cC : ∀ W, w.heap.size < W.heap.size → Glob W → Calls Tryd.prog 45 #[.pointer (some ⟨w.heap.size, 0, none⟩), .int .i32 63, .int .i64 1049] W fun e w' => e = .returned (.pointer (some ⟨w.heap.size, 8, none⟩)) ∧ W = w' := fun W hD hG => choice_any w.heap.size 63 1049 W hD hG
  have e : onM m 1049 = decide (m.alt = 1049) := (valid_on m hv).2.2.2.2.2
  rw [e]
  by_cases hq : m.alt = 1049
  · rw [decide_eq_true hq, if_pos rfl]
    rw [hq] at cV
    go_enter Tryd.func40, Tryd.ntmps40
    go_wp2_with (first | (go_at_call 38; (with_reducible refine (cV _ (bl_alloc (Below.refl _ _) _)).mono ?_); rintro e w1 ⟨rfl, hb1⟩; obtain ⟨X, rfl⟩ := GW.of hb1; clear hb1; have hlt := GW.lt X w.heap.size (by simp); have hgx : Glob X.world := (hg.below (bl_alloc (Below.refl _ _) _)).below X.grow) | (go_at_call 44; (with_reducible refine (cP _ hlt).mono ?_); rintro e w' ⟨rfl, rfl⟩) | (go_at_call 45; (with_reducible refine (cC _ hlt hgx).mono ?_); rintro e w' ⟨rfl, rfl⟩))
    go_ret2
    exact ⟨rfl, (by repeat (first | with_reducible exact Below.refl _ _ | with_reducible assumption | with_reducible exact GW.grow _ | with_reducible refine bl_alloc ?_ _ | with_reducible refine Below.drew ?_ | (with_reducible refine Below.setCell ?_ ?_ _; rotate_left; focus (simp; first | done | omega)) | with_reducible refine bl_trans ?_ (GW.grow _) | (with_reducible refine bl_trans ?_ (by assumption))))⟩
  · rw [decide_eq_false hq, if_neg (by simp)]
    have hq2 : (m.alt == 1049) = false := by simpa using hq
    go_enter Tryd.func40, Tryd.ntmps40
    go_wp2_with (first | (go_at_call 38; (with_reducible refine (cV _ (bl_alloc (Below.refl _ _) _)).mono ?_); rintro e w1 ⟨rfl, hb1⟩; obtain ⟨X, rfl⟩ := GW.of hb1; clear hb1; have hlt := GW.lt X w.heap.size (by simp); have hgx : Glob X.world := (hg.below (bl_alloc (Below.refl _ _) _)).below X.grow) | (go_at_call 44; (with_reducible refine (cP _ hlt).mono ?_); rintro e w' ⟨rfl, rfl⟩) | (go_at_call 45; (with_reducible refine (cC _ hlt hgx).mono ?_); rintro e w' ⟨rfl, rfl⟩))
    go_ret2
    exact ⟨rfl, (by repeat (first | with_reducible exact Below.refl _ _ | with_reducible assumption | with_reducible exact GW.grow _ | with_reducible refine bl_alloc ?_ _ | with_reducible refine Below.drew ?_ | (with_reducible refine Below.setCell ?_ ?_ _; rotate_left; focus (simp; first | done | omega)) | with_reducible refine bl_trans ?_ (GW.grow _) | (with_reducible refine bl_trans ?_ (by assumption))))⟩
theorem get_any (m : Md) (p n : Int) (w : World) (hg : Glob w) : Calls Tryd.prog 40 #[.agg #[.bool m.aw, .bool m.ori, .bool m.ins, .bool m.vis, .bool m.app, .bool m.pas, .bool m.sgr, .int .i64 m.ptr, .int .i64 m.alt], .int .i32 p, .int .i64 n] w fun e w' => e = .returned (.tuple #[.int .i64 (getR m p n), .int .i64 (getE m)]) ∧ Below w.heap.size w w' := by
  cases hv : validM m
  · have e1 : getR m p n = 0 := by unfold getR; rw [hv]; rfl
    have e2 : getE m = 2 := by unfold getE; rw [hv]; rfl
    have cV := fun W (hb : Below w.heap.size w W) => valid_any m W (hg.below hb)
    rw [e1, e2]
    rw [hv] at cV
    go_enter Tryd.func40, Tryd.ntmps40
    go_wp2_with (go_at_call 38; (with_reducible refine (cV _ (bl_alloc (Below.refl _ _) _)).mono ?_); rintro e w1 ⟨rfl, hb1⟩; obtain ⟨X, rfl⟩ := GW.of hb1; clear hb1)
    go_ret2
    exact ⟨rfl, (by repeat (first | with_reducible exact Below.refl _ _ | with_reducible assumption | with_reducible exact GW.grow _ | with_reducible refine bl_alloc ?_ _ | with_reducible refine Below.drew ?_ | (with_reducible refine Below.setCell ?_ ?_ _; rotate_left; focus (simp; first | done | omega)) | with_reducible refine bl_trans ?_ (GW.grow _) | (with_reducible refine bl_trans ?_ (by assumption))))⟩
  · have e2 : getE m = 0 := by unfold getE; rw [hv]; rfl
    rw [e2]
    cases hm : isM p n
    · have e1 : getR m p n = 0 := by unfold getR; rw [hv, hm]; rfl
      rw [e1]
      obtain ⟨h1, h2⟩ := isM_none p n hm
      have cV := fun W (hb : Below w.heap.size w W) => valid_any m W (hg.below hb)
      rw [hv] at cV
      have cP := fun W hD => plain_any w.heap.size p n W hD
      have cC := fun W hD hG => choice_any w.heap.size p n W hD hG
      rw [h1] at cP
      rw [h2] at cC
      go_enter Tryd.func40, Tryd.ntmps40
      go_wp2_with (first | (go_at_call 38; (with_reducible refine (cV _ (bl_alloc (Below.refl _ _) _)).mono ?_); rintro e w1 ⟨rfl, hb1⟩; obtain ⟨X, rfl⟩ := GW.of hb1; clear hb1; have hlt := GW.lt X w.heap.size (by simp); have hgx : Glob X.world := (hg.below (bl_alloc (Below.refl _ _) _)).below X.grow) | (go_at_call 44; (with_reducible refine (cP _ hlt).mono ?_); rintro e w' ⟨rfl, rfl⟩) | (go_at_call 45; (with_reducible refine (cC _ hlt hgx).mono ?_); rintro e w' ⟨rfl, rfl⟩))
      go_ret2
      exact ⟨rfl, (by repeat (first | with_reducible exact Below.refl _ _ | with_reducible assumption | with_reducible exact GW.grow _ | with_reducible refine bl_alloc ?_ _ | with_reducible refine Below.drew ?_ | (with_reducible refine Below.setCell ?_ ?_ _; rotate_left; focus (simp; first | done | omega)) | with_reducible refine bl_trans ?_ (GW.grow _) | (with_reducible refine bl_trans ?_ (by assumption))))⟩
    · have e1 : getR m p n = if onM m n = true then 1 else 2 := by unfold getR; rw [hv, hm]; rfl
      rw [e1]
      rcases isM_cases p n hm with ⟨rfl, rfl⟩ | ⟨rfl, rfl⟩ | ⟨rfl, rfl⟩ | ⟨rfl, rfl⟩ | ⟨rfl, rfl⟩ | ⟨rfl, rfl⟩ | ⟨rfl, rfl⟩ | ⟨rfl, rfl⟩ | ⟨rfl, rfl⟩ | ⟨rfl, rfl⟩ | ⟨rfl, rfl⟩ | ⟨rfl, rfl⟩ | ⟨rfl, rfl⟩
      · exact get_0_4 m w hg hv
      · exact get_63_1 m w hg hv
      · exact get_63_6 m w hg hv
      · exact get_63_7 m w hg hv
      · exact get_63_25 m w hg hv
      · exact get_63_1006 m w hg hv
      · exact get_63_2004 m w hg hv
      · exact get_63_1000 m w hg hv
      · exact get_63_1002 m w hg hv
      · exact get_63_1003 m w hg hv
      · exact get_63_47 m w hg hv
      · exact get_63_1047 m w hg hv
      · exact get_63_1049 m w hg hv

end Go.Proofs.YtgaakkgelifgpaaDoor
