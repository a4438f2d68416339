/- modes: the program: Set, Get. -/
import Derived.Test.YtgaakkgelifgpaaDoorE
import Derived.Outline
set_option linter.unusedSimpArgs false
set_option linter.unusedVariables false
set_option linter.unnecessarySimpa false
namespace Go.Proofs.YtgaakkgelifgpaaDoor
open Go.RowKit

theorem Bar.box {D b : Nat} {w w' : World} {cs : Array Value} {t : TypeId} (h : Bar D w w') (hne : b ≠ D) (hx : Box w b cs t) : Box w' b cs t := (h.block b hne hx.lt).trans hx
def zeroM : Md := ⟨false, false, false, false, false, false, false, 0, 0⟩
/-- What Set returns: the modes, and the error. -/
def setR (m : Md) (p n : Int) (on : Bool) : Md := if validM m = true then (if isM p n = true then setM m n on else zeroM) else zeroM
def setE (m : Md) (p n : Int) : Int := if validM m = true then (if isM p n = true then 0 else 9) else 2
def getR (m : Md) (p n : Int) : Int := if validM m = true then (if isM p n = true then (if onM m n = true then 1 else 2) else 0) else 0
def getE (m : Md) : Int := if validM m = true then 0 else 2
set_option maxHeartbeats 4000000 in
set_option maxRecDepth 100000 in
theorem set_any (m : Md) (p n : Int) (on : Bool) (w : World) (hg : Glob w) : Calls Tryd.prog 19 #[.agg #[.bool m.aw, .bool m.ori, .bool m.ins, .bool m.vis, .bool m.app, .bool m.pas, .bool m.sgr, .int .i64 m.ptr, .int .i64 m.alt], .int .i32 p, .int .i64 n, .bool on] w fun e w' => e = .returned (.tuple #[.agg #[.bool (setR m p n on).aw, .bool (setR m p n on).ori, .bool (setR m p n on).ins, .bool (setR m p n on).vis, .bool (setR m p n on).app, .bool (setR m p n on).pas, .bool (setR m p n on).sgr, .int .i64 (setR m p n on).ptr, .int .i64 (setR m p n on).alt], .int .i64 (setE m p n)]) ∧ Below w.heap.size w w' := by
  have cV := fun W (hb : Below w.heap.size w W) => valid_any m W (hg.below hb)
  cases hv : validM m
  · have e1 : setR m p n on = zeroM := by unfold setR; rw [hv]; rfl
    have e2 : setE m p n = 2 := by unfold setE; rw [hv]; rfl
    rw [e1, e2]
    rw [hv] at cV
    go_enter Tryd.func19, Tryd.ntmps19
    go_wp2_with (go_at_call 38; (with_reducible refine (cV _ (bl_alloc (bl_alloc (Below.refl _ _) _) _)).mono ?_); rintro e w1 ⟨rfl, hb1⟩; obtain ⟨X, rfl⟩ := GW.of hb1; clear hb1)
    refine ret_row_tmp (n := 9) rfl rfl Tryd.underlying38 rfl (by kernel_rfl) rfl ⟨_, by simp (maxDischargeDepth := 6) [go_sem] <;> rfl, rfl, ?_⟩
    exact ⟨rfl, (by repeat (first | with_reducible exact Below.refl _ _ | with_reducible assumption | with_reducible exact GW.grow _ | with_reducible refine bl_alloc ?_ _ | with_reducible refine Below.drew ?_ | (with_reducible refine Below.setCell ?_ ?_ _; rotate_left; focus (simp; first | done | omega)) | with_reducible refine bl_trans ?_ (GW.grow _) | (with_reducible refine bl_trans ?_ (by assumption))))⟩
  · rw [hv] at cV
    have hxm : ∀ o, Box ((w.alloc (.cells #[.bool m.aw, .bool m.ori, .bool m.ins, .bool m.vis, .bool m.app, .bool m.pas, .bool m.sgr, .int .i64 m.ptr, .int .i64 m.alt] 38)).alloc o) w.heap.size #[.bool m.aw, .bool m.ori, .bool m.ins, .bool m.vis, .bool m.app, .bool m.pas, .bool m.sgr, .int .i64 m.ptr, .int .i64 m.alt] 38 := fun o => (Box.new w _ _ rfl).alloc _
    cases hm : isM p n
    · have e1 : setR m p n on = zeroM := by unfold setR; rw [hv, hm]; rfl
      have e2 : setE m p n = 9 := by unfold setE; rw [hv, hm]; rfl
      rw [e1, e2]
      go_enter Tryd.func19, Tryd.ntmps19
      go_wp2_with (first | (go_at_call 38; (with_reducible refine (cV _ (bl_alloc (bl_alloc (Below.refl _ _) _) _)).mono ?_); rintro e w1 ⟨rfl, hb1⟩; obtain ⟨X, rfl⟩ := GW.of hb1; clear hb1; have hdx : MdB X.world w.heap.size m := (hxm _).gw; have hgx : Glob X.world := (hg.below (bl_alloc (bl_alloc (Below.refl _ _) _) _)).below X.grow) | (go_at_call 39; (with_reducible refine (change_any w.heap.size m p n on _ hdx hgx).mono ?_); rintro e w2 ⟨he, hd2, hbar⟩; rw [hm] at he; subst he; have hz : Box w2 (w.heap.size + 1) _ _ := hbar.box (by omega) (Box.gw (Box.new _ _ _ (by simp))); have hlz := hz.lt; have hfz := hz.free; have hcz := hz.cell; have hl2 : Below w.heap.size w w2 := Bar.to_below (bl_trans (bl_alloc (bl_alloc (Below.refl _ _) _) _) X.grow) hbar (Nat.le_refl _)))
      refine ret_row_tmp (n := 9) rfl rfl Tryd.underlying38 rfl (by kernel_rfl) rfl ⟨_, by simp (maxDischargeDepth := 6) [go_sem, Box.row hz, hlz] <;> rfl, rfl, ?_⟩
      exact ⟨rfl, (by repeat (first | with_reducible exact Below.refl _ _ | with_reducible assumption | with_reducible exact GW.grow _ | with_reducible refine bl_alloc ?_ _ | with_reducible refine Below.drew ?_ | (with_reducible refine Below.setCell ?_ ?_ _; rotate_left; focus (simp; first | done | omega)) | with_reducible refine bl_trans ?_ (GW.grow _) | (with_reducible refine bl_trans ?_ (by assumption))))⟩
    · have e1 : setR m p n on = setM m n on := by unfold setR; rw [hv, hm]; rfl
      have e2 : setE m p n = 0 := by unfold setE; rw [hv, hm]; rfl
      rw [e1, e2]
      obtain ⟨m', hm'⟩ : ∃ m', setM m n on = m' := ⟨_, rfl⟩
      rw [hm']
      go_enter Tryd.func19, Tryd.ntmps19
      go_wp2_with (first | (go_at_call 38; (with_reducible refine (cV _ (bl_alloc (bl_alloc (Below.refl _ _) _) _)).mono ?_); rintro e w1 ⟨rfl, hb1⟩; obtain ⟨X, rfl⟩ := GW.of hb1; clear hb1; have hdx : MdB X.world w.heap.size m := (hxm _).gw; have hgx : Glob X.world := (hg.below (bl_alloc (bl_alloc (Below.refl _ _) _) _)).below X.grow) | (go_at_call 39; (with_reducible refine (change_any w.heap.size m p n on _ hdx hgx).mono ?_); rintro e w2 ⟨he, hd2, hbar⟩; rw [hm] at he; rw [hm, if_pos rfl, hm'] at hd2; subst he; have hz : Box w2 (w.heap.size + 1) _ _ := hbar.box (by omega) (Box.gw (Box.new _ _ _ (by simp))); have hlz := hz.lt; have hfz := hz.free; have hcz := hz.cell; have hl2 : Below w.heap.size w w2 := Bar.to_below (bl_trans (bl_alloc (bl_alloc (Below.refl _ _) _) _) X.grow) hbar (Nat.le_refl _); have hy : Box w2 w.heap.size _ _ := hd2; have hcy := hy.cell; have hly := hy.lt))
      refine ret_row_tmp (n := 9) rfl rfl Tryd.underlying38 rfl (by kernel_rfl) rfl ⟨_, by simp (maxDischargeDepth := 6) [go_sem, Box.row hz, hlz] <;> rfl, rfl, ?_⟩
      exact ⟨rfl, (by repeat (first | with_reducible exact Below.refl _ _ | with_reducible assumption | with_reducible exact GW.grow _ | with_reducible refine bl_alloc ?_ _ | with_reducible refine Below.drew ?_ | (with_reducible refine Below.setCell ?_ ?_ _; rotate_left; focus (simp; first | done | omega)) | with_reducible refine bl_trans ?_ (GW.grow _) | (with_reducible refine bl_trans ?_ (by assumption))))⟩

end Go.Proofs.YtgaakkgelifgpaaDoor
