/- reply: the reference's state; whether a mode is set. -/
import Derived.Test.YtgaakkgelifgpaaDoorRa
import Derived.Outline
set_option linter.unusedSimpArgs false
set_option linter.unusedVariables false
set_option linter.unnecessarySimpa false
namespace Go.Proofs.YtgaakkgelifgpaaDoor
open Go.RowKit

set_option maxHeartbeats 4000000 in
theorem rstatus_any (n : Int) (rows cols top bottom : Int) (o : Bool) (r c : Int) (p : Bool) (w : World) : Calls Tryd.prog 8 #[.int .i64 n, .agg #[.int .i64 rows, .int .i64 cols, .int .i64 top, .int .i64 bottom, .bool o], .agg #[.int .i64 r, .int .i64 c, .bool p]] w fun e w' => e = .returned (.tuple #[.string (statS n rows cols top bottom o r c p), .int .i64 (statE n rows cols top bottom o r c p)]) ∧ Below w.heap.size w w' := by
  by_cases h5 : n = 5
  · subst h5
    go_enter Tryd.func8, Tryd.ntmps8
    go_wp2_with fail
    go_ret2
    exact ⟨rfl, (by repeat (first | with_reducible exact Below.refl _ _ | with_reducible assumption | with_reducible exact GW.grow _ | with_reducible refine bl_alloc ?_ _ | with_reducible refine Below.drew ?_ | (with_reducible refine Below.setCell ?_ ?_ _; rotate_left; focus (simp; first | done | omega)) | with_reducible refine bl_trans ?_ (GW.grow _) | (with_reducible refine bl_trans ?_ (by assumption))))⟩
  by_cases h6 : n = 6
  · subst h6
    cases hv : Mo.validB rows cols top bottom r c p
    · have e1 : statS 6 rows cols top bottom o r c p = ⟨#[]⟩ := by simp [statS, hv]
      have e2 : statE 6 rows cols top bottom o r c p = 2 := by simp [statE, hv]
      rw [e1, e2]
      go_enter Tryd.func8, Tryd.ntmps8
      go_wp2_with (first | (go_at_call 15; refine (Mo.validRef_false _ _ _ _ _ _ _ _ _ (by assumption)).mono ?_; rintro e w1 ⟨rfl, hb⟩; (first | obtain ⟨X, rfl⟩ := GW.of2 hb | obtain ⟨X, rfl⟩ := GW.of hb); clear hb))
      go_ret2
      exact ⟨rfl, (by repeat (first | with_reducible exact Below.refl _ _ | with_reducible assumption | with_reducible exact GW.grow _ | with_reducible refine bl_alloc ?_ _ | with_reducible refine Below.drew ?_ | (with_reducible refine Below.setCell ?_ ?_ _; rotate_left; focus (simp; first | done | omega)) | with_reducible refine bl_trans ?_ (GW.grow _) | (with_reducible refine bl_trans ?_ (by assumption))))⟩
    · have e1 : statS 6 rows cols top bottom o r c p = posS (whereR top r o) (c + 1) := by simp [statS, hv]
      have e2 : statE 6 rows cols top bottom o r c p = 0 := by simp [statE, hv]
      rw [e1, e2]
      have hf := Mo.valid_facts hv
      have t2 : IntKind.i64.wrap (c + 1) = c + 1 := IntWalk.i64_in _ (by omega)
      have t3 : IntKind.i64.wrap (r + 1) = r + 1 := IntWalk.i64_in _ (by omega)
      have k2 := numS_size (c + 1) (by omega) (by omega)
      have c2 := fun W => dec_s (c + 1) W (by omega) (by omega)
      unfold posS
      cases o
      · have e : whereR top r false = r + 1 := by unfold whereR; simp; omega
        rw [e]
        have k1 := numS_size (r + 1) (by omega) (by omega)
        have c1 := fun W => dec_s (r + 1) W (by omega) (by omega)
        generalize numS (r + 1) = s1 at *
        generalize numS (c + 1) = s2 at *
        go_enter Tryd.func8, Tryd.ntmps8
        go_wp2_with (first | (go_at_call 15; refine (Mo.validRef_true _ _ _ _ _ _ _ _ _ (by assumption)).mono ?_; rintro e w1 ⟨rfl, hb⟩; (first | obtain ⟨X, rfl⟩ := GW.of2 hb | obtain ⟨X, rfl⟩ := GW.of hb); clear hb))
        first | refine wp_grow2 (by kernel_rfl) (by kernel_rfl) ?_ | refine wp_grow (by kernel_rfl) (by kernel_rfl) ?_
        repeat (go_big_quiet_step (first | (go_at_call 23; with_reducible exact GW.call (c1 _)) | (go_at_call 23; with_reducible exact GW.call (c2 _))))
        refine wpQuiet_nil ?_
        rintro _ ⟨X, rfl⟩
        go_wp2_with fail
        go_ret2
        exact ⟨rfl, (by repeat (first | with_reducible exact Below.refl _ _ | with_reducible assumption | with_reducible exact GW.grow _ | with_reducible refine bl_alloc ?_ _ | with_reducible refine Below.drew ?_ | (with_reducible refine Below.setCell ?_ ?_ _; rotate_left; focus (simp; first | done | omega)) | with_reducible refine bl_trans ?_ (GW.grow _) | (with_reducible refine bl_trans ?_ (by assumption))))⟩
      · have e : whereR top r true = max 1 (r + 1 - top) := by unfold whereR; simp; omega
        rw [e]
        have t1 : IntKind.i64.wrap (r + 1 - top) = r + 1 - top := IntWalk.i64_in _ (by omega)
        have k1 := numS_size (max 1 (r + 1 - top)) (by omega) (by omega)
        have c1 := fun W => dec_s (max 1 (r + 1 - top)) W (by omega) (by omega)
        generalize numS (max 1 (r + 1 - top)) = s1 at *
        generalize numS (c + 1) = s2 at *
        go_enter Tryd.func8, Tryd.ntmps8
        go_wp2_with (first | (go_at_call 15; refine (Mo.validRef_true _ _ _ _ _ _ _ _ _ (by assumption)).mono ?_; rintro e w1 ⟨rfl, hb⟩; (first | obtain ⟨X, rfl⟩ := GW.of2 hb | obtain ⟨X, rfl⟩ := GW.of hb); clear hb))
        first | refine wp_grow2 (by kernel_rfl) (by kernel_rfl) ?_ | refine wp_grow (by kernel_rfl) (by kernel_rfl) ?_
        repeat (go_big_quiet_step (first | (go_at_call 23; with_reducible exact GW.call (c1 _)) | (go_at_call 23; with_reducible exact GW.call (c2 _))))
        refine wpQuiet_nil ?_
        rintro _ ⟨X, rfl⟩
        go_wp2_with fail
        go_ret2
        exact ⟨rfl, (by repeat (first | with_reducible exact Below.refl _ _ | with_reducible assumption | with_reducible exact GW.grow _ | with_reducible refine bl_alloc ?_ _ | with_reducible refine Below.drew ?_ | (with_reducible refine Below.setCell ?_ ?_ _; rotate_left; focus (simp; first | done | omega)) | with_reducible refine bl_trans ?_ (GW.grow _) | (with_reducible refine bl_trans ?_ (by assumption))))⟩
  · have e1 : statS n rows cols top bottom o r c p = ⟨#[]⟩ := by simp [statS, h5, h6]
    have e2 : statE n rows cols top bottom o r c p = 9 := by simp [statE, h5, h6]
    rw [e1, e2]
    go_enter Tryd.func8, Tryd.ntmps8
    go_wp2_with fail
    go_ret2
    exact ⟨rfl, (by repeat (first | with_reducible exact Below.refl _ _ | with_reducible assumption | with_reducible exact GW.grow _ | with_reducible refine bl_alloc ?_ _ | with_reducible refine Below.drew ?_ | (with_reducible refine Below.setCell ?_ ?_ _; rotate_left; focus (simp; first | done | omega)) | with_reducible refine bl_trans ?_ (GW.grow _) | (with_reducible refine bl_trans ?_ (by assumption))))⟩

end Go.Proofs.YtgaakkgelifgpaaDoor
