/- reply: the reference's Mode -/
import Derived.Test.YtgaakkgelifgpaaDoorRd
import Derived.Outline
set_option linter.unusedSimpArgs false
set_option linter.unusedVariables false
set_option linter.unnecessarySimpa false
namespace Go.Proofs.YtgaakkgelifgpaaDoor
open Go.RowKit

set_option maxHeartbeats 4000000 in
theorem rmode_any (m : Md) (p n : Int) (w : World) : Calls Tryd.prog 11 #[.agg #[.bool m.aw, .bool m.ori, .bool m.ins, .bool m.vis, .bool m.app, .bool m.pas, .bool m.sgr, .int .i64 m.ptr, .int .i64 m.alt], .int .i32 p, .int .i64 n] w fun e w' => e = .returned (.tuple #[.string (modeS m p n), .int .i64 (modeE m p n)]) ∧ Below w.heap.size w w' := by
  have cV := fun W => rvalid_any m W
  have cI := fun W => is_any p n W
  have cO := fun W => ron_any m p n W
  cases hv : validM m
  · have e1 : modeS m p n = ⟨#[]⟩ := by simp [modeS, asksM, hv]
    have e2 : modeE m p n = 2 := by simp [modeE, asksM, hv]
    rw [e1, e2]
    rw [hv] at cV
    go_enter Tryd.func11, Tryd.ntmps11
    go_wp2_with (first | (go_at_call 28; (with_reducible refine (cV _).mono ?_); rintro e w1 ⟨rfl, hb1⟩))
    go_ret2
    exact ⟨rfl, bl_trans (bl_alloc (Below.refl _ _) _) hb1⟩
  · rw [hv] at cV
    by_cases hn : 0 ≤ n ∧ n ≤ 9999
    · obtain ⟨h0, h1⟩ := hn
      have h0' : ¬ n < 0 := by omega
      have h1' : ¬ 9999 < n := by omega
      by_cases hp : p = 63 ∨ p = 0
      · have e1 : modeS m p n = modeT p n (getR m p n) := by unfold modeS; rw [if_pos]; simp [asksM, hv, h0, h1]; omega
        have e2 : modeE m p n = 0 := by unfold modeE; rw [if_pos]; simp [asksM, hv, h0, h1]; omega
        rw [e1, e2]
        have k1 := numS_size n (by omega) (by omega)
        have c1 := fun W => dec_s n W (by omega) (by omega)
        have d0 : numS 0 = ⟨#[48]⟩ := numS_dig 0 (by omega)
        have d1 : numS 1 = ⟨#[49]⟩ := numS_dig 1 (by omega)
        have d2 : numS 2 = ⟨#[50]⟩ := numS_dig 2 (by omega)
        unfold modeT getR
        rw [hv, if_pos rfl]
        cases hm : isM p n
        · rw [hm] at cI
          rw [if_neg (by simp), d0]
          generalize numS n = s1 at *
          rcases hp with rfl | rfl
          all_goals
            go_enter Tryd.func11, Tryd.ntmps11
            go_wp2_with (first | (go_at_call 28; (with_reducible refine (cV _).mono ?_); rintro e w1 ⟨rfl, hb1⟩; have hl1 : Below w.heap.size w w1 := bl_trans (bl_alloc (Below.refl _ _) _) hb1) | (go_at_call 29; (with_reducible refine (cI _).mono ?_); rintro e w2 ⟨rfl, hb2⟩; have hl2 : Below w.heap.size w w2 := bl_trans hl1 hb2) | (go_at_call 23; (with_reducible refine (c1 _).mono ?_); rintro e w3 ⟨rfl, hb3⟩))
            go_ret2
            exact ⟨rfl, bl_trans hl2 hb3⟩
        · rw [hm] at cI
          rw [if_pos rfl]
          cases ho : onM m n
          all_goals
            rw [ho] at cO
            first | rw [if_pos rfl, d1] | rw [if_neg (by simp), d2]
            generalize numS n = s1 at *
            rcases hp with rfl | rfl
            all_goals
              go_enter Tryd.func11, Tryd.ntmps11
              go_wp2_with (first | (go_at_call 28; (with_reducible refine (cV _).mono ?_); rintro e w1 ⟨rfl, hb1⟩; have hl1 : Below w.heap.size w w1 := bl_trans (bl_alloc (Below.refl _ _) _) hb1; have hm1 : Box w1 w.heap.size _ _ := (hb1.block w.heap.size (by simp)).trans (Box.new w #[.bool m.aw, .bool m.ori, .bool m.ins, .bool m.vis, .bool m.app, .bool m.pas, .bool m.sgr, .int .i64 m.ptr, .int .i64 m.alt] 38 rfl)) | (go_at_call 29; (with_reducible refine (cI _).mono ?_); rintro e w2 ⟨rfl, hb2⟩; have hl2 : Below w.heap.size w w2 := bl_trans hl1 hb2; have hm2 : Box w2 w.heap.size _ _ := (hb2.block _ hm1.lt).trans hm1; have hcm := hm2.cell; have hlm := hm2.lt) | (go_at_call 30; (with_reducible refine (cO _).mono ?_); rintro e w3 ⟨rfl, hb3⟩; have hl3 : Below w.heap.size w w3 := bl_trans hl2 hb3) | (go_at_call 23; (with_reducible refine (c1 _).mono ?_); rintro e w4 ⟨rfl, hb4⟩))
              go_ret2
              exact ⟨rfl, bl_trans hl3 hb4⟩
      · have h2 : ¬ p = 63 := fun h => hp (.inl h)
        have h3 : ¬ p = 0 := fun h => hp (.inr h)
        have e1 : modeS m p n = ⟨#[]⟩ := by simp [modeS, asksM, h2, h3]
        have e2 : modeE m p n = 2 := by simp [modeE, asksM, h2, h3]
        rw [e1, e2]
        go_enter Tryd.func11, Tryd.ntmps11
        go_wp2_with (first | (go_at_call 28; (with_reducible refine (cV _).mono ?_); rintro e w1 ⟨rfl, hb1⟩))
        go_ret2
        exact ⟨rfl, bl_trans (bl_alloc (Below.refl _ _) _) hb1⟩
    · have e1 : modeS m p n = ⟨#[]⟩ := by unfold modeS; rw [if_neg]; simp [asksM]; omega
      have e2 : modeE m p n = 2 := by unfold modeE; rw [if_neg]; simp [asksM]; omega
      rw [e1, e2]
      have hn2 : n < 0 ∨ 9999 < n := by omega
      by_cases hp0 : p = 0 <;> by_cases hp1 : p = 63
      all_goals
        go_enter Tryd.func11, Tryd.ntmps11
        go_wp2_with (first | (go_at_call 28; (with_reducible refine (cV _).mono ?_); rintro e w1 ⟨rfl, hb1⟩))
        all_goals
          go_ret2
          exact ⟨by first | rfl | (exfalso; omega), bl_trans (bl_alloc (Below.refl _ _) _) hb1⟩

end Go.Proofs.YtgaakkgelifgpaaDoor
