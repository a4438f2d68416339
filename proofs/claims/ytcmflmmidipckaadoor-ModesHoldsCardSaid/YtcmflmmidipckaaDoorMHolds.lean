/- modes: ModesHolds returns true for every input. No condition. -/
import Derived.Test.YtcmflmmidipckaaDoorQ
import Derived.Test.YtcmflmmidipckaaDoorCards
import Derived.Test.YtcmflmmidipckaaDoorTie
import Derived.SevenTiedAt
import Derived.ChangeMaps5
import Derived.Outline
set_option linter.unusedSimpArgs false
set_option linter.unusedVariables false
set_option linter.unnecessarySimpa false
namespace Go.Proofs.YtcmflmmidipckaaDoor
open Go.ChangeShapes Go.WideShapes Go.ChangeAt Go.RowKit

theorem set_facts (m : Md) (p n : Int) (on : Bool) (hv : validM m = true) (hm : isM p n = true) : validM (setM m n on) = true ∧ onM (setM m n on) n = on ∧ setM (setM m n on) n on = setM m n on := by
  obtain ⟨aw, ori, ins, vis, app, pas, sgr, ptr, alt⟩ := m
  simp [validM, ptrL, altL] at hv
  obtain ⟨h1, h2⟩ := hv
  rcases isM_cases p n hm with ⟨rfl, rfl⟩ | ⟨rfl, rfl⟩ | ⟨rfl, rfl⟩ | ⟨rfl, rfl⟩ | ⟨rfl, rfl⟩ | ⟨rfl, rfl⟩ | ⟨rfl, rfl⟩ | ⟨rfl, rfl⟩ | ⟨rfl, rfl⟩ | ⟨rfl, rfl⟩ | ⟨rfl, rfl⟩ | ⟨rfl, rfl⟩ | ⟨rfl, rfl⟩
  all_goals
    rcases h1 with rfl | rfl | rfl | rfl <;> rcases h2 with rfl | rfl | rfl | rfl <;> cases on <;> simp [validM, ptrL, altL, setM, onM]
theorem get_other (m : Md) (p n : Int) (on : Bool) (q k : Int) (hv : validM m = true) (hm : isM p n = true) : getR m q k = getR (setM m n on) q k ∨ (q = p ∧ k = n) ∨ (q = p ∧ 40 < k ∧ 40 < n ∧ on = true ∧ getR (setM m n on) q k = 2) := by
  have hv2 := (set_facts m p n on hv hm).1
  unfold getR
  rw [hv, hv2]
  cases hk : isM q k
  · left; rfl
  · simp only [if_true]
    obtain ⟨aw, ori, ins, vis, app, pas, sgr, ptr, alt⟩ := m
    simp [validM, ptrL, altL] at hv
    obtain ⟨h1, h2⟩ := hv
    clear hv2
    rcases isM_cases p n hm with ⟨rfl, rfl⟩ | ⟨rfl, rfl⟩ | ⟨rfl, rfl⟩ | ⟨rfl, rfl⟩ | ⟨rfl, rfl⟩ | ⟨rfl, rfl⟩ | ⟨rfl, rfl⟩ | ⟨rfl, rfl⟩ | ⟨rfl, rfl⟩ | ⟨rfl, rfl⟩ | ⟨rfl, rfl⟩ | ⟨rfl, rfl⟩ | ⟨rfl, rfl⟩
    all_goals
      rcases isM_cases q k hk with ⟨rfl, rfl⟩ | ⟨rfl, rfl⟩ | ⟨rfl, rfl⟩ | ⟨rfl, rfl⟩ | ⟨rfl, rfl⟩ | ⟨rfl, rfl⟩ | ⟨rfl, rfl⟩ | ⟨rfl, rfl⟩ | ⟨rfl, rfl⟩ | ⟨rfl, rfl⟩ | ⟨rfl, rfl⟩ | ⟨rfl, rfl⟩ | ⟨rfl, rfl⟩
      all_goals
        first
          | (right; left; exact ⟨rfl, rfl⟩)
          | (left; rfl)
          | (left; simp [setM, onM]; done)
          | (cases on <;> rcases h1 with rfl | rfl | rfl | rfl <;> rcases h2 with rfl | rfl | rfl | rfl <;> first | (left; rfl) | (left; simp [setM, onM]; done) | (right; right; simp [setM, onM]; done))
theorem trodAll_six {H : Type} {enc : TypeId × Value → H} {P : Program} {w : World} {base : Nat} {sp : Nat → Bool} {held : Bool} {t0 t1 t2 t3 t4 t5 : TypeId} {args : Array Value} {ds : List (DataW H)} {ps : List MemPlace} (h : DataW.TrodAll enc P w base sp held [t0, t1, t2, t3, t4, t5] args.toList ds ps) :
    ∃ v0 v1 v2 v3 v4 v5 d0 d1 d2 d3 d4 d5 p0 p1 p2 p3 p4 p5, args = #[v0, v1, v2, v3, v4, v5] ∧ ds = [d0, d1, d2, d3, d4, d5] ∧ ps = p0 ++ (p1 ++ (p2 ++ (p3 ++ (p4 ++ p5)))) ∧ DataW.Trod enc P w base sp held t0 v0 d0 p0 ∧ DataW.Trod enc P w base sp held t1 v1 d1 p1 ∧ DataW.Trod enc P w base sp held t2 v2 d2 p2 ∧ DataW.Trod enc P w base sp held t3 v3 d3 p3 ∧ DataW.Trod enc P w base sp held t4 v4 d4 p4 ∧ DataW.Trod enc P w base sp held t5 v5 d5 p5 := by
  obtain ⟨l⟩ := args
  obtain ⟨v0, l0, d0, e0, p0, q0, rfl, rfl, rfl, h0, h⟩ := trodAll_cons h
  obtain ⟨v1, l1, d1, e1, p1, q1, rfl, rfl, rfl, h1, h⟩ := trodAll_cons h
  obtain ⟨v2, l2, d2, e2, p2, q2, rfl, rfl, rfl, h2, h⟩ := trodAll_cons h
  obtain ⟨v3, l3, d3, e3, p3, q3, rfl, rfl, rfl, h3, h⟩ := trodAll_cons h
  obtain ⟨v4, l4, d4, e4, p4, q4, rfl, rfl, rfl, h4, h⟩ := trodAll_cons h
  obtain ⟨v5, l5, d5, e5, p5, q5, rfl, rfl, rfl, h5, h⟩ := trodAll_cons h
  obtain ⟨rfl, rfl, rfl⟩ := trodAll_nil h
  exact ⟨v0, v1, v2, v3, v4, v5, d0, d1, d2, d3, d4, d5, p0, p1, p2, p3, p4, p5, rfl, rfl, by simp, h0, h1, h2, h3, h4, h5⟩
set_option maxHeartbeats 8000000 in
set_option maxRecDepth 100000 in
theorem modesHolds_any (m : Md) (p n : Int) (on : Bool) (q k : Int) (w : World) (h : Gl w) : Calls Tryd.prog 7 #[.agg #[.bool m.aw, .bool m.ori, .bool m.ins, .bool m.vis, .bool m.app, .bool m.pas, .bool m.sgr, .int .i64 m.ptr, .int .i64 m.alt], .int .i32 p, .int .i64 n, .bool on, .int .i32 q, .int .i64 k] w fun e w' => e = .returned (.bool true) ∧ Below w.heap.size w w' := by
  have hB := h.below (bl_alloc (Below.refl _ w) (.cells #[.bool m.aw, .bool m.ori, .bool m.ins, .bool m.vis, .bool m.app, .bool m.pas, .bool m.sgr, .int .i64 m.ptr, .int .i64 m.alt] 23))
  have cW := fun W (hg : Glob W) => valid_any m W hg
  cases hv : validM m
  · rw [hv] at cW
    go_enter Tryd.func7, Tryd.ntmps7
    go_wp2_with (first | (go_at_call 10; (with_reducible refine (cW _ hB.g).mono ?_); rintro e w1 ⟨rfl, hb⟩; (first | obtain ⟨X, rfl⟩ := GW.of2 hb | obtain ⟨X, rfl⟩ := GW.of hb); clear hb) | (go_at_call 14; (with_reducible refine (known_any _ (hB.below (GW.grow _))).mono ?_); rintro e w1 ⟨rfl, hb⟩; (first | obtain ⟨X, rfl⟩ := GW.of2 hb | obtain ⟨X, rfl⟩ := GW.of hb); clear hb))
    go_ret
    exact ⟨rfl, (by repeat (first | with_reducible exact Below.refl _ _ | with_reducible assumption | with_reducible exact GW.grow _ | with_reducible refine bl_alloc ?_ _ | with_reducible refine Below.drew ?_ | (with_reducible refine Below.setCell ?_ ?_ _; rotate_left; focus (simp; first | done | omega)) | with_reducible refine bl_trans ?_ (GW.grow _) | (with_reducible refine bl_trans ?_ (by assumption))))⟩
  · rw [hv] at cW
    have cS := fun W (hg : Glob W) => set_any m p n on W hg
    cases hm : isM p n
    · obtain ⟨r, hr⟩ : ∃ r, zeroM = r := ⟨_, rfl⟩
      have t1 : setR m p n on = zeroM := by unfold setR; rw [hv, hm]; rfl
      have t2 : setE m p n = 9 := by unfold setE; rw [hv, hm]; rfl
      rw [t1, t2] at cS
      have hz : zeroM = ⟨false, false, false, false, false, false, false, 0, 0⟩ := rfl
      rw [hz] at cS
      clear hr hz r
      simp only at cS
      go_enter Tryd.func7, Tryd.ntmps7
      go_wp2_with (first | (go_at_call 10; (with_reducible refine (cW _ hB.g).mono ?_); rintro e w1 ⟨rfl, hb⟩; (first | obtain ⟨X, rfl⟩ := GW.of2 hb | obtain ⟨X, rfl⟩ := GW.of hb); clear hb) | (go_at_call 21; (with_reducible refine (cS _ (hB.below (GW.grow _)).g).mono ?_); rintro e w1 ⟨rfl, hb⟩; have hl1 : Below w.heap.size w w1 := bl_trans (bl_trans (bl_alloc (Below.refl _ _) _) (GW.grow _)) hb; have hmx : Box w1 w.heap.size _ _ := ((bl_trans (GW.grow _) hb).block w.heap.size (by simp)).trans (Box.new w #[.bool m.aw, .bool m.ori, .bool m.ins, .bool m.vis, .bool m.app, .bool m.pas, .bool m.sgr, .int .i64 m.ptr, .int .i64 m.alt] 23 rfl); have hcm := hmx.cell; have hlm := hmx.lt; have hlm1 := Nat.lt_succ_of_lt hlm; have hB1 := h.below hl1; have hB2 : Gl (w1.alloc (.cells #[.bool false, .bool false, .bool false, .bool false, .bool false, .bool false, .bool false, .int .i64 0, .int .i64 0] 23)) := hB1.below (bl_alloc (Below.refl _ _) _); have hl2 : Below w.heap.size w (w1.alloc (.cells #[.bool false, .bool false, .bool false, .bool false, .bool false, .bool false, .bool false, .int .i64 0, .int .i64 0] 23)) := bl_alloc hl1 _; clear hb) | (go_at_call 14; (with_reducible refine (known_any _ (hB2.below (GW.grow _))).mono ?_); rintro e w3 ⟨rfl, hb⟩; (first | obtain ⟨X, rfl⟩ := GW.of2 hb | obtain ⟨X, rfl⟩ := GW.of hb); clear hb) | (go_at_call 14; (with_reducible refine (known_any _ hB2).mono ?_); rintro e w3 ⟨rfl, hb⟩; (first | obtain ⟨X, rfl⟩ := GW.of2 hb | obtain ⟨X, rfl⟩ := GW.of hb); clear hb))
      go_ret
      exact ⟨rfl, bl_trans hl2 X.grow⟩
    · obtain ⟨f1, f2, f3⟩ := set_facts m p n on hv hm
      have f4 := get_other m p n on q k hv hm
      have t1 : setR m p n on = setM m n on := by unfold setR; rw [hv, hm]; rfl
      have t2 : setE m p n = 0 := by unfold setE; rw [hv, hm]; rfl
      have g1 : getE m = 0 := by unfold getE; rw [hv]; rfl
      rw [t1, t2] at cS
      have g2 : getE (setM m n on) = 0 := by unfold getE; rw [f1]; rfl
      have g3 : getR (setM m n on) p n = if on = true then 1 else 2 := by unfold getR; rw [f1, hm, f2]; rfl
      have g4 : setR (setM m n on) p n on = setM m n on := by unfold setR; rw [f1, hm, f3]; rfl
      have g5 : setE (setM m n on) p n = 0 := by unfold setE; rw [f1, hm]; rfl
      obtain ⟨r, hr⟩ : ∃ r, setM m n on = r := ⟨_, rfl⟩
      rw [hr] at cS f1 f4 g2 g3 g4 g5
      have cW2 := fun W (hg : Glob W) => valid_any r W hg
      rw [f1] at cW2
      have cG := fun W (hg : Glob W) => get_any m q k W hg
      have cH := fun W (hg : Glob W) => get_any r q k W hg
      rw [g1] at cG
      rw [g2] at cH
      have HF := Lib.hid f4
      clear f1 f2 f3 f4 t1 t2 hr
      obtain ⟨a, ha⟩ : ∃ a, getR m q k = a := ⟨_, rfl⟩
      obtain ⟨b, hb0⟩ : ∃ b, getR r q k = b := ⟨_, rfl⟩
      rw [ha] at cG HF
      rw [hb0] at cH HF
      clear ha hb0
      have hcs : a = b ∨ (a ≠ b ∧ q = p ∧ k = n) ∨ (a ≠ b ∧ ¬ (q = p ∧ k = n) ∧ q = p ∧ 40 < k ∧ 40 < n ∧ on = true ∧ b = 2) := by
        by_cases e1 : a = b
        · exact .inl e1
        · by_cases e2 : q = p ∧ k = n
          · exact .inr (.inl ⟨e1, e2⟩)
          · rcases HF.out with h' | h' | h'
            · exact absurd h' e1
            · exact absurd h' e2
            · exact .inr (.inr ⟨e1, e2, h'⟩)
      clear HF
      rcases hcs with rfl | ⟨hab, rfl, rfl⟩ | ⟨hab, hnn, rfl, hk, hn, rfl, rfl⟩
      · cases on
        all_goals
          simp only [if_true, Bool.false_eq_true, if_false] at g3
          go_enter Tryd.func7, Tryd.ntmps7
          go_wp2_with (first | (go_at_call 10; (with_reducible refine (cW _ hB.g).mono ?_); rintro e w1 ⟨rfl, hb⟩; (first | obtain ⟨X, rfl⟩ := GW.of2 hb | obtain ⟨X, rfl⟩ := GW.of hb); clear hb) | (go_at_call 21; (with_reducible refine (cS _ (hB.below (GW.grow _)).g).mono ?_); rintro e w1 ⟨rfl, hb⟩; have hl1 : Below w.heap.size w w1 := bl_trans (bl_trans (bl_alloc (Below.refl _ _) _) (GW.grow _)) hb; have hmx : Box w1 w.heap.size _ _ := ((bl_trans (GW.grow _) hb).block w.heap.size (by simp)).trans (Box.new w #[.bool m.aw, .bool m.ori, .bool m.ins, .bool m.vis, .bool m.app, .bool m.pas, .bool m.sgr, .int .i64 m.ptr, .int .i64 m.alt] 23 rfl); have hcm := hmx.cell; have hlm := hmx.lt; have hlm1 := Nat.lt_succ_of_lt hlm; have hB1 := h.below hl1; have hB2 : Gl (w1.alloc (.cells #[.bool r.aw, .bool r.ori, .bool r.ins, .bool r.vis, .bool r.app, .bool r.pas, .bool r.sgr, .int .i64 r.ptr, .int .i64 r.alt] 23)) := hB1.below (bl_alloc (Below.refl _ _) _); have hl2 : Below w.heap.size w (w1.alloc (.cells #[.bool r.aw, .bool r.ori, .bool r.ins, .bool r.vis, .bool r.app, .bool r.pas, .bool r.sgr, .int .i64 r.ptr, .int .i64 r.alt] 23)) := bl_alloc hl1 _; clear hb) | (go_at_call 10; (with_reducible refine (cW2 _ (hB2.below (GW.grow _)).g).mono ?_); rintro e w3 ⟨rfl, hb⟩; (first | obtain ⟨X, rfl⟩ := GW.of2 hb | obtain ⟨X, rfl⟩ := GW.of hb); clear hb) | (go_at_call 10; (with_reducible refine (cW2 _ hB2.g).mono ?_); rintro e w3 ⟨rfl, hb⟩; (first | obtain ⟨X, rfl⟩ := GW.of2 hb | obtain ⟨X, rfl⟩ := GW.of hb); clear hb) | (go_at_call 13; (with_reducible refine (gets_t r _ _ _ 0 _ (hB2.below (GW.grow _)).g g3 g2).mono ?_); rintro e w3 ⟨rfl, hb⟩; (first | obtain ⟨X, rfl⟩ := GW.of2 hb | obtain ⟨X, rfl⟩ := GW.of hb); clear hb) | (go_at_call 13; (with_reducible refine (gets_t r _ _ _ 0 _ hB2.g g3 g2).mono ?_); rintro e w3 ⟨rfl, hb⟩; (first | obtain ⟨X, rfl⟩ := GW.of2 hb | obtain ⟨X, rfl⟩ := GW.of hb); clear hb) | (go_at_call 12; (with_reducible refine (sets_t r _ _ _ r 0 _ (hB2.below (GW.grow _)).g g4 g5).mono ?_); rintro e w3 ⟨rfl, hb⟩; (first | obtain ⟨X, rfl⟩ := GW.of2 hb | obtain ⟨X, rfl⟩ := GW.of hb); clear hb) | (go_at_call 12; (with_reducible refine (sets_t r _ _ _ r 0 _ hB2.g g4 g5).mono ?_); rintro e w3 ⟨rfl, hb⟩; (first | obtain ⟨X, rfl⟩ := GW.of2 hb | obtain ⟨X, rfl⟩ := GW.of hb); clear hb) | (go_at_call 22; (with_reducible refine (cG _ (hB2.below (GW.grow _)).g).mono ?_); rintro e w3 ⟨rfl, hb⟩; (first | obtain ⟨X, rfl⟩ := GW.of2 hb | obtain ⟨X, rfl⟩ := GW.of hb); clear hb) | (go_at_call 22; (with_reducible refine (cG _ hB2.g).mono ?_); rintro e w3 ⟨rfl, hb⟩; (first | obtain ⟨X, rfl⟩ := GW.of2 hb | obtain ⟨X, rfl⟩ := GW.of hb); clear hb) | (go_at_call 22; (with_reducible refine (cH _ (hB2.below (GW.grow _)).g).mono ?_); rintro e w3 ⟨rfl, hb⟩; (first | obtain ⟨X, rfl⟩ := GW.of2 hb | obtain ⟨X, rfl⟩ := GW.of hb); clear hb) | (go_at_call 22; (with_reducible refine (cH _ hB2.g).mono ?_); rintro e w3 ⟨rfl, hb⟩; (first | obtain ⟨X, rfl⟩ := GW.of2 hb | obtain ⟨X, rfl⟩ := GW.of hb); clear hb) | (go_at_call 14; (with_reducible refine (known_any _ (hB2.below (GW.grow _))).mono ?_); rintro e w3 ⟨rfl, hb⟩; (first | obtain ⟨X, rfl⟩ := GW.of2 hb | obtain ⟨X, rfl⟩ := GW.of hb); clear hb) | (go_at_call 14; (with_reducible refine (known_any _ hB2).mono ?_); rintro e w3 ⟨rfl, hb⟩; (first | obtain ⟨X, rfl⟩ := GW.of2 hb | obtain ⟨X, rfl⟩ := GW.of hb); clear hb))
          go_ret
          exact ⟨rfl, bl_trans hl2 X.grow⟩
      · cases on
        all_goals
          simp only [if_true, Bool.false_eq_true, if_false] at g3
          have hab2 : (a == b) = false := by simpa using hab
          go_enter Tryd.func7, Tryd.ntmps7
          go_wp2_with (first | (go_at_call 10; (with_reducible refine (cW _ hB.g).mono ?_); rintro e w1 ⟨rfl, hb⟩; (first | obtain ⟨X, rfl⟩ := GW.of2 hb | obtain ⟨X, rfl⟩ := GW.of hb); clear hb) | (go_at_call 21; (with_reducible refine (cS _ (hB.below (GW.grow _)).g).mono ?_); rintro e w1 ⟨rfl, hb⟩; have hl1 : Below w.heap.size w w1 := bl_trans (bl_trans (bl_alloc (Below.refl _ _) _) (GW.grow _)) hb; have hmx : Box w1 w.heap.size _ _ := ((bl_trans (GW.grow _) hb).block w.heap.size (by simp)).trans (Box.new w #[.bool m.aw, .bool m.ori, .bool m.ins, .bool m.vis, .bool m.app, .bool m.pas, .bool m.sgr, .int .i64 m.ptr, .int .i64 m.alt] 23 rfl); have hcm := hmx.cell; have hlm := hmx.lt; have hlm1 := Nat.lt_succ_of_lt hlm; have hB1 := h.below hl1; have hB2 : Gl (w1.alloc (.cells #[.bool r.aw, .bool r.ori, .bool r.ins, .bool r.vis, .bool r.app, .bool r.pas, .bool r.sgr, .int .i64 r.ptr, .int .i64 r.alt] 23)) := hB1.below (bl_alloc (Below.refl _ _) _); have hl2 : Below w.heap.size w (w1.alloc (.cells #[.bool r.aw, .bool r.ori, .bool r.ins, .bool r.vis, .bool r.app, .bool r.pas, .bool r.sgr, .int .i64 r.ptr, .int .i64 r.alt] 23)) := bl_alloc hl1 _; clear hb) | (go_at_call 10; (with_reducible refine (cW2 _ (hB2.below (GW.grow _)).g).mono ?_); rintro e w3 ⟨rfl, hb⟩; (first | obtain ⟨X, rfl⟩ := GW.of2 hb | obtain ⟨X, rfl⟩ := GW.of hb); clear hb) | (go_at_call 10; (with_reducible refine (cW2 _ hB2.g).mono ?_); rintro e w3 ⟨rfl, hb⟩; (first | obtain ⟨X, rfl⟩ := GW.of2 hb | obtain ⟨X, rfl⟩ := GW.of hb); clear hb) | (go_at_call 13; (with_reducible refine (gets_t r _ _ _ 0 _ (hB2.below (GW.grow _)).g g3 g2).mono ?_); rintro e w3 ⟨rfl, hb⟩; (first | obtain ⟨X, rfl⟩ := GW.of2 hb | obtain ⟨X, rfl⟩ := GW.of hb); clear hb) | (go_at_call 13; (with_reducible refine (gets_t r _ _ _ 0 _ hB2.g g3 g2).mono ?_); rintro e w3 ⟨rfl, hb⟩; (first | obtain ⟨X, rfl⟩ := GW.of2 hb | obtain ⟨X, rfl⟩ := GW.of hb); clear hb) | (go_at_call 12; (with_reducible refine (sets_t r _ _ _ r 0 _ (hB2.below (GW.grow _)).g g4 g5).mono ?_); rintro e w3 ⟨rfl, hb⟩; (first | obtain ⟨X, rfl⟩ := GW.of2 hb | obtain ⟨X, rfl⟩ := GW.of hb); clear hb) | (go_at_call 12; (with_reducible refine (sets_t r _ _ _ r 0 _ hB2.g g4 g5).mono ?_); rintro e w3 ⟨rfl, hb⟩; (first | obtain ⟨X, rfl⟩ := GW.of2 hb | obtain ⟨X, rfl⟩ := GW.of hb); clear hb) | (go_at_call 22; (with_reducible refine (cG _ (hB2.below (GW.grow _)).g).mono ?_); rintro e w3 ⟨rfl, hb⟩; (first | obtain ⟨X, rfl⟩ := GW.of2 hb | obtain ⟨X, rfl⟩ := GW.of hb); clear hb) | (go_at_call 22; (with_reducible refine (cG _ hB2.g).mono ?_); rintro e w3 ⟨rfl, hb⟩; (first | obtain ⟨X, rfl⟩ := GW.of2 hb | obtain ⟨X, rfl⟩ := GW.of hb); clear hb) | (go_at_call 22; (with_reducible refine (cH _ (hB2.below (GW.grow _)).g).mono ?_); rintro e w3 ⟨rfl, hb⟩; (first | obtain ⟨X, rfl⟩ := GW.of2 hb | obtain ⟨X, rfl⟩ := GW.of hb); clear hb) | (go_at_call 22; (with_reducible refine (cH _ hB2.g).mono ?_); rintro e w3 ⟨rfl, hb⟩; (first | obtain ⟨X, rfl⟩ := GW.of2 hb | obtain ⟨X, rfl⟩ := GW.of hb); clear hb) | (go_at_call 14; (with_reducible refine (known_any _ (hB2.below (GW.grow _))).mono ?_); rintro e w3 ⟨rfl, hb⟩; (first | obtain ⟨X, rfl⟩ := GW.of2 hb | obtain ⟨X, rfl⟩ := GW.of hb); clear hb) | (go_at_call 14; (with_reducible refine (known_any _ hB2).mono ?_); rintro e w3 ⟨rfl, hb⟩; (first | obtain ⟨X, rfl⟩ := GW.of2 hb | obtain ⟨X, rfl⟩ := GW.of hb); clear hb))
          go_ret
          exact ⟨rfl, bl_trans hl2 X.grow⟩
      · simp only [if_true] at g3
        have hab2 : (a == 2) = false := by simpa using hab
        have hkn : ¬ k = n := fun e => hnn ⟨rfl, e⟩
        have hkn2 : (k == n) = false := by simpa using hkn
        go_enter Tryd.func7, Tryd.ntmps7
        go_wp2_with (first | (go_at_call 10; (with_reducible refine (cW _ hB.g).mono ?_); rintro e w1 ⟨rfl, hb⟩; (first | obtain ⟨X, rfl⟩ := GW.of2 hb | obtain ⟨X, rfl⟩ := GW.of hb); clear hb) | (go_at_call 21; (with_reducible refine (cS _ (hB.below (GW.grow _)).g).mono ?_); rintro e w1 ⟨rfl, hb⟩; have hl1 : Below w.heap.size w w1 := bl_trans (bl_trans (bl_alloc (Below.refl _ _) _) (GW.grow _)) hb; have hmx : Box w1 w.heap.size _ _ := ((bl_trans (GW.grow _) hb).block w.heap.size (by simp)).trans (Box.new w #[.bool m.aw, .bool m.ori, .bool m.ins, .bool m.vis, .bool m.app, .bool m.pas, .bool m.sgr, .int .i64 m.ptr, .int .i64 m.alt] 23 rfl); have hcm := hmx.cell; have hlm := hmx.lt; have hlm1 := Nat.lt_succ_of_lt hlm; have hB1 := h.below hl1; have hB2 : Gl (w1.alloc (.cells #[.bool r.aw, .bool r.ori, .bool r.ins, .bool r.vis, .bool r.app, .bool r.pas, .bool r.sgr, .int .i64 r.ptr, .int .i64 r.alt] 23)) := hB1.below (bl_alloc (Below.refl _ _) _); have hl2 : Below w.heap.size w (w1.alloc (.cells #[.bool r.aw, .bool r.ori, .bool r.ins, .bool r.vis, .bool r.app, .bool r.pas, .bool r.sgr, .int .i64 r.ptr, .int .i64 r.alt] 23)) := bl_alloc hl1 _; clear hb) | (go_at_call 10; (with_reducible refine (cW2 _ (hB2.below (GW.grow _)).g).mono ?_); rintro e w3 ⟨rfl, hb⟩; (first | obtain ⟨X, rfl⟩ := GW.of2 hb | obtain ⟨X, rfl⟩ := GW.of hb); clear hb) | (go_at_call 10; (with_reducible refine (cW2 _ hB2.g).mono ?_); rintro e w3 ⟨rfl, hb⟩; (first | obtain ⟨X, rfl⟩ := GW.of2 hb | obtain ⟨X, rfl⟩ := GW.of hb); clear hb) | (go_at_call 13; (with_reducible refine (gets_t r _ _ _ 0 _ (hB2.below (GW.grow _)).g g3 g2).mono ?_); rintro e w3 ⟨rfl, hb⟩; (first | obtain ⟨X, rfl⟩ := GW.of2 hb | obtain ⟨X, rfl⟩ := GW.of hb); clear hb) | (go_at_call 13; (with_reducible refine (gets_t r _ _ _ 0 _ hB2.g g3 g2).mono ?_); rintro e w3 ⟨rfl, hb⟩; (first | obtain ⟨X, rfl⟩ := GW.of2 hb | obtain ⟨X, rfl⟩ := GW.of hb); clear hb) | (go_at_call 12; (with_reducible refine (sets_t r _ _ _ r 0 _ (hB2.below (GW.grow _)).g g4 g5).mono ?_); rintro e w3 ⟨rfl, hb⟩; (first | obtain ⟨X, rfl⟩ := GW.of2 hb | obtain ⟨X, rfl⟩ := GW.of hb); clear hb) | (go_at_call 12; (with_reducible refine (sets_t r _ _ _ r 0 _ hB2.g g4 g5).mono ?_); rintro e w3 ⟨rfl, hb⟩; (first | obtain ⟨X, rfl⟩ := GW.of2 hb | obtain ⟨X, rfl⟩ := GW.of hb); clear hb) | (go_at_call 22; (with_reducible refine (cG _ (hB2.below (GW.grow _)).g).mono ?_); rintro e w3 ⟨rfl, hb⟩; (first | obtain ⟨X, rfl⟩ := GW.of2 hb | obtain ⟨X, rfl⟩ := GW.of hb); clear hb) | (go_at_call 22; (with_reducible refine (cG _ hB2.g).mono ?_); rintro e w3 ⟨rfl, hb⟩; (first | obtain ⟨X, rfl⟩ := GW.of2 hb | obtain ⟨X, rfl⟩ := GW.of hb); clear hb) | (go_at_call 22; (with_reducible refine (cH _ (hB2.below (GW.grow _)).g).mono ?_); rintro e w3 ⟨rfl, hb⟩; (first | obtain ⟨X, rfl⟩ := GW.of2 hb | obtain ⟨X, rfl⟩ := GW.of hb); clear hb) | (go_at_call 22; (with_reducible refine (cH _ hB2.g).mono ?_); rintro e w3 ⟨rfl, hb⟩; (first | obtain ⟨X, rfl⟩ := GW.of2 hb | obtain ⟨X, rfl⟩ := GW.of hb); clear hb) | (go_at_call 14; (with_reducible refine (known_any _ (hB2.below (GW.grow _))).mono ?_); rintro e w3 ⟨rfl, hb⟩; (first | obtain ⟨X, rfl⟩ := GW.of2 hb | obtain ⟨X, rfl⟩ := GW.of hb); clear hb) | (go_at_call 14; (with_reducible refine (known_any _ hB2).mono ?_); rintro e w3 ⟨rfl, hb⟩; (first | obtain ⟨X, rfl⟩ := GW.of2 hb | obtain ⟨X, rfl⟩ := GW.of hb); clear hb))
        go_ret
        exact ⟨rfl, bl_trans hl2 X.grow⟩

set_option maxRecDepth 100000 in
theorem modesHolds_lifted (os : Os) (started : os.Started) (H : Type) (enc : TypeId × Value → H) :
    ReturnsInHanded {} Tryd.checked os 7 .any (fun w args => (Rows.modesHoldsSpec.pre enc Tryd.prog Tryd.f7 [] false w args ∧ laidMetH Tryd.prog laid6 w) ∧ sizedMet enc Tryd.prog Tryd.f7 (OpenSpec.ofChange Rows.modesHoldsSpec) false w args)
      (Rows.modesHoldsSpec.post enc Tryd.prog Tryd.f7 false true false false) := by
  refine returnsInHanded_of_change_and (C := Tryd.checked) (X := fun w _ => laidMetH Tryd.prog laid6 w) (fun _ _ _ hh h => h.of_heap hh) Tryd.own started (by kernel_rfl) Tryd.func7
    (ChangeSpec.witness_shaped (enc := enc) (C := Tryd.checked) (os := os) (X := fun w _ => laidMetH Tryd.prog laid6 w) false (World.doorLaid Tryd.prog 400 os) #[.agg #[.bool false, .bool false, .bool false, .bool false, .bool false, .bool false, .bool false, .int .i64 0, .int .i64 0], .int .i32 0, .int .i64 0, .bool false, .int .i32 0, .int .i64 0] 8 rfl (World.shaped_of_RefB (by kernel_rfl) (by kernel_rfl)) (by kernel_rfl) (by kernel_rfl) (by kernel_rfl) (door_met os _)) ?_
  intro W base args ds gs before hval0 hW _ _ hL _
  have hval : ∀ (j : Nat) t v, Tryd.f7.params[j]? = some t → args[j]? = some v → Value.okWide Tryd.prog W .any base t v := hval0
  have hW' := hW
  obtain ⟨p, q, hA0, hV, rfl, hfz, hnd⟩ := hW
  have hA : DataW.TrodAll enc Tryd.prog W 0 (fun _ => true) true Tryd.f7.params.toList args.toList ds p := hA0
  rw [Tryd.params7] at hA hval
  obtain ⟨v0, v1, v2, v3, v4, v5, d0, d1, d2, d3, d4, d5, p0, p1, p2, p3, p4, p5, rfl, rfl, rfl, h0, h1, h2, h3, h4, h5⟩ := trodAll_six hA
  obtain ⟨rfl, rfl⟩ := trodVars_none hV
  obtain ⟨m, rfl⟩ := open_modes (hval 0 23 v0 rfl rfl) h0
  obtain ⟨p, rfl, hp⟩ := open_num Tryd.underlying21 (hval 1 21 v1 rfl rfl) h1
  obtain ⟨n, rfl, hn⟩ := open_num Tryd.underlying3 (hval 2 3 v2 rfl rfl) h2
  obtain ⟨on, rfl, rfl, rfl⟩ := open_bool Tryd.underlying4 (hval 3 4 v3 rfl rfl) h3
  obtain ⟨q', rfl, hq⟩ := open_num Tryd.underlying21 (hval 4 21 v4 rfl rfl) h4
  obtain ⟨k, rfl, hk⟩ := open_num Tryd.underlying3 (hval 5 3 v5 rfl rfl) h5
  clear hA0 hval0
  have hT := gl_of_laid hL
  refine (modesHolds_any m p n on q' k W hT).mono fun e W' ⟨he, hw⟩ => ?_
  exact ⟨_, he, post_law Tryd.laidOut rfl hW' (by kernel_rfl) rfl Tryd.underlying4 rfl hw⟩

theorem modesHolds_row : Rows.ModesHoldsSaid :=
  OpenClaim.holds_of_wide 7 Tryd.f7 rfl rfl rfl rfl rfl rfl rfl ⟨rfl, rfl, rfl, rfl, rfl⟩ rfl rfl rfl rfl rfl (by kernel_rfl) Tryd.func7 (by kernel_rfl)
    (of_decide_eq_true (by kernel_rfl)) (by unfold Func.isWrapper; first | (rw [if_pos (by decide +kernel)]; kernel_rfl) | (rw [if_neg (by decide +kernel)]; exact ⟨rfl, rfl⟩))
    (fun os started H enc _ => modesHolds_lifted os started H enc)

set_option maxHeartbeats 8000000 in
set_option maxRecDepth 100000 in
/-- THE TIED CARD. -/
theorem modesHolds_holds : Rows.ModesHoldsCardSaid :=
  Claim7.holds_tied_plain_at .later [] [.data, .data, .data, .widerDeep, .widerDeep, .data] true (true, "082af3f8aacec7cf6ea860407a8f5c1359f35139287309ad6771865f650f040d") false
    modesHolds_row (fun _ h => by cases h) (by kernel_rfl) (fun _ h => by cases h) modesHolds_row_tie rfl ⟨rfl, rfl⟩ (by kernel_rfl) rfl
    (fun f fn hf hfn => by
      obtain rfl : f = 7 := Option.some.inj ((show Tryd.prog.funcNamed "scrollback/scrollbacklaw22.ModesHolds" = some 7 by kernel_rfl).symm.trans hf) |>.symm
      obtain rfl : fn = Tryd.f7 := (Option.some.inj (Tryd.func7.symm.trans hfn)).symm
      exact ⟨by kernel_rfl, fun j t ht => by
        rw [Tryd.params7] at ht
        have hm : t ∈ [23, 21, 3, 4, 21, 3] := by simpa using Array.mem_of_getElem? ht
        have hall : ([23, 21, 3, 4, 21, 3].all fun u => !Tryd.prog.wantsStandIn u) = true := by kernel_rfl
        exact (show Tryd.prog.wantsStandIn t = false by simpa using List.all_eq_true.1 hall t hm)⟩)
    (by kernel_rfl)

end Go.Proofs.YtcmflmmidipckaaDoor
