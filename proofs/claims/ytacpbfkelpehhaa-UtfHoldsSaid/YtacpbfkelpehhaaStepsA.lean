/- utf: UtfSteps returns true for every input. No condition. -/
import Derived.Test.YtacpbfkelpehhaaDecodes
set_option linter.unusedSimpArgs false
set_option linter.unusedVariables false
set_option linter.unnecessarySimpa false
namespace Go.Proofs.Ytacpbfkelpehhaa
open Go.ChangeShapes Go.WideShapes Go.ChangeAt Go.RowKit
attribute [local go_sem ↓] Go.wp_at_zero Go.wp_at_succ

/-- A store into a slice of the call's own. -/
theorem Own.store {w : World} {B g : Nat} {E : TypeId} {k : IntKind} {v : Value} {xs : List Int} (h : Own w B E k v xs) (hg : v.ownBlock = some g) (j : Nat) (hj : j < xs.length) (y : Int) : Own (w.setCell ⟨g, j, none⟩ (.int k y)) B E k v (xs.set j y) := by
  rcases h.2 with ⟨rfl, h0⟩ | ⟨g', cap, cur, rfl, hb, hgg, hnc, hcm, hcs, ht⟩
  · simp [Value.ownBlock] at hg
  · simp [Value.ownBlock] at hg
    subst hg
    refine ⟨by simp, .inr ⟨g', cap, cur.setIfInBounds j (.int k y), by simp, hb, heap_setCell_same w g' j cur E _ hgg, by simpa using hnc, hcm, by simpa using hcs, ?_⟩⟩
    rw [List.length_set, List.map_set, ← ht]
    simp only [Array.toList_setIfInBounds]
    rw [List.take_set]
theorem Own.cellAt {w : World} {B g : Nat} {E : TypeId} {k : IntKind} {v : Value} {xs : List Int} (h : Own w B E k v xs) (hg : v.ownBlock = some g) (j : Nat) (hj : j < xs.length) : w.cell? ⟨g, j, none⟩ = some (.int k xs[j]) ∧ w.frozen? ⟨g, j, none⟩ = false ∧ g < w.heap.size := by
  rcases h.2 with ⟨rfl, h0⟩ | ⟨g', cap, cur, rfl, hb, hgg, hnc, hcm, hcs, ht⟩
  · simp [Value.ownBlock] at hg
  · simp [Value.ownBlock] at hg
    subst hg
    refine ⟨?_, frozen_of_row w g' j cur E hgg, (Array.getElem?_eq_some_iff.1 hgg).1⟩
    rw [cell_of_row w g' j cur E (0, 0) hgg]
    have h1 : (xs.map (Value.int k))[j]? = some (.int k xs[j]) := by simp [hj]
    rw [← ht, List.getElem?_take] at h1
    split at h1
    · simpa using h1
    · cases h1
theorem Own.shape {w : World} {B : Nat} {E : TypeId} {k : IntKind} {v : Value} {xs : List Int} (h : Own w B E k v xs) : (v = .slice none 0 0 ∧ xs = []) ∨ ∃ g cap, v = .slice (some ⟨g, 0, none⟩) xs.length cap ∧ xs.length ≤ cap ∧ cap ≤ maxLen := by
  rcases h.2 with ⟨h1, h0⟩ | ⟨g', cap, cur, h1, hb, hgg, hnc, hcm, hcs, ht⟩
  · exact .inl ⟨h1, List.eq_nil_of_length_eq_zero h0⟩
  · exact .inr ⟨g', cap, h1, hnc, hcm⟩

set_option maxRecDepth 100000 in
set_option maxHeartbeats 2000000 in
theorem utfSteps_any (v : Value) (xs : List Int) (at0 : Int) (w : World) (h : Rd w .u8 v xs) (hby : ∀ x ∈ xs, Byte x) :
    Calls Try.prog 7 #[v, .int .i64 at0] w fun e w' => e = .returned (.bool true) ∧ Below w.heap.size w w' := by
  obtain ⟨p, cap, rfl, l1, m1, c1⟩ := h
  unfold maxLen at m1
  by_cases hl : 100 < xs.length
  · clear c1
    go_enter Try.func7, Try.ntmps7
    go_wp2_with (go_at_call 9; refine (known_any _).mono ?_; rintro e wk ⟨rfl, hbk⟩)
    go_ret
    exact ⟨rfl, hbk⟩
  · go_enter Try.func7, Try.ntmps7
    go_wp2_with fail
    go_loopw [5, 24] (fun dv i wr => ∃ (k D : Nat) (bv sv : Value), k ≤ xs.length ∧ i = .int .i64 k ∧ dv = .pointer (some ⟨D, 0, none⟩) ∧ DecV wr D 35 [] bv (feedS [] (xs.take k)) ∧ Box wr (w.heap.size + 1) #[sv] 41 ∧ Rd wr .u8 sv (feedS [] (xs.take k)) ∧ D ≠ w.heap.size + 1 ∧ w.heap.size ≤ D ∧ (∀ g, bv.ownBlock = some g → g ≠ w.heap.size + 1) ∧ (∀ g, sv.ownBlock = some g → g ≠ D ∧ g ≠ w.heap.size + 1) ∧ Below w.heap.size w wr) (fun _ i _ => xs.length - (intOf i).toNat)
    case atStart => exact ⟨0, w.heap.size, .slice none 0 0, .slice none 0 0, by omega, rfl, rfl, (DecV.zero w _ rfl).below ((Below.refl _ _).alloc (Nat.le_refl _) _), Box.new _ _ _ (by simp), Rd.nil _ _, by omega, Nat.le_refl _, fun g h => by simp [Value.ownBlock] at h, fun g h => by simp [Value.ownBlock] at h, bl_alloc (bl_alloc (Below.refl _ _) _) _⟩
    case round =>
      obtain ⟨k, D, bv, sv, hk, rfl, rfl, hd0, hbS0, hsv0, hDS, hDw, hnb, hns, hbl0⟩ := hrel
      by_cases hlt : k < xs.length
      · obtain ⟨b1, o1, rfl, q1, d1⟩ := Rd.at c1 l1 hlt
        have d3 : wr.cell? ⟨b1, o1 + k, none⟩ = some (.int .u8 xs[k]) := by rw [hbl0.cell (p := ⟨b1, _, none⟩) q1]; exact d1
        clear c1 d1
        have r1 : (0 : Int) ≤ (k : Int) := by omega
        have r2 : (k : Int) < (xs.length : Int) := by omega
        have hwk : Wf (feedS [] (xs.take k)) := feedS_wf _ _ .nil (fun c hc => hby c (List.mem_of_mem_take hc))
        have hbk : Byte xs[k] := hby _ (List.getElem_mem _)
        have es := Lib.hid (feedS_succ [] xs k hlt)
        have hls : (stepS (feedS [] (xs.take k)) xs[k]).length ≤ 3 := (stepS_wf _ _ hwk hbk).len
        have hD0 := hd0.lt
        have hw0 := hbl0.size
        have hS0 := Box.lt hbS0
        obtain ⟨p0, n0, k0, hs0⟩ := hsv0.shape
        subst hs0
        by_cases hat : (k : Int) = at0
        · have hat2 : ((k : Int) == at0) = true := by simpa using hat
          clear hat
          have hx : ∀ g, bv.ownBlock = some g → g ≠ D := fun g hg e => by
            obtain ⟨_, _, _, _, hrr, happ, _⟩ := hd0
            obtain ⟨pp, nn', cc, hsh⟩ := hrr.shape
            subst hsh
            cases pp with
            | none => simp [Value.ownBlock] at hg
            | some a =>
              obtain ⟨q, cq, hq, _, _, h3⟩ := hrr
              injection hq with hq1 _ _
              subst hq1
              rcases h3 with ⟨h3, _⟩ | ⟨b', o', h3, _⟩
              · cases h3
              · injection h3 with h3; subst h3; simp [Value.ownBlock] at hg; exact happ _ _ _ _ rfl (hg.trans e)
          have hdo := hd0
          have hsvo := hsv0
          have hbSo := hbS0
          have hblo := hbl0
          have hxi := hd0.rd.in
          clear hd0 hsv0 hbS0 hbl0
          have s1 := Box.cell hbSo
          have hXS : wr.heap.size ≠ w.heap.size + 1 := by omega
          have hXw : w.heap.size ≤ wr.heap.size := by omega
          go_wp2_with (first | (go_at_call 20; (with_reducible refine (copy_any _ _ _ _ hdo).mono ?_); rintro e w1 ⟨rfl, hdx1, hb1⟩; have hdo1 := hdo.below hb1; have hbs1 := hb1.size; have hx1 := hdx1.lt) | (go_at_call 21; (with_reducible refine (step_any _ _ _ _ (feedS [] (xs.take k)) 226 _ hdo1 hwk hwk.bytes (by simp [Byte])).mono ?_); rintro e w2 ⟨_, bva, rfl, _, _, hbar2, hdo2, _⟩; have hdx2 := hdx1.kept hbar2.grown (by simp; omega) (.inr (fun e => hx _ e rfl))) | (go_at_call 21; (with_reducible refine (step_any _ _ _ _ (stepS (feedS [] (xs.take k)) 226) 130 _ hdo2 (stepS_wf _ _ hwk (by simp [Byte])) (stepS_wf _ _ hwk (by simp [Byte])).bytes (by simp [Byte])).mono ?_); rintro e w3 ⟨_, bvb, rfl, _, _, hbar3, _, _⟩; have hd0 := hdx2.kept hbar3.grown (by simp; omega) (.inr (fun e => hx _ e rfl)); clear hdx2 hdx1; have hbS0 := (hbar3.block _ (by omega) (Nat.lt_of_lt_of_le (by omega) hbar2.size)).trans ((hbar2.block _ (by omega) (by omega)).trans ((hb1.block _ hS0).trans hbSo)); have hsv0 := ((hsvo.below hb1).kept hbar2.grown (.inr (fun e => (hns _ e).1 rfl))).kept hbar3.grown (.inr (fun e => (hns _ e).1 rfl)); have hbl0 := Bar.to_below (Bar.to_below (bl_trans hblo hb1) hbar2 hDw) hbar3 hDw; have hq2 := hbar2.size; have hq3 := hbar3.size; clear s1; have s1 := Box.cell hbS0) | (go_at_call 22; (with_reducible refine (rstep_any _ (feedS [] (xs.take k)) xs[k] _ hsv0 hwk hbk).mono ?_); rintro e w4 ⟨nv, v1, rfl, hnv, hnf, hv1, hvf, hb4⟩; obtain ⟨pn, nn, cn, hnv2⟩ := hnv.shape; subst hnv2; have hd5 := (hd0.below hb4).below ((Below.refl _ _).alloc (Nat.le_refl _) (.cells #[.slice pn nn cn] 41)); have hbS5 := Box.alloc ((hb4.block _ (Box.lt hbS0)).trans hbS0) (.cells #[.slice pn nn cn] 41); have hbN5 := Box.new w4 #[.slice pn nn cn] 41 (b := w4.heap.size) rfl; have hnv5 := hnv.below ((Below.refl _ _).alloc (Nat.le_refl _) (.cells #[.slice pn nn cn] 41)); have hv15 := hv1.below ((Below.refl _ _).alloc (Nat.le_refl _) (.cells #[.slice pn nn cn] 41)); have hbl5 := bl_alloc (bl_trans hbl0 hb4) (.cells #[.slice pn nn cn] 41); have hz4 := hb4.size) | (go_at_call 21; (with_reducible refine (step_any _ _ _ _ (feedS [] (xs.take k)) xs[k] _ hd5 hwk hwk.bytes hbk).mono ?_); rintro e w6 ⟨v2, bv2, rfl, hv2, hv2f, hbar6, hd6, hbf⟩; have hbS6 := (hbar6.block _ (by omega) (Box.lt hbS5)).trans hbS5; have hbN6 := (hbar6.block _ (by omega) (Box.lt hbN5)).trans hbN5; have hnv6 := hnv5.kept hbar6.grown (.inr (fun e => by have := hnv.fresh hnf _ e; omega)); have hv16 := hv15.kept hbar6.grown (.inr (fun e => by have := hv1.fresh hvf _ e; omega)); have hbl6 := Bar.to_below hbl5 hbar6 hXw) | (go_at_call 10; (with_reducible refine (same_true _ _ _ _ _ hv2 hv16 (Lib.hid rfl)).mono ?_); rintro e w7 ⟨rfl, hb7⟩; have hbS7 := (hb7.block _ (Box.lt hbS6)).trans hbS6; have hbN7 := (hb7.block _ (Box.lt hbN6)).trans hbN6; have hd7 := hd6.below hb7; have hnv7 := hnv6.below hb7; have hbl7 := bl_trans hbl6 hb7; have y1 := Box.cell hbS7; have y2 := Box.free hbS7; have y3 := Box.lt hbS7; have z1 := Box.cell hbN7; have z2 := Box.free hbN7; have z3 := Box.lt hbN7; have hbar8 : Bar (w.heap.size + 1) w7 (w7.setCell ⟨w.heap.size + 1, 0, none⟩ (.slice pn nn cn)) := Bar.set (Bar.refl _ _) 0 _; have hz6 := hbar6.size; have hz7 := hb7.size; have hz5 : w4.heap.size + 1 = (w4.alloc (.cells #[.slice pn nn cn] 41)).heap.size := by simp) | (go_at_call 18; (with_reducible refine (pending_any _ _ _ _ _ _ (hd7.kept hbar8.grown (by simp; omega) (.inr (fun e => by have := hd6.rd.fresh hbf _ e; omega))) hls).mono ?_); rintro e w9 ⟨u, rfl, hu, hb9⟩; have kc1 := run_str (P := Try.prog) 22 9 5 Try.underlying22 Try.underlying5 Try.underlying9 hu.rd; have hnv9 := (hnv7.kept hbar8.grown (.inr (fun e => by have := hnv.fresh hnf _ e; omega))).below hb9; have kc2 := run_str (P := Try.prog) 22 9 5 Try.underlying22 Try.underlying5 Try.underlying9 hnv9; have hd9 := (hd7.kept hbar8.grown (by simp; omega) (.inr (fun e => by have := hd6.rd.fresh hbf _ e; omega))).below hb9; have hbS9 := (hb9.block _ (Box.lt (Box.set hbS7 0 (.slice pn nn cn)))).trans (Box.as (Box.set hbS7 0 (.slice pn nn cn)) (ds := #[.slice pn nn cn]) (by simp)); clear y1 y2 y3 z1 z2 z3; have y1 := Box.cell hbS9; have y2 := Box.free hbS9; have y3 := Box.lt hbS9; have hbl9 := bl_trans (hbl7.setCell (by simp) _) hb9; have hb9s := hb9.size; have hz8 : (w7.setCell ⟨w.heap.size + 1, 0, none⟩ (.slice pn nn cn)).heap.size = w7.heap.size := (by simp); obtain ⟨pu, cu, eu, hu1, hu2, _⟩ := hu.rd; subst eu))
          unfold maxLen at hu2
          clear kc1 kc2
          generalize hnn : (stepS (feedS [] (xs.take k)) xs[k]).length = n at *
          have HN := Lib.hid hnn
          clear hnn
          obtain ⟨wo, hwo⟩ : ∃ wo : World, wo = wr := ⟨_, rfl⟩
          subst hwo
          go_loopw [13, 64] (fun u13 i wr => ∃ (j : Nat) (ys : List Int), j ≤ n ∧ i = .int .i64 j ∧ ys.length = n ∧ Own wr (w7.setCell ⟨w.heap.size + 1, 0, none⟩ (.slice pn nn cn)).heap.size 5 .u8 (.slice pu n cu) ys ∧ w9.grownBy wr (Value.slice pu n cu).ownBlock) (fun _ i _ => n - (intOf i).toNat)
          case atStart => exact ⟨0, _, by omega, rfl, HN.out, hu, ⟨rfl, rfl, rfl, Nat.le_refl _, fun _ _ _ => rfl⟩⟩
          case round =>
            obtain ⟨j, ys, hj, rfl, hys, hoy, hgr⟩ := hrel
            by_cases hjl : j < n
            · rcases hoy.shape with ⟨_, h0⟩ | ⟨g, cap, hsh, hgc, _⟩
              · rw [h0] at hys; simp at hys; omega
              · injection hsh with h1 h2 h3
                subst h1 h3
                obtain ⟨q1, q2, q3⟩ := hoy.cellAt (g := g) rfl j (by omega)
                have hst := hoy.store (g := g) rfl j (by omega)
                have r1 : (0 : Int) ≤ (j : Int) := by omega
                have r2 : (j : Int) < (n : Int) := by omega
                generalize ys[j]'(by omega) = yv at q1
                have HY := Lib.hid hys
                clear hys
                go_wp2_with fail
                go_roundw
                have hgg : ∀ y, w9.grownBy (wr.setCell ⟨g, j, none⟩ (.int .u8 y)) (some g) := fun y => ⟨hgr.os, hgr.tape, hgr.output, by simpa using hgr.size, fun k hk hne => (heap_set_past wr g j k _ (fun e => hne (by rw [e]))).trans (hgr.block k hk hne)⟩
                case rel => first | exact ⟨j + 1, ys.set j _, by omega, by go_num, by simpa using HY.out, hst _, hgg _⟩ | ((repeat apply Exists.intro); exact ⟨⟨j + 1, ys.set j _, by omega, by go_num, by simpa using HY.out, hst _, hgg _⟩, rfl⟩)
                case measure => simp [intOf]; omega
            · go_wp2_with fail
              go_roundw
              have hub := hu.block
              have hrel2 : DecV wr wo.heap.size 35 [] bv2 (feedS [] (xs.take (k + 1))) ∧ Box wr (w.heap.size + 1) #[.slice pn nn cn] 41 ∧ Rd wr .u8 (.slice pn nn cn) (feedS [] (xs.take (k + 1))) ∧ wo.heap.size ≠ w.heap.size + 1 ∧ w.heap.size ≤ wo.heap.size ∧ (∀ g, bv2.ownBlock = some g → g ≠ w.heap.size + 1) ∧ (∀ g, (Value.slice pn nn cn).ownBlock = some g → g ≠ wo.heap.size ∧ g ≠ w.heap.size + 1) ∧ Below w.heap.size w wr := by
                rw [es.out]
                refine ⟨hd9.kept hgr (fun e => by have := (hub _ e).1; omega) ?_, (hgr.block _ y3 (fun e => by have := (hub _ e.symm).1; omega)).trans hbS9, hnv9.kept hgr ?_, hXS, hXw, fun g hg => by have := hd6.rd.fresh hbf g hg; omega, fun g hg => by have := hnv.fresh hnf g hg; omega, app_below hbl9 hgr (fun g h => by have := (hub g h).1; omega)⟩
                · cases hbo : bv2.ownBlock with
                  | none => exact .inl rfl
                  | some g => exact .inr (fun e => by have := (hub g e.symm).1; have := hd7.rd.in g hbo; omega)
                · cases hbo : (Value.slice pn nn cn).ownBlock with
                  | none => exact .inl rfl
                  | some g => exact .inr (fun e => by have := (hub g e.symm).1; have := hnv7.in g hbo; omega)
              case rel => first | exact ⟨k + 1, wo.heap.size, bv2, .slice pn nn cn, by omega, by go_num, rfl, hrel2⟩ | ((repeat apply Exists.intro); exact ⟨⟨k + 1, wo.heap.size, bv2, .slice pn nn cn, by omega, by go_num, rfl, hrel2⟩, rfl⟩)
              case measure => simp [intOf]; omega
        · have s1 := Box.cell hbS0
          have hat2 : ((k : Int) == at0) = false := by simpa using hat
          clear hat
          go_wp2_with (first | (go_at_call 22; (with_reducible refine (rstep_any _ (feedS [] (xs.take k)) xs[k] _ hsv0 hwk hbk).mono ?_); rintro e w4 ⟨nv, v1, rfl, hnv, hnf, hv1, hvf, hb4⟩; obtain ⟨pn, nn, cn, hnv2⟩ := hnv.shape; subst hnv2; have hd5 := (hd0.below hb4).below ((Below.refl _ _).alloc (Nat.le_refl _) (.cells #[.slice pn nn cn] 41)); have hbS5 := Box.alloc ((hb4.block _ (Box.lt hbS0)).trans hbS0) (.cells #[.slice pn nn cn] 41); have hbN5 := Box.new w4 #[.slice pn nn cn] 41 (b := w4.heap.size) rfl; have hnv5 := hnv.below ((Below.refl _ _).alloc (Nat.le_refl _) (.cells #[.slice pn nn cn] 41)); have hv15 := hv1.below ((Below.refl _ _).alloc (Nat.le_refl _) (.cells #[.slice pn nn cn] 41)); have hbl5 := bl_alloc (bl_trans hbl0 hb4) (.cells #[.slice pn nn cn] 41); have hz4 := hb4.size) | (go_at_call 21; (with_reducible refine (step_any _ _ _ _ (feedS [] (xs.take k)) xs[k] _ hd5 hwk hwk.bytes hbk).mono ?_); rintro e w6 ⟨v2, bv2, rfl, hv2, hv2f, hbar6, hd6, hbf⟩; have hbS6 := (hbar6.block _ (by omega) (Box.lt hbS5)).trans hbS5; have hbN6 := (hbar6.block _ (by omega) (Box.lt hbN5)).trans hbN5; have hnv6 := hnv5.kept hbar6.grown (.inr (fun e => by have := hnv.fresh hnf _ e; omega)); have hv16 := hv15.kept hbar6.grown (.inr (fun e => by have := hv1.fresh hvf _ e; omega)); have hbl6 := Bar.to_below hbl5 hbar6 hDw) | (go_at_call 10; (with_reducible refine (same_true _ _ _ _ _ hv2 hv16 (Lib.hid rfl)).mono ?_); rintro e w7 ⟨rfl, hb7⟩; have hbS7 := (hb7.block _ (Box.lt hbS6)).trans hbS6; have hbN7 := (hb7.block _ (Box.lt hbN6)).trans hbN6; have hd7 := hd6.below hb7; have hnv7 := hnv6.below hb7; have hbl7 := bl_trans hbl6 hb7; have y1 := Box.cell hbS7; have y2 := Box.free hbS7; have y3 := Box.lt hbS7; have z1 := Box.cell hbN7; have z2 := Box.free hbN7; have z3 := Box.lt hbN7; have hbar8 : Bar (w.heap.size + 1) w7 (w7.setCell ⟨w.heap.size + 1, 0, none⟩ (.slice pn nn cn)) := Bar.set (Bar.refl _ _) 0 _; have hz6 := hbar6.size; have hz7 := hb7.size; have hz5 : w4.heap.size + 1 = (w4.alloc (.cells #[.slice pn nn cn] 41)).heap.size := by simp) | (go_at_call 18; (with_reducible refine (pending_any _ _ _ _ _ _ (hd7.kept hbar8.grown (by simp; omega) (.inr (fun e => by have := hd6.rd.fresh hbf _ e; omega))) hls).mono ?_); rintro e w9 ⟨u, rfl, hu, hb9⟩; have kc1 := run_str (P := Try.prog) 22 9 5 Try.underlying22 Try.underlying5 Try.underlying9 hu.rd; have hnv9 := (hnv7.kept hbar8.grown (.inr (fun e => by have := hnv.fresh hnf _ e; omega))).below hb9; have kc2 := run_str (P := Try.prog) 22 9 5 Try.underlying22 Try.underlying5 Try.underlying9 hnv9; have hd9 := (hd7.kept hbar8.grown (by simp; omega) (.inr (fun e => by have := hd6.rd.fresh hbf _ e; omega))).below hb9; have hbS9 := (hb9.block _ (Box.lt (Box.set hbS7 0 (.slice pn nn cn)))).trans (Box.as (Box.set hbS7 0 (.slice pn nn cn)) (ds := #[.slice pn nn cn]) (by simp)); clear y1 y2 y3 z1 z2 z3; have y1 := Box.cell hbS9; have y2 := Box.free hbS9; have y3 := Box.lt hbS9; have hbl9 := bl_trans (hbl7.setCell (by simp) _) hb9; have hb9s := hb9.size; have hz8 : (w7.setCell ⟨w.heap.size + 1, 0, none⟩ (.slice pn nn cn)).heap.size = w7.heap.size := (by simp); obtain ⟨pu, cu, eu, hu1, hu2, _⟩ := hu.rd; subst eu))
          unfold maxLen at hu2
          clear kc1 kc2
          generalize hnn : (stepS (feedS [] (xs.take k)) xs[k]).length = n at *
          have HN := Lib.hid hnn
          clear hnn
          obtain ⟨wo, hwo⟩ : ∃ wo : World, wo = wr := ⟨_, rfl⟩
          subst hwo
          go_loopw [13, 64] (fun u13 i wr => ∃ (j : Nat) (ys : List Int), j ≤ n ∧ i = .int .i64 j ∧ ys.length = n ∧ Own wr (w7.setCell ⟨w.heap.size + 1, 0, none⟩ (.slice pn nn cn)).heap.size 5 .u8 (.slice pu n cu) ys ∧ w9.grownBy wr (Value.slice pu n cu).ownBlock) (fun _ i _ => n - (intOf i).toNat)
          case atStart => exact ⟨0, _, by omega, rfl, HN.out, hu, ⟨rfl, rfl, rfl, Nat.le_refl _, fun _ _ _ => rfl⟩⟩
          case round =>
            obtain ⟨j, ys, hj, rfl, hys, hoy, hgr⟩ := hrel
            by_cases hjl : j < n
            · rcases hoy.shape with ⟨_, h0⟩ | ⟨g, cap, hsh, hgc, _⟩
              · rw [h0] at hys; simp at hys; omega
              · injection hsh with h1 h2 h3
                subst h1 h3
                obtain ⟨q1, q2, q3⟩ := hoy.cellAt (g := g) rfl j (by omega)
                have hst := hoy.store (g := g) rfl j (by omega)
                have r1 : (0 : Int) ≤ (j : Int) := by omega
                have r2 : (j : Int) < (n : Int) := by omega
                generalize ys[j]'(by omega) = yv at q1
                have HY := Lib.hid hys
                clear hys
                go_wp2_with fail
                go_roundw
                have hgg : ∀ y, w9.grownBy (wr.setCell ⟨g, j, none⟩ (.int .u8 y)) (some g) := fun y => ⟨hgr.os, hgr.tape, hgr.output, by simpa using hgr.size, fun k hk hne => (heap_set_past wr g j k _ (fun e => hne (by rw [e]))).trans (hgr.block k hk hne)⟩
                case rel => first | exact ⟨j + 1, ys.set j _, by omega, by go_num, by simpa using HY.out, hst _, hgg _⟩ | ((repeat apply Exists.intro); exact ⟨⟨j + 1, ys.set j _, by omega, by go_num, by simpa using HY.out, hst _, hgg _⟩, rfl⟩)
                case measure => simp [intOf]; omega
            · go_wp2_with fail
              go_roundw
              have hub := hu.block
              have hrel2 : DecV wr D 35 [] bv2 (feedS [] (xs.take (k + 1))) ∧ Box wr (w.heap.size + 1) #[.slice pn nn cn] 41 ∧ Rd wr .u8 (.slice pn nn cn) (feedS [] (xs.take (k + 1))) ∧ D ≠ w.heap.size + 1 ∧ w.heap.size ≤ D ∧ (∀ g, bv2.ownBlock = some g → g ≠ w.heap.size + 1) ∧ (∀ g, (Value.slice pn nn cn).ownBlock = some g → g ≠ D ∧ g ≠ w.heap.size + 1) ∧ Below w.heap.size w wr := by
                rw [es.out]
                refine ⟨hd9.kept hgr (fun e => by have := (hub _ e).1; omega) ?_, (hgr.block _ y3 (fun e => by have := (hub _ e.symm).1; omega)).trans hbS9, hnv9.kept hgr ?_, hDS, hDw, fun g hg => by have := hd6.rd.fresh hbf g hg; omega, fun g hg => by have := hnv.fresh hnf g hg; omega, app_below hbl9 hgr (fun g h => by have := (hub g h).1; omega)⟩
                · cases hbo : bv2.ownBlock with
                  | none => exact .inl rfl
                  | some g => exact .inr (fun e => by have := (hub g e.symm).1; have := hd7.rd.in g hbo; omega)
                · cases hbo : (Value.slice pn nn cn).ownBlock with
                  | none => exact .inl rfl
                  | some g => exact .inr (fun e => by have := (hub g e.symm).1; have := hnv7.in g hbo; omega)
              case rel => first | exact ⟨k + 1, D, bv2, .slice pn nn cn, by omega, by go_num, rfl, hrel2⟩ | ((repeat apply Exists.intro); exact ⟨⟨k + 1, D, bv2, .slice pn nn cn, by omega, by go_num, rfl, hrel2⟩, rfl⟩)
              case measure => simp [intOf]; omega
      · have hS0 := Box.lt hbS0
        have s1 := Box.cell hbS0
        rw [List.take_of_length_le (by omega)] at hd0 hsv0
        have hwf : Wf (feedS [] xs) := feedS_wf _ _ .nil hby
        obtain ⟨pq, cq, eq1, _, _, _⟩ := hsv0
        subst eq1
        clear c1
        by_cases hn : feedS [] xs = []
        · rw [hn] at hd0 s1
          clear hn
          simp only [List.length_nil] at s1
          go_wp2_with (first | (go_at_call 19; (with_reducible refine (end_c _ _ _ _ [] [] _ hd0 (by decide)).mono ?_); rintro e w1 ⟨v, bv1, rfl, hv, hvf, hbar1, hd1, hbf⟩; obtain ⟨p1, c1, e1, _, _, _⟩ := hv; subst e1; have hl1 := Bar.to_below hbl0 hbar1 hDw; clear hd0) | (go_at_call 18; (with_reducible refine (pending_any _ _ _ _ _ _ hd1 (by simp)).mono ?_); rintro e w2 ⟨v2, rfl, hv2, hb2⟩; obtain ⟨p2, c2, e2, _, _, _⟩ := hv2.rd; subst e2; have hd2 := hd1.below hb2; have hl2 := bl_trans hl1 hb2; clear hd1) | (go_at_call 19; (with_reducible refine (end_c _ _ _ _ [] [] _ hd2 (by decide)).mono ?_); rintro e w3 ⟨v3, bv3, rfl, hv3, hvf3, hbar3, hd3, hbf3⟩; obtain ⟨p3, c3, e3, _, _, _⟩ := hv3; subst e3; have hl3 := Bar.to_below hl2 hbar3 hDw; clear hd2) | (go_at_call 9; refine (known_any _).mono ?_; rintro e wk ⟨rfl, hbk⟩))
          go_ret
          exact ⟨rfl, bl_trans hl3 hbk⟩
        · have hpos := List.length_pos_iff.2 hn
          have hE : Hid (endO (feedS [] xs) = [65533]) := by unfold Hid; simp [endO, hn]
          have zz : decide ((0 : Int) < ((feedS [] xs).length : Int)) = true := by rw [decide_eq_true_eq]; omega
          clear hn
          go_wp2_with (first | (go_at_call 19; (with_reducible refine (end_c _ _ _ _ (feedS [] xs) [65533] _ hd0 hE.out).mono ?_); rintro e w1 ⟨v, bv1, rfl, hv, hvf, hbar1, hd1, hbf⟩; obtain ⟨p1, c1, e1, hc1, hc2, hc3⟩ := hv; subst e1; obtain ⟨b9, o9, hp9, hlt9, hcell9⟩ := Rd.at hc3 hc1 (i := 0) (by simp); subst hp9; simp only [Nat.add_zero, List.getElem_cons_zero] at hcell9; clear hc3; simp only [List.length_cons, List.length_nil, Nat.zero_add] at hc1; unfold maxLen at hc2; have hl1 := Bar.to_below hbl0 hbar1 hDw; clear hd0) | (go_at_call 18; (with_reducible refine (pending_any _ _ _ _ _ _ hd1 (by simp)).mono ?_); rintro e w2 ⟨v2, rfl, hv2, hb2⟩; obtain ⟨p2, c2, e2, _, _, _⟩ := hv2.rd; subst e2; have hd2 := hd1.below hb2; have hl2 := bl_trans hl1 hb2; clear hd1) | (go_at_call 19; (with_reducible refine (end_c _ _ _ _ [] [] _ hd2 (by decide)).mono ?_); rintro e w3 ⟨v3, bv3, rfl, hv3, hvf3, hbar3, hd3, hbf3⟩; obtain ⟨p3, c3, e3, _, _, _⟩ := hv3; subst e3; have hl3 := Bar.to_below hl2 hbar3 hDw; clear hd2) | (go_at_call 9; refine (known_any _).mono ?_; rintro e wk ⟨rfl, hbk⟩))
          go_ret
          exact ⟨rfl, bl_trans hl3 hbk⟩

theorem open_int {H : Type} {enc : TypeId × Value → H} {W : World} {b0 : Nat} {r : Reach} {v : Value} {d : DataW H} {p : List MemPlace} (_hv : Value.okWide Try.prog W r b0 3 v)
    (h : DataW.Trod enc Try.prog W 0 (fun _ => true) true 3 v d p) : ∃ n, v = .int .i64 n ∧ (Lit.int .i64 n).wf = true := by
  obtain ⟨fuel, hf⟩ := h
  obtain ⟨n, h1, _, h2⟩ := DataW.trod_int Try.underlying3 hf
  refine ⟨n, ?_, h2⟩
  have hv := _hv
  simp only [Value.okWide, Try.underlying3, Cell.okWide] at hv
  cases v <;> simp_all [Cell.ok, Value.cells]

set_option maxRecDepth 100000 in
theorem utfSteps_lifted (os : Os) (started : os.Started) (H : Type) (enc : TypeId × Value → H) :
    ReturnsInHanded {} Try.checked os 7 .any (Rows.utfStepsSpec.pre6 enc Try.prog Try.f7 Rows.utfStepsRow.domain false) (Rows.utfStepsSpec.post enc Try.prog Try.f7 false true false false) := by
  refine returnsInHanded_of_change (C := Try.checked) Try.own started (by kernel_rfl) Try.func7
    (ChangeSpec.witness6 (enc := enc) (C := Try.checked) false ⟨#[], #[.slice none 0 0, .int .i64 0], []⟩ 8 (by kernel_rfl) (by kernel_rfl) (by kernel_rfl) (by kernel_rfl)) ?_
  intro W base args ds gs before hval0 hW hcnd _
  have hval : ∀ (j : Nat) t v, Try.f7.params[j]? = some t → args[j]? = some v → Value.okWide Try.prog W .any base t v := hval0
  have hW' := hW
  obtain ⟨p, q, hA0, hV, rfl, hfz, hnd⟩ := hW
  have hA : DataW.TrodAll enc Try.prog W 0 (fun _ => true) true Try.f7.params.toList args.toList ds p := hA0
  rw [Try.params7] at hA hval
  obtain ⟨v0, v1, d0, d1, p0, p1, rfl, rfl, rfl, h0, h1⟩ := trodAll_two hA
  obtain ⟨rfl, rfl⟩ := trodVars_none hV
  obtain ⟨xs, hx, hw⟩ := open_rd (k := .u8) Try.underlying22 Try.underlying5 (by kernel_rfl) (hval 0 _ v0 rfl rfl) h0
  obtain ⟨n, hn, _⟩ := open_int (hval 1 _ v1 rfl rfl) h1
  subst hn
  clear hA0 hval0
  refine (utfSteps_any v0 xs n W hx (fun n hn => wf_byte (hw n hn))).mono fun e W' ⟨he, hw⟩ => ?_
  exact ⟨_, he, post_law Try.laidOut rfl hW' (by kernel_rfl) rfl Try.underlying4 rfl hw⟩

theorem utfSteps_holds : Rows.UtfStepsSaid :=
  OpenClaim.holds_of_wide 7 Try.f7 rfl rfl rfl rfl rfl rfl rfl ⟨rfl, rfl, rfl, rfl, rfl⟩ rfl rfl rfl rfl rfl (by kernel_rfl) Try.func7 (by kernel_rfl)
    (of_decide_eq_true (by kernel_rfl)) (by unfold Func.isWrapper; rw [if_neg (of_decide_eq_false (by kernel_rfl))]; exact ⟨rfl, rfl⟩)
    (fun os started H enc _ => utfSteps_lifted os started H enc)

end Go.Proofs.Ytacpbfkelpehhaa
