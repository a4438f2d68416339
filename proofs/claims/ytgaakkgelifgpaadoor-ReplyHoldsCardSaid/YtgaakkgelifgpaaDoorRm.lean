/- reply: the walk of ReplyHolds. -/
import Derived.Test.YtgaakkgelifgpaaDoorRk
import Derived.Outline
set_option linter.unusedSimpArgs false
set_option linter.unusedVariables false
set_option linter.unnecessarySimpa false
namespace Go.Proofs.YtgaakkgelifgpaaDoor
open Go.RowKit

theorem numbers_pos (a b : Int) (w : World) (ha : 0 ≤ a ∧ a < 10000) (hb : 0 ≤ b ∧ b < 10000) : Calls Tryd.prog 17 #[.string (posS a b)] w fun e w' => e = .returned (.tuple #[.int .i64 a, .int .i64 b, .bool true]) ∧ Below w.heap.size w w' := by
  obtain ⟨n, rfl⟩ : ∃ n : Nat, a = n := ⟨a.toNat, by omega⟩
  obtain ⟨k, rfl⟩ : ∃ n : Nat, b = n := ⟨b.toNat, by omega⟩
  have h := numbers_t (Lib.decDigits n) (Lib.decDigits k) (posS (n : Int) (k : Int)) w (posS_list n k) (dec_digit n) (dec_digit k) (dec_ne n) (dec_ne k) (by rw [valD_dec]; omega) (by rw [valD_dec]; omega) (by have := posS_size (n : Int) (k : Int) (by omega) (by omega) (by omega) (by omega); omega)
  rw [valD_dec, valD_dec] at h
  exact h
structure FourNew (w w1 : World) (c0 c1 c2 c3 : Array Value) : Prop where
  bl : Below w.heap.size w w1
  x0 : Box w1 w.heap.size c0 44
  x1 : Box w1 (w.heap.size + 1) c1 25
  x2 : Box w1 (w.heap.size + 1 + 1) c2 27
  x3 : Box w1 (w.heap.size + 1 + 1 + 1) c3 38
theorem FourNew.below {w w1 w2 : World} {c0 c1 c2 c3 : Array Value} (h : FourNew w w1 c0 c1 c2 c3) (hb : Below w1.heap.size w1 w2) : FourNew w w2 c0 c1 c2 c3 :=
  ⟨bl_trans h.bl hb, (hb.block _ h.x0.lt).trans h.x0, (hb.block _ h.x1.lt).trans h.x1, (hb.block _ h.x2.lt).trans h.x2, (hb.block _ h.x3.lt).trans h.x3⟩
theorem FourNew.start (w : World) (c0 c1 c2 c3 : Array Value) : FourNew w ((((w.alloc (.cells c0 44)).alloc (.cells c1 25)).alloc (.cells c2 27)).alloc (.cells c3 38)) c0 c1 c2 c3 := by
  obtain ⟨a, b, c, d, e⟩ := four_new w _ c0 c1 c2 c3 44 25 27 38 (Below.refl _ _)
  exact ⟨a, b, c, d, e⟩

set_option maxHeartbeats 8000000 in
set_option maxRecDepth 100000 in
theorem rh_A (kind rune pre : Int) (inter text : ByteArray) (v : Value) (xs : List Int) (rows cols top bottom : Int) (o : Bool) (r c : Int) (p : Bool) (m : Md) (pf n : Int) (w : World) (hv : Rd w .i64 v xs) (hin : inter.size ≤ 140737488355328) (hG : Gl w) (hl : xs.length ≤ 20) (hq : Mo.validB rows cols top bottom r c p = false) : Calls Tryd.prog 5 #[.agg #[.int .i64 kind, .int .i32 rune, .int .i32 pre, .string inter, v, .string text], .agg #[.int .i64 rows, .int .i64 cols, .int .i64 top, .int .i64 bottom, .bool o], .agg #[.int .i64 r, .int .i64 c, .bool p], .agg #[.bool m.aw, .bool m.ori, .bool m.ins, .bool m.vis, .bool m.app, .bool m.pas, .bool m.sgr, .int .i64 m.ptr, .int .i64 m.alt], .int .i32 pf, .int .i64 n] w fun e w' => e = .returned (.bool true) ∧ Below w.heap.size w w' := by
  obtain ⟨p1, cap1, rfl, l1, m1, c1⟩ := id hv
  clear c1
  have hl' : ¬ (20 : Int) < (xs.length : Int) := by omega
  have cA := fun W (hb : Below w.heap.size w W) => ans_any kind rune pre inter text (.slice p1 xs.length cap1) xs rows cols top bottom o r c p m W (hv.below hb) hin (hG.below hb).g (hG.below hb).t
  unfold AnsE at cA
  obtain ⟨hpl, hsz⟩ := ans_plain kind rune pre inter (firstP xs) rows cols top bottom o r c p m
  obtain ⟨sA, hsA⟩ : ∃ q, ansP kind rune pre inter (firstP xs) rows cols top bottom o r c p m = q := ⟨_, rfl⟩
  rw [hsA] at cA hpl hsz
  clear hsA
  obtain ⟨sa, ea⟩ := sA
  simp only at cA hpl hsz
  have cP := fun W => plain_t sa W hpl (by omega)
  clear hpl hsz
  have cV := fun W => Mo.validRef_any rows cols top bottom o r c p W
  have F0 := FourNew.start w #[.int .i64 kind, .int .i32 rune, .int .i32 pre, .string inter, .slice p1 xs.length cap1, .string text] #[.int .i64 rows, .int .i64 cols, .int .i64 top, .int .i64 bottom, .bool o] #[.int .i64 r, .int .i64 c, .bool p] #[.bool m.aw, .bool m.ori, .bool m.ins, .bool m.vis, .bool m.app, .bool m.pas, .bool m.sgr, .int .i64 m.ptr, .int .i64 m.alt]
  have y00 := F0.x0.cell; have y10 := F0.x1.cell; have y20 := F0.x2.cell; have y30 := F0.x3.cell; have z00 := F0.x0.lt; have z10 := F0.x1.lt; have z20 := F0.x2.lt; have z30 := F0.x3.lt
  rw [hq] at cV
  go_enter Tryd.func5, Tryd.ntmps5
  go_wp2_with (first | (go_at_call 13; (with_reducible refine (cA _ F0.bl).mono ?_); rintro e w1 ⟨rfl, hb1⟩; have F1 := F0.below hb1; clear y00 y10 y20 y30 z00 z10 z20 z30; have y01 := F1.x0.cell; have y11 := F1.x1.cell; have y21 := F1.x2.cell; have y31 := F1.x3.cell; have z01 := F1.x0.lt; have z11 := F1.x1.lt; have z21 := F1.x2.lt; have z31 := F1.x3.lt) | (go_at_call 14; (with_reducible refine (cP _).mono ?_); rintro e w2 ⟨rfl, hb2⟩; have F2 := F1.below hb2; clear y01 y11 y21 y31 z01 z11 z21 z31; have y02 := F2.x0.cell; have y12 := F2.x1.cell; have y22 := F2.x2.cell; have y32 := F2.x3.cell; have z02 := F2.x0.lt; have z12 := F2.x1.lt; have z22 := F2.x2.lt; have z32 := F2.x3.lt) | (go_at_call 15; (with_reducible refine (cV _).mono ?_); rintro e w3 ⟨rfl, hb3⟩; have F3 := F2.below hb3; clear y02 y12 y22 y32 z02 z12 z22 z32; have y03 := F3.x0.cell; have y13 := F3.x1.cell; have y23 := F3.x2.cell; have y33 := F3.x3.cell; have z03 := F3.x0.lt; have z13 := F3.x1.lt; have z23 := F3.x2.lt; have z33 := F3.x3.lt))
  obtain ⟨b9, hb9⟩ : ∃ b9, w3.heap.size = b9 := ⟨_, rfl⟩
  have FL : FourNew w (w3.alloc (.cells #[.bool true, .bool false] 4)) _ _ _ _ := F3.below (bl_alloc (Below.refl _ _) _)
  have xL : Box (w3.alloc (.cells #[.bool true, .bool false] 4)) b9 #[.bool true, .bool false] 4 := Box.new _ _ _ hb9.symm
  rw [hb9]
  generalize w3.alloc (.cells #[.bool true, .bool false] 4) = W0 at *
  clear hb9 F3
  clear y03 y13 y23 y33 z03 z13 z23 z33 cA cP cV
  go_loopw [115] (fun i wr => ∃ (j : Nat), j ≤ 2 ∧ i = .int .i64 j ∧ FourNew w wr #[.int .i64 kind, .int .i32 rune, .int .i32 pre, .string inter, .slice p1 xs.length cap1, .string text] #[.int .i64 rows, .int .i64 cols, .int .i64 top, .int .i64 bottom, .bool o] #[.int .i64 r, .int .i64 c, .bool p] #[.bool m.aw, .bool m.ori, .bool m.ins, .bool m.vis, .bool m.app, .bool m.pas, .bool m.sgr, .int .i64 m.ptr, .int .i64 m.alt] ∧ Box wr b9 #[.bool true, .bool false] 4) (fun i _ => 2 - (intOf i).toNat)
  case atStart => exact ⟨0, by omega, rfl, FL, xL⟩
  case round =>
    obtain ⟨j, hj, rfl, F0, xr⟩ := hrel
    clear FL xL
    have y00 := F0.x0.cell; have y10 := F0.x1.cell; have y20 := F0.x2.cell; have y30 := F0.x3.cell; have z00 := F0.x0.lt; have z10 := F0.x1.lt; have z20 := F0.x2.lt; have z30 := F0.x3.lt
    have cr := xr.cell
    have lr := xr.lt
    have g0 := hG.below F0.bl
    by_cases hlt : j < 2
    · have hj2 : j = 0 ∨ j = 1 := by omega
      rcases hj2 with rfl | rfl
      · have cS := fun W (h : Gl W) => set_any m pf n true W h.g
        by_cases hE : setE m pf n = 0
        · obtain ⟨k1, k2, k3, k4⟩ := after_set m pf n true hE
          have cM := fun W (h : Gl W) => mode_any (setR m pf n true) pf n W h.g h.t
          simp only [Bool.false_eq_true, ↓reduceIte] at k1
          rw [k1, k2] at cM
          have hpl := modeT_plain pf n 1 k3 (by omega)
          have hsz := modeT_size pf n 1 (by omega) (by omega) (by omega) (by omega)
          rw [hE] at cS
          clear hE k1 k2
          generalize setR m pf n true = y at *
          obtain ⟨S, hS, i1, i2, i3⟩ : ∃ S, modeT pf n 1 = S ∧ ∃ hb : S.size - 3 < S.size, 6 ≤ S.size ∧ S[S.size - 3].toNat = 49 := ⟨_, rfl, mode_last pf n true ⟨k3, k4⟩⟩
          rw [hS] at cM hpl hsz
          clear hS
          have i4 : ¬ (S.size : Int) < 6 := by omega
          have i5 : IntKind.i64.wrap ((S.size : Int) - 3) = (S.size : Int) - 3 := IntWalk.i64_in _ (by omega)
          have cP := fun W => plain_t S W hpl (by omega)
          clear hpl hsz
          go_wp2_with (first | (go_at_call 19; (with_reducible refine (cS _ g0).mono ?_); rintro e w1 ⟨rfl, hb1⟩; have F1 := F0.below (bl_trans hb1 (bl_alloc (Below.refl _ _) (.cells #[.bool y.aw, .bool y.ori, .bool y.ins, .bool y.vis, .bool y.app, .bool y.pas, .bool y.sgr, .int .i64 y.ptr, .int .i64 y.alt] 38))); have xr1 : Box (w1.alloc (.cells #[.bool y.aw, .bool y.ori, .bool y.ins, .bool y.vis, .bool y.app, .bool y.pas, .bool y.sgr, .int .i64 y.ptr, .int .i64 y.alt] 38)) b9 _ _ := Box.alloc (show Box w1 b9 _ _ from (hb1.block _ lr).trans xr) _; have cr1 := xr1.cell; have lr1 := xr1.lt; have g1 := hG.below F1.bl; clear y00 y10 y20 y30 z00 z10 z20 z30; have y01 := F1.x0.cell; have y11 := F1.x1.cell; have y21 := F1.x2.cell; have y31 := F1.x3.cell; have z01 := F1.x0.lt; have z11 := F1.x1.lt; have z21 := F1.x2.lt; have z31 := F1.x3.lt) | (go_at_call 20; (with_reducible refine (cM _ g1).mono ?_); rintro e w2 ⟨rfl, hb2⟩; have F2 := F1.below hb2; have xr2 : Box w2 b9 _ _ := (hb2.block _ lr1).trans xr1; clear y01 y11 y21 y31 z01 z11 z21 z31; have y02 := F2.x0.cell; have y12 := F2.x1.cell; have y22 := F2.x2.cell; have y32 := F2.x3.cell; have z02 := F2.x0.lt; have z12 := F2.x1.lt; have z22 := F2.x2.lt; have z32 := F2.x3.lt) | (go_at_call 14; (with_reducible refine (cP _).mono ?_); rintro e w3 ⟨rfl, hb3⟩; have F3 := F2.below hb3; have xr3 : Box w3 b9 _ _ := (hb3.block _ xr2.lt).trans xr2))
          go_roundw
          case rel => exact ⟨1, by omega, by go_num, F3, xr3⟩
          case measure => simp [intOf]
        · have hE' : (setE m pf n == 0) = false := by simpa using hE
          have hE2 : (setE m pf n != 0) = true := by simpa using hE
          generalize setE m pf n = se at *
          go_wp2_with (go_at_call 19; (with_reducible refine (cS _ g0).mono ?_); rintro e w1 ⟨rfl, hb1⟩)
          go_roundw
          case rel => exact ⟨1, by omega, by go_num, F0.below (bl_trans hb1 (bl_alloc (Below.refl _ _) _)), Box.alloc (show Box w1 b9 _ _ from (hb1.block _ lr).trans xr) _⟩
          case measure => simp [intOf]
      · have cS := fun W (h : Gl W) => set_any m pf n false W h.g
        by_cases hE : setE m pf n = 0
        · obtain ⟨k1, k2, k3, k4⟩ := after_set m pf n false hE
          have cM := fun W (h : Gl W) => mode_any (setR m pf n false) pf n W h.g h.t
          simp only [Bool.false_eq_true, ↓reduceIte] at k1
          rw [k1, k2] at cM
          have hpl := modeT_plain pf n 2 k3 (by omega)
          have hsz := modeT_size pf n 2 (by omega) (by omega) (by omega) (by omega)
          rw [hE] at cS
          clear hE k1 k2
          generalize setR m pf n false = y at *
          obtain ⟨S, hS, i1, i2, i3⟩ : ∃ S, modeT pf n 2 = S ∧ ∃ hb : S.size - 3 < S.size, 6 ≤ S.size ∧ S[S.size - 3].toNat = 50 := ⟨_, rfl, mode_last pf n false ⟨k3, k4⟩⟩
          rw [hS] at cM hpl hsz
          clear hS
          have i4 : ¬ (S.size : Int) < 6 := by omega
          have i5 : IntKind.i64.wrap ((S.size : Int) - 3) = (S.size : Int) - 3 := IntWalk.i64_in _ (by omega)
          have cP := fun W => plain_t S W hpl (by omega)
          clear hpl hsz
          go_wp2_with (first | (go_at_call 19; (with_reducible refine (cS _ g0).mono ?_); rintro e w1 ⟨rfl, hb1⟩; have F1 := F0.below (bl_trans hb1 (bl_alloc (Below.refl _ _) (.cells #[.bool y.aw, .bool y.ori, .bool y.ins, .bool y.vis, .bool y.app, .bool y.pas, .bool y.sgr, .int .i64 y.ptr, .int .i64 y.alt] 38))); have xr1 : Box (w1.alloc (.cells #[.bool y.aw, .bool y.ori, .bool y.ins, .bool y.vis, .bool y.app, .bool y.pas, .bool y.sgr, .int .i64 y.ptr, .int .i64 y.alt] 38)) b9 _ _ := Box.alloc (show Box w1 b9 _ _ from (hb1.block _ lr).trans xr) _; have cr1 := xr1.cell; have lr1 := xr1.lt; have g1 := hG.below F1.bl; clear y00 y10 y20 y30 z00 z10 z20 z30; have y01 := F1.x0.cell; have y11 := F1.x1.cell; have y21 := F1.x2.cell; have y31 := F1.x3.cell; have z01 := F1.x0.lt; have z11 := F1.x1.lt; have z21 := F1.x2.lt; have z31 := F1.x3.lt) | (go_at_call 20; (with_reducible refine (cM _ g1).mono ?_); rintro e w2 ⟨rfl, hb2⟩; have F2 := F1.below hb2; have xr2 : Box w2 b9 _ _ := (hb2.block _ lr1).trans xr1; clear y01 y11 y21 y31 z01 z11 z21 z31; have y02 := F2.x0.cell; have y12 := F2.x1.cell; have y22 := F2.x2.cell; have y32 := F2.x3.cell; have z02 := F2.x0.lt; have z12 := F2.x1.lt; have z22 := F2.x2.lt; have z32 := F2.x3.lt) | (go_at_call 14; (with_reducible refine (cP _).mono ?_); rintro e w3 ⟨rfl, hb3⟩; have F3 := F2.below hb3; have xr3 : Box w3 b9 _ _ := (hb3.block _ xr2.lt).trans xr2))
          go_roundw
          case rel => exact ⟨2, by omega, by go_num, F3, xr3⟩
          case measure => simp [intOf]
        · have hE' : (setE m pf n == 0) = false := by simpa using hE
          have hE2 : (setE m pf n != 0) = true := by simpa using hE
          generalize setE m pf n = se at *
          go_wp2_with (go_at_call 19; (with_reducible refine (cS _ g0).mono ?_); rintro e w1 ⟨rfl, hb1⟩)
          go_roundw
          case rel => exact ⟨2, by omega, by go_num, F0.below (bl_trans hb1 (bl_alloc (Below.refl _ _) _)), Box.alloc (show Box w1 b9 _ _ from (hb1.block _ lr).trans xr) _⟩
          case measure => simp [intOf]
    · obtain rfl : j = 2 := by omega
      go_wp2_with (go_at_call 10; (with_reducible refine (known_any _ g0.g g0.t).mono ?_); rintro e w1 ⟨rfl, hb⟩)
      go_ret
      exact ⟨rfl, bl_trans F0.bl hb⟩

set_option maxHeartbeats 8000000 in
set_option maxRecDepth 100000 in
theorem rh_D (kind rune pre : Int) (inter text : ByteArray) (v : Value) (xs : List Int) (rows cols top bottom : Int) (o : Bool) (r c : Int) (p : Bool) (m : Md) (pf n : Int) (w : World) (hv : Rd w .i64 v xs) (hin : inter.size ≤ 140737488355328) (hG : Gl w) (hl : xs.length ≤ 20) (hq : Mo.validB rows cols top bottom r c p = true) (ho : o = true) (ht : ¬ top ≤ r) : Calls Tryd.prog 5 #[.agg #[.int .i64 kind, .int .i32 rune, .int .i32 pre, .string inter, v, .string text], .agg #[.int .i64 rows, .int .i64 cols, .int .i64 top, .int .i64 bottom, .bool o], .agg #[.int .i64 r, .int .i64 c, .bool p], .agg #[.bool m.aw, .bool m.ori, .bool m.ins, .bool m.vis, .bool m.app, .bool m.pas, .bool m.sgr, .int .i64 m.ptr, .int .i64 m.alt], .int .i32 pf, .int .i64 n] w fun e w' => e = .returned (.bool true) ∧ Below w.heap.size w w' := by
  obtain ⟨p1, cap1, rfl, l1, m1, c1⟩ := id hv
  clear c1
  have hl' : ¬ (20 : Int) < (xs.length : Int) := by omega
  have cA := fun W (hb : Below w.heap.size w W) => ans_any kind rune pre inter text (.slice p1 xs.length cap1) xs rows cols top bottom o r c p m W (hv.below hb) hin (hG.below hb).g (hG.below hb).t
  unfold AnsE at cA
  obtain ⟨hpl, hsz⟩ := ans_plain kind rune pre inter (firstP xs) rows cols top bottom o r c p m
  obtain ⟨sA, hsA⟩ : ∃ q, ansP kind rune pre inter (firstP xs) rows cols top bottom o r c p m = q := ⟨_, rfl⟩
  rw [hsA] at cA hpl hsz
  clear hsA
  obtain ⟨sa, ea⟩ := sA
  simp only at cA hpl hsz
  have cP := fun W => plain_t sa W hpl (by omega)
  clear hpl hsz
  have cV := fun W => Mo.validRef_any rows cols top bottom o r c p W
  have F0 := FourNew.start w #[.int .i64 kind, .int .i32 rune, .int .i32 pre, .string inter, .slice p1 xs.length cap1, .string text] #[.int .i64 rows, .int .i64 cols, .int .i64 top, .int .i64 bottom, .bool o] #[.int .i64 r, .int .i64 c, .bool p] #[.bool m.aw, .bool m.ori, .bool m.ins, .bool m.vis, .bool m.app, .bool m.pas, .bool m.sgr, .int .i64 m.ptr, .int .i64 m.alt]
  have y00 := F0.x0.cell; have y10 := F0.x1.cell; have y20 := F0.x2.cell; have y30 := F0.x3.cell; have z00 := F0.x0.lt; have z10 := F0.x1.lt; have z20 := F0.x2.lt; have z30 := F0.x3.lt
  rw [hq] at cV
  subst ho
  go_enter Tryd.func5, Tryd.ntmps5
  go_wp2_with (first | (go_at_call 13; (with_reducible refine (cA _ F0.bl).mono ?_); rintro e w1 ⟨rfl, hb1⟩; have F1 := F0.below hb1; clear y00 y10 y20 y30 z00 z10 z20 z30; have y01 := F1.x0.cell; have y11 := F1.x1.cell; have y21 := F1.x2.cell; have y31 := F1.x3.cell; have z01 := F1.x0.lt; have z11 := F1.x1.lt; have z21 := F1.x2.lt; have z31 := F1.x3.lt) | (go_at_call 14; (with_reducible refine (cP _).mono ?_); rintro e w2 ⟨rfl, hb2⟩; have F2 := F1.below hb2; clear y01 y11 y21 y31 z01 z11 z21 z31; have y02 := F2.x0.cell; have y12 := F2.x1.cell; have y22 := F2.x2.cell; have y32 := F2.x3.cell; have z02 := F2.x0.lt; have z12 := F2.x1.lt; have z22 := F2.x2.lt; have z32 := F2.x3.lt) | (go_at_call 15; (with_reducible refine (cV _).mono ?_); rintro e w3 ⟨rfl, hb3⟩; have F3 := F2.below hb3; clear y02 y12 y22 y32 z02 z12 z22 z32; have y03 := F3.x0.cell; have y13 := F3.x1.cell; have y23 := F3.x2.cell; have y33 := F3.x3.cell; have z03 := F3.x0.lt; have z13 := F3.x1.lt; have z23 := F3.x2.lt; have z33 := F3.x3.lt))
  obtain ⟨b9, hb9⟩ : ∃ b9, w3.heap.size = b9 := ⟨_, rfl⟩
  have FL : FourNew w (w3.alloc (.cells #[.bool true, .bool false] 4)) _ _ _ _ := F3.below (bl_alloc (Below.refl _ _) _)
  have xL : Box (w3.alloc (.cells #[.bool true, .bool false] 4)) b9 #[.bool true, .bool false] 4 := Box.new _ _ _ hb9.symm
  rw [hb9]
  generalize w3.alloc (.cells #[.bool true, .bool false] 4) = W0 at *
  clear hb9 F3
  clear y03 y13 y23 y33 z03 z13 z23 z33 cA cP cV
  go_loopw [115] (fun i wr => ∃ (j : Nat), j ≤ 2 ∧ i = .int .i64 j ∧ FourNew w wr #[.int .i64 kind, .int .i32 rune, .int .i32 pre, .string inter, .slice p1 xs.length cap1, .string text] #[.int .i64 rows, .int .i64 cols, .int .i64 top, .int .i64 bottom, .bool true] #[.int .i64 r, .int .i64 c, .bool p] #[.bool m.aw, .bool m.ori, .bool m.ins, .bool m.vis, .bool m.app, .bool m.pas, .bool m.sgr, .int .i64 m.ptr, .int .i64 m.alt] ∧ Box wr b9 #[.bool true, .bool false] 4) (fun i _ => 2 - (intOf i).toNat)
  case atStart => exact ⟨0, by omega, rfl, FL, xL⟩
  case round =>
    obtain ⟨j, hj, rfl, F0, xr⟩ := hrel
    clear FL xL
    have y00 := F0.x0.cell; have y10 := F0.x1.cell; have y20 := F0.x2.cell; have y30 := F0.x3.cell; have z00 := F0.x0.lt; have z10 := F0.x1.lt; have z20 := F0.x2.lt; have z30 := F0.x3.lt
    have cr := xr.cell
    have lr := xr.lt
    have g0 := hG.below F0.bl
    by_cases hlt : j < 2
    · have hj2 : j = 0 ∨ j = 1 := by omega
      rcases hj2 with rfl | rfl
      · have cS := fun W (h : Gl W) => set_any m pf n true W h.g
        by_cases hE : setE m pf n = 0
        · obtain ⟨k1, k2, k3, k4⟩ := after_set m pf n true hE
          have cM := fun W (h : Gl W) => mode_any (setR m pf n true) pf n W h.g h.t
          simp only [Bool.false_eq_true, ↓reduceIte] at k1
          rw [k1, k2] at cM
          have hpl := modeT_plain pf n 1 k3 (by omega)
          have hsz := modeT_size pf n 1 (by omega) (by omega) (by omega) (by omega)
          rw [hE] at cS
          clear hE k1 k2
          generalize setR m pf n true = y at *
          obtain ⟨S, hS, i1, i2, i3⟩ : ∃ S, modeT pf n 1 = S ∧ ∃ hb : S.size - 3 < S.size, 6 ≤ S.size ∧ S[S.size - 3].toNat = 49 := ⟨_, rfl, mode_last pf n true ⟨k3, k4⟩⟩
          rw [hS] at cM hpl hsz
          clear hS
          have i4 : ¬ (S.size : Int) < 6 := by omega
          have i5 : IntKind.i64.wrap ((S.size : Int) - 3) = (S.size : Int) - 3 := IntWalk.i64_in _ (by omega)
          have cP := fun W => plain_t S W hpl (by omega)
          clear hpl hsz
          go_wp2_with (first | (go_at_call 19; (with_reducible refine (cS _ g0).mono ?_); rintro e w1 ⟨rfl, hb1⟩; have F1 := F0.below (bl_trans hb1 (bl_alloc (Below.refl _ _) (.cells #[.bool y.aw, .bool y.ori, .bool y.ins, .bool y.vis, .bool y.app, .bool y.pas, .bool y.sgr, .int .i64 y.ptr, .int .i64 y.alt] 38))); have xr1 : Box (w1.alloc (.cells #[.bool y.aw, .bool y.ori, .bool y.ins, .bool y.vis, .bool y.app, .bool y.pas, .bool y.sgr, .int .i64 y.ptr, .int .i64 y.alt] 38)) b9 _ _ := Box.alloc (show Box w1 b9 _ _ from (hb1.block _ lr).trans xr) _; have cr1 := xr1.cell; have lr1 := xr1.lt; have g1 := hG.below F1.bl; clear y00 y10 y20 y30 z00 z10 z20 z30; have y01 := F1.x0.cell; have y11 := F1.x1.cell; have y21 := F1.x2.cell; have y31 := F1.x3.cell; have z01 := F1.x0.lt; have z11 := F1.x1.lt; have z21 := F1.x2.lt; have z31 := F1.x3.lt) | (go_at_call 20; (with_reducible refine (cM _ g1).mono ?_); rintro e w2 ⟨rfl, hb2⟩; have F2 := F1.below hb2; have xr2 : Box w2 b9 _ _ := (hb2.block _ lr1).trans xr1; clear y01 y11 y21 y31 z01 z11 z21 z31; have y02 := F2.x0.cell; have y12 := F2.x1.cell; have y22 := F2.x2.cell; have y32 := F2.x3.cell; have z02 := F2.x0.lt; have z12 := F2.x1.lt; have z22 := F2.x2.lt; have z32 := F2.x3.lt) | (go_at_call 14; (with_reducible refine (cP _).mono ?_); rintro e w3 ⟨rfl, hb3⟩; have F3 := F2.below hb3; have xr3 : Box w3 b9 _ _ := (hb3.block _ xr2.lt).trans xr2))
          go_roundw
          case rel => exact ⟨1, by omega, by go_num, F3, xr3⟩
          case measure => simp [intOf]
        · have hE' : (setE m pf n == 0) = false := by simpa using hE
          have hE2 : (setE m pf n != 0) = true := by simpa using hE
          generalize setE m pf n = se at *
          go_wp2_with (go_at_call 19; (with_reducible refine (cS _ g0).mono ?_); rintro e w1 ⟨rfl, hb1⟩)
          go_roundw
          case rel => exact ⟨1, by omega, by go_num, F0.below (bl_trans hb1 (bl_alloc (Below.refl _ _) _)), Box.alloc (show Box w1 b9 _ _ from (hb1.block _ lr).trans xr) _⟩
          case measure => simp [intOf]
      · have cS := fun W (h : Gl W) => set_any m pf n false W h.g
        by_cases hE : setE m pf n = 0
        · obtain ⟨k1, k2, k3, k4⟩ := after_set m pf n false hE
          have cM := fun W (h : Gl W) => mode_any (setR m pf n false) pf n W h.g h.t
          simp only [Bool.false_eq_true, ↓reduceIte] at k1
          rw [k1, k2] at cM
          have hpl := modeT_plain pf n 2 k3 (by omega)
          have hsz := modeT_size pf n 2 (by omega) (by omega) (by omega) (by omega)
          rw [hE] at cS
          clear hE k1 k2
          generalize setR m pf n false = y at *
          obtain ⟨S, hS, i1, i2, i3⟩ : ∃ S, modeT pf n 2 = S ∧ ∃ hb : S.size - 3 < S.size, 6 ≤ S.size ∧ S[S.size - 3].toNat = 50 := ⟨_, rfl, mode_last pf n false ⟨k3, k4⟩⟩
          rw [hS] at cM hpl hsz
          clear hS
          have i4 : ¬ (S.size : Int) < 6 := by omega
          have i5 : IntKind.i64.wrap ((S.size : Int) - 3) = (S.size : Int) - 3 := IntWalk.i64_in _ (by omega)
          have cP := fun W => plain_t S W hpl (by omega)
          clear hpl hsz
          go_wp2_with (first | (go_at_call 19; (with_reducible refine (cS _ g0).mono ?_); rintro e w1 ⟨rfl, hb1⟩; have F1 := F0.below (bl_trans hb1 (bl_alloc (Below.refl _ _) (.cells #[.bool y.aw, .bool y.ori, .bool y.ins, .bool y.vis, .bool y.app, .bool y.pas, .bool y.sgr, .int .i64 y.ptr, .int .i64 y.alt] 38))); have xr1 : Box (w1.alloc (.cells #[.bool y.aw, .bool y.ori, .bool y.ins, .bool y.vis, .bool y.app, .bool y.pas, .bool y.sgr, .int .i64 y.ptr, .int .i64 y.alt] 38)) b9 _ _ := Box.alloc (show Box w1 b9 _ _ from (hb1.block _ lr).trans xr) _; have cr1 := xr1.cell; have lr1 := xr1.lt; have g1 := hG.below F1.bl; clear y00 y10 y20 y30 z00 z10 z20 z30; have y01 := F1.x0.cell; have y11 := F1.x1.cell; have y21 := F1.x2.cell; have y31 := F1.x3.cell; have z01 := F1.x0.lt; have z11 := F1.x1.lt; have z21 := F1.x2.lt; have z31 := F1.x3.lt) | (go_at_call 20; (with_reducible refine (cM _ g1).mono ?_); rintro e w2 ⟨rfl, hb2⟩; have F2 := F1.below hb2; have xr2 : Box w2 b9 _ _ := (hb2.block _ lr1).trans xr1; clear y01 y11 y21 y31 z01 z11 z21 z31; have y02 := F2.x0.cell; have y12 := F2.x1.cell; have y22 := F2.x2.cell; have y32 := F2.x3.cell; have z02 := F2.x0.lt; have z12 := F2.x1.lt; have z22 := F2.x2.lt; have z32 := F2.x3.lt) | (go_at_call 14; (with_reducible refine (cP _).mono ?_); rintro e w3 ⟨rfl, hb3⟩; have F3 := F2.below hb3; have xr3 : Box w3 b9 _ _ := (hb3.block _ xr2.lt).trans xr2))
          go_roundw
          case rel => exact ⟨2, by omega, by go_num, F3, xr3⟩
          case measure => simp [intOf]
        · have hE' : (setE m pf n == 0) = false := by simpa using hE
          have hE2 : (setE m pf n != 0) = true := by simpa using hE
          generalize setE m pf n = se at *
          go_wp2_with (go_at_call 19; (with_reducible refine (cS _ g0).mono ?_); rintro e w1 ⟨rfl, hb1⟩)
          go_roundw
          case rel => exact ⟨2, by omega, by go_num, F0.below (bl_trans hb1 (bl_alloc (Below.refl _ _) _)), Box.alloc (show Box w1 b9 _ _ from (hb1.block _ lr).trans xr) _⟩
          case measure => simp [intOf]
    · obtain rfl : j = 2 := by omega
      go_wp2_with (go_at_call 10; (with_reducible refine (known_any _ g0.g g0.t).mono ?_); rintro e w1 ⟨rfl, hb⟩)
      go_ret
      exact ⟨rfl, bl_trans F0.bl hb⟩

set_option maxHeartbeats 8000000 in
set_option maxRecDepth 100000 in
theorem rh_E (kind rune pre : Int) (inter text : ByteArray) (v : Value) (xs : List Int) (rows cols top bottom : Int) (o : Bool) (r c : Int) (p : Bool) (m : Md) (pf n : Int) (w : World) (hv : Rd w .i64 v xs) (hin : inter.size ≤ 140737488355328) (hG : Gl w) (hl : xs.length ≤ 20) (hq : Mo.validB rows cols top bottom r c p = true) (ho : o = true) (ht : top ≤ r) (hb : ¬ r ≤ bottom) : Calls Tryd.prog 5 #[.agg #[.int .i64 kind, .int .i32 rune, .int .i32 pre, .string inter, v, .string text], .agg #[.int .i64 rows, .int .i64 cols, .int .i64 top, .int .i64 bottom, .bool o], .agg #[.int .i64 r, .int .i64 c, .bool p], .agg #[.bool m.aw, .bool m.ori, .bool m.ins, .bool m.vis, .bool m.app, .bool m.pas, .bool m.sgr, .int .i64 m.ptr, .int .i64 m.alt], .int .i32 pf, .int .i64 n] w fun e w' => e = .returned (.bool true) ∧ Below w.heap.size w w' := by
  obtain ⟨p1, cap1, rfl, l1, m1, c1⟩ := id hv
  clear c1
  have hl' : ¬ (20 : Int) < (xs.length : Int) := by omega
  have cA := fun W (hb : Below w.heap.size w W) => ans_any kind rune pre inter text (.slice p1 xs.length cap1) xs rows cols top bottom o r c p m W (hv.below hb) hin (hG.below hb).g (hG.below hb).t
  unfold AnsE at cA
  obtain ⟨hpl, hsz⟩ := ans_plain kind rune pre inter (firstP xs) rows cols top bottom o r c p m
  obtain ⟨sA, hsA⟩ : ∃ q, ansP kind rune pre inter (firstP xs) rows cols top bottom o r c p m = q := ⟨_, rfl⟩
  rw [hsA] at cA hpl hsz
  clear hsA
  obtain ⟨sa, ea⟩ := sA
  simp only at cA hpl hsz
  have cP := fun W => plain_t sa W hpl (by omega)
  clear hpl hsz
  have cV := fun W => Mo.validRef_any rows cols top bottom o r c p W
  have F0 := FourNew.start w #[.int .i64 kind, .int .i32 rune, .int .i32 pre, .string inter, .slice p1 xs.length cap1, .string text] #[.int .i64 rows, .int .i64 cols, .int .i64 top, .int .i64 bottom, .bool o] #[.int .i64 r, .int .i64 c, .bool p] #[.bool m.aw, .bool m.ori, .bool m.ins, .bool m.vis, .bool m.app, .bool m.pas, .bool m.sgr, .int .i64 m.ptr, .int .i64 m.alt]
  have y00 := F0.x0.cell; have y10 := F0.x1.cell; have y20 := F0.x2.cell; have y30 := F0.x3.cell; have z00 := F0.x0.lt; have z10 := F0.x1.lt; have z20 := F0.x2.lt; have z30 := F0.x3.lt
  rw [hq] at cV
  subst ho
  go_enter Tryd.func5, Tryd.ntmps5
  go_wp2_with (first | (go_at_call 13; (with_reducible refine (cA _ F0.bl).mono ?_); rintro e w1 ⟨rfl, hb1⟩; have F1 := F0.below hb1; clear y00 y10 y20 y30 z00 z10 z20 z30; have y01 := F1.x0.cell; have y11 := F1.x1.cell; have y21 := F1.x2.cell; have y31 := F1.x3.cell; have z01 := F1.x0.lt; have z11 := F1.x1.lt; have z21 := F1.x2.lt; have z31 := F1.x3.lt) | (go_at_call 14; (with_reducible refine (cP _).mono ?_); rintro e w2 ⟨rfl, hb2⟩; have F2 := F1.below hb2; clear y01 y11 y21 y31 z01 z11 z21 z31; have y02 := F2.x0.cell; have y12 := F2.x1.cell; have y22 := F2.x2.cell; have y32 := F2.x3.cell; have z02 := F2.x0.lt; have z12 := F2.x1.lt; have z22 := F2.x2.lt; have z32 := F2.x3.lt) | (go_at_call 15; (with_reducible refine (cV _).mono ?_); rintro e w3 ⟨rfl, hb3⟩; have F3 := F2.below hb3; clear y02 y12 y22 y32 z02 z12 z22 z32; have y03 := F3.x0.cell; have y13 := F3.x1.cell; have y23 := F3.x2.cell; have y33 := F3.x3.cell; have z03 := F3.x0.lt; have z13 := F3.x1.lt; have z23 := F3.x2.lt; have z33 := F3.x3.lt))
  obtain ⟨b9, hb9⟩ : ∃ b9, w3.heap.size = b9 := ⟨_, rfl⟩
  have FL : FourNew w (w3.alloc (.cells #[.bool true, .bool false] 4)) _ _ _ _ := F3.below (bl_alloc (Below.refl _ _) _)
  have xL : Box (w3.alloc (.cells #[.bool true, .bool false] 4)) b9 #[.bool true, .bool false] 4 := Box.new _ _ _ hb9.symm
  rw [hb9]
  generalize w3.alloc (.cells #[.bool true, .bool false] 4) = W0 at *
  clear hb9 F3
  clear y03 y13 y23 y33 z03 z13 z23 z33 cA cP cV
  go_loopw [115] (fun i wr => ∃ (j : Nat), j ≤ 2 ∧ i = .int .i64 j ∧ FourNew w wr #[.int .i64 kind, .int .i32 rune, .int .i32 pre, .string inter, .slice p1 xs.length cap1, .string text] #[.int .i64 rows, .int .i64 cols, .int .i64 top, .int .i64 bottom, .bool true] #[.int .i64 r, .int .i64 c, .bool p] #[.bool m.aw, .bool m.ori, .bool m.ins, .bool m.vis, .bool m.app, .bool m.pas, .bool m.sgr, .int .i64 m.ptr, .int .i64 m.alt] ∧ Box wr b9 #[.bool true, .bool false] 4) (fun i _ => 2 - (intOf i).toNat)
  case atStart => exact ⟨0, by omega, rfl, FL, xL⟩
  case round =>
    obtain ⟨j, hj, rfl, F0, xr⟩ := hrel
    clear FL xL
    have y00 := F0.x0.cell; have y10 := F0.x1.cell; have y20 := F0.x2.cell; have y30 := F0.x3.cell; have z00 := F0.x0.lt; have z10 := F0.x1.lt; have z20 := F0.x2.lt; have z30 := F0.x3.lt
    have cr := xr.cell
    have lr := xr.lt
    have g0 := hG.below F0.bl
    by_cases hlt : j < 2
    · have hj2 : j = 0 ∨ j = 1 := by omega
      rcases hj2 with rfl | rfl
      · have cS := fun W (h : Gl W) => set_any m pf n true W h.g
        by_cases hE : setE m pf n = 0
        · obtain ⟨k1, k2, k3, k4⟩ := after_set m pf n true hE
          have cM := fun W (h : Gl W) => mode_any (setR m pf n true) pf n W h.g h.t
          simp only [Bool.false_eq_true, ↓reduceIte] at k1
          rw [k1, k2] at cM
          have hpl := modeT_plain pf n 1 k3 (by omega)
          have hsz := modeT_size pf n 1 (by omega) (by omega) (by omega) (by omega)
          rw [hE] at cS
          clear hE k1 k2
          generalize setR m pf n true = y at *
          obtain ⟨S, hS, i1, i2, i3⟩ : ∃ S, modeT pf n 1 = S ∧ ∃ hb : S.size - 3 < S.size, 6 ≤ S.size ∧ S[S.size - 3].toNat = 49 := ⟨_, rfl, mode_last pf n true ⟨k3, k4⟩⟩
          rw [hS] at cM hpl hsz
          clear hS
          have i4 : ¬ (S.size : Int) < 6 := by omega
          have i5 : IntKind.i64.wrap ((S.size : Int) - 3) = (S.size : Int) - 3 := IntWalk.i64_in _ (by omega)
          have cP := fun W => plain_t S W hpl (by omega)
          clear hpl hsz
          go_wp2_with (first | (go_at_call 19; (with_reducible refine (cS _ g0).mono ?_); rintro e w1 ⟨rfl, hb1⟩; have F1 := F0.below (bl_trans hb1 (bl_alloc (Below.refl _ _) (.cells #[.bool y.aw, .bool y.ori, .bool y.ins, .bool y.vis, .bool y.app, .bool y.pas, .bool y.sgr, .int .i64 y.ptr, .int .i64 y.alt] 38))); have xr1 : Box (w1.alloc (.cells #[.bool y.aw, .bool y.ori, .bool y.ins, .bool y.vis, .bool y.app, .bool y.pas, .bool y.sgr, .int .i64 y.ptr, .int .i64 y.alt] 38)) b9 _ _ := Box.alloc (show Box w1 b9 _ _ from (hb1.block _ lr).trans xr) _; have cr1 := xr1.cell; have lr1 := xr1.lt; have g1 := hG.below F1.bl; clear y00 y10 y20 y30 z00 z10 z20 z30; have y01 := F1.x0.cell; have y11 := F1.x1.cell; have y21 := F1.x2.cell; have y31 := F1.x3.cell; have z01 := F1.x0.lt; have z11 := F1.x1.lt; have z21 := F1.x2.lt; have z31 := F1.x3.lt) | (go_at_call 20; (with_reducible refine (cM _ g1).mono ?_); rintro e w2 ⟨rfl, hb2⟩; have F2 := F1.below hb2; have xr2 : Box w2 b9 _ _ := (hb2.block _ lr1).trans xr1; clear y01 y11 y21 y31 z01 z11 z21 z31; have y02 := F2.x0.cell; have y12 := F2.x1.cell; have y22 := F2.x2.cell; have y32 := F2.x3.cell; have z02 := F2.x0.lt; have z12 := F2.x1.lt; have z22 := F2.x2.lt; have z32 := F2.x3.lt) | (go_at_call 14; (with_reducible refine (cP _).mono ?_); rintro e w3 ⟨rfl, hb3⟩; have F3 := F2.below hb3; have xr3 : Box w3 b9 _ _ := (hb3.block _ xr2.lt).trans xr2))
          go_roundw
          case rel => exact ⟨1, by omega, by go_num, F3, xr3⟩
          case measure => simp [intOf]
        · have hE' : (setE m pf n == 0) = false := by simpa using hE
          have hE2 : (setE m pf n != 0) = true := by simpa using hE
          generalize setE m pf n = se at *
          go_wp2_with (go_at_call 19; (with_reducible refine (cS _ g0).mono ?_); rintro e w1 ⟨rfl, hb1⟩)
          go_roundw
          case rel => exact ⟨1, by omega, by go_num, F0.below (bl_trans hb1 (bl_alloc (Below.refl _ _) _)), Box.alloc (show Box w1 b9 _ _ from (hb1.block _ lr).trans xr) _⟩
          case measure => simp [intOf]
      · have cS := fun W (h : Gl W) => set_any m pf n false W h.g
        by_cases hE : setE m pf n = 0
        · obtain ⟨k1, k2, k3, k4⟩ := after_set m pf n false hE
          have cM := fun W (h : Gl W) => mode_any (setR m pf n false) pf n W h.g h.t
          simp only [Bool.false_eq_true, ↓reduceIte] at k1
          rw [k1, k2] at cM
          have hpl := modeT_plain pf n 2 k3 (by omega)
          have hsz := modeT_size pf n 2 (by omega) (by omega) (by omega) (by omega)
          rw [hE] at cS
          clear hE k1 k2
          generalize setR m pf n false = y at *
          obtain ⟨S, hS, i1, i2, i3⟩ : ∃ S, modeT pf n 2 = S ∧ ∃ hb : S.size - 3 < S.size, 6 ≤ S.size ∧ S[S.size - 3].toNat = 50 := ⟨_, rfl, mode_last pf n false ⟨k3, k4⟩⟩
          rw [hS] at cM hpl hsz
          clear hS
          have i4 : ¬ (S.size : Int) < 6 := by omega
          have i5 : IntKind.i64.wrap ((S.size : Int) - 3) = (S.size : Int) - 3 := IntWalk.i64_in _ (by omega)
          have cP := fun W => plain_t S W hpl (by omega)
          clear hpl hsz
          go_wp2_with (first | (go_at_call 19; (with_reducible refine (cS _ g0).mono ?_); rintro e w1 ⟨rfl, hb1⟩; have F1 := F0.below (bl_trans hb1 (bl_alloc (Below.refl _ _) (.cells #[.bool y.aw, .bool y.ori, .bool y.ins, .bool y.vis, .bool y.app, .bool y.pas, .bool y.sgr, .int .i64 y.ptr, .int .i64 y.alt] 38))); have xr1 : Box (w1.alloc (.cells #[.bool y.aw, .bool y.ori, .bool y.ins, .bool y.vis, .bool y.app, .bool y.pas, .bool y.sgr, .int .i64 y.ptr, .int .i64 y.alt] 38)) b9 _ _ := Box.alloc (show Box w1 b9 _ _ from (hb1.block _ lr).trans xr) _; have cr1 := xr1.cell; have lr1 := xr1.lt; have g1 := hG.below F1.bl; clear y00 y10 y20 y30 z00 z10 z20 z30; have y01 := F1.x0.cell; have y11 := F1.x1.cell; have y21 := F1.x2.cell; have y31 := F1.x3.cell; have z01 := F1.x0.lt; have z11 := F1.x1.lt; have z21 := F1.x2.lt; have z31 := F1.x3.lt) | (go_at_call 20; (with_reducible refine (cM _ g1).mono ?_); rintro e w2 ⟨rfl, hb2⟩; have F2 := F1.below hb2; have xr2 : Box w2 b9 _ _ := (hb2.block _ lr1).trans xr1; clear y01 y11 y21 y31 z01 z11 z21 z31; have y02 := F2.x0.cell; have y12 := F2.x1.cell; have y22 := F2.x2.cell; have y32 := F2.x3.cell; have z02 := F2.x0.lt; have z12 := F2.x1.lt; have z22 := F2.x2.lt; have z32 := F2.x3.lt) | (go_at_call 14; (with_reducible refine (cP _).mono ?_); rintro e w3 ⟨rfl, hb3⟩; have F3 := F2.below hb3; have xr3 : Box w3 b9 _ _ := (hb3.block _ xr2.lt).trans xr2))
          go_roundw
          case rel => exact ⟨2, by omega, by go_num, F3, xr3⟩
          case measure => simp [intOf]
        · have hE' : (setE m pf n == 0) = false := by simpa using hE
          have hE2 : (setE m pf n != 0) = true := by simpa using hE
          generalize setE m pf n = se at *
          go_wp2_with (go_at_call 19; (with_reducible refine (cS _ g0).mono ?_); rintro e w1 ⟨rfl, hb1⟩)
          go_roundw
          case rel => exact ⟨2, by omega, by go_num, F0.below (bl_trans hb1 (bl_alloc (Below.refl _ _) _)), Box.alloc (show Box w1 b9 _ _ from (hb1.block _ lr).trans xr) _⟩
          case measure => simp [intOf]
    · obtain rfl : j = 2 := by omega
      go_wp2_with (go_at_call 10; (with_reducible refine (known_any _ g0.g g0.t).mono ?_); rintro e w1 ⟨rfl, hb⟩)
      go_ret
      exact ⟨rfl, bl_trans F0.bl hb⟩

set_option maxHeartbeats 8000000 in
set_option maxRecDepth 100000 in
theorem rh_B (kind rune pre : Int) (inter text : ByteArray) (v : Value) (xs : List Int) (rows cols top bottom : Int) (o : Bool) (r c : Int) (p : Bool) (m : Md) (pf n : Int) (w : World) (hv : Rd w .i64 v xs) (hin : inter.size ≤ 140737488355328) (hG : Gl w) (hl : xs.length ≤ 20) (hq : Mo.validB rows cols top bottom r c p = true) (ho : o = false) : Calls Tryd.prog 5 #[.agg #[.int .i64 kind, .int .i32 rune, .int .i32 pre, .string inter, v, .string text], .agg #[.int .i64 rows, .int .i64 cols, .int .i64 top, .int .i64 bottom, .bool o], .agg #[.int .i64 r, .int .i64 c, .bool p], .agg #[.bool m.aw, .bool m.ori, .bool m.ins, .bool m.vis, .bool m.app, .bool m.pas, .bool m.sgr, .int .i64 m.ptr, .int .i64 m.alt], .int .i32 pf, .int .i64 n] w fun e w' => e = .returned (.bool true) ∧ Below w.heap.size w w' := by
  obtain ⟨p1, cap1, rfl, l1, m1, c1⟩ := id hv
  clear c1
  have hl' : ¬ (20 : Int) < (xs.length : Int) := by omega
  have cA := fun W (hb : Below w.heap.size w W) => ans_any kind rune pre inter text (.slice p1 xs.length cap1) xs rows cols top bottom o r c p m W (hv.below hb) hin (hG.below hb).g (hG.below hb).t
  unfold AnsE at cA
  obtain ⟨hpl, hsz⟩ := ans_plain kind rune pre inter (firstP xs) rows cols top bottom o r c p m
  obtain ⟨sA, hsA⟩ : ∃ q, ansP kind rune pre inter (firstP xs) rows cols top bottom o r c p m = q := ⟨_, rfl⟩
  rw [hsA] at cA hpl hsz
  clear hsA
  obtain ⟨sa, ea⟩ := sA
  simp only at cA hpl hsz
  have cP := fun W => plain_t sa W hpl (by omega)
  clear hpl hsz
  have cV := fun W => Mo.validRef_any rows cols top bottom o r c p W
  have F0 := FourNew.start w #[.int .i64 kind, .int .i32 rune, .int .i32 pre, .string inter, .slice p1 xs.length cap1, .string text] #[.int .i64 rows, .int .i64 cols, .int .i64 top, .int .i64 bottom, .bool o] #[.int .i64 r, .int .i64 c, .bool p] #[.bool m.aw, .bool m.ori, .bool m.ins, .bool m.vis, .bool m.app, .bool m.pas, .bool m.sgr, .int .i64 m.ptr, .int .i64 m.alt]
  have y00 := F0.x0.cell; have y10 := F0.x1.cell; have y20 := F0.x2.cell; have y30 := F0.x3.cell; have z00 := F0.x0.lt; have z10 := F0.x1.lt; have z20 := F0.x2.lt; have z30 := F0.x3.lt
  rw [hq] at cV
  have hf := Mo.valid_facts hq
  have hrt : Mo.rightB rows cols top bottom = true := by
    unfold Mo.validB at hq
    simp only [Bool.and_eq_true] at hq
    exact hq.1.1
  have hwr : 1 ≤ whereR top r o ∧ whereR top r o ≤ 2000 := by unfold whereR; split <;> omega
  have cS := fun W (h : Gl W) => status_any 6 rows cols top bottom o r c p W h.t
  have e6 : statS 6 rows cols top bottom o r c p = posS (whereR top r o) (c + 1) := by simp [statS, hq]
  have e7 : statE 6 rows cols top bottom o r c p = 0 := by simp [statE, hq]
  rw [e6, e7] at cS
  have cN := fun W => numbers_pos (whereR top r o) (c + 1) W (by omega) (by omega)
  obtain ⟨g8, g9⟩ := go_back rows cols top bottom r c o p hq (.inl ho)
  have t1 : IntKind.i64.wrap (whereR top r o - 1) = whereR top r o - 1 := IntWalk.i64_in _ (by omega)
  rw [Int.add_sub_cancel] at g9
  have cG := fun W => Mo.go_ok rows cols top bottom o (whereR top r o - 1) c W hrt
  rw [g8, g9] at cG
  clear e6 e7 g8 g9 hrt
  generalize posS (whereR top r o) (c + 1) = sp at *
  generalize whereR top r o = wn at *
  subst ho
  go_enter Tryd.func5, Tryd.ntmps5
  go_wp2_with (first | (go_at_call 13; (with_reducible refine (cA _ F0.bl).mono ?_); rintro e w1 ⟨rfl, hb1⟩; have F1 := F0.below hb1; clear y00 y10 y20 y30 z00 z10 z20 z30; have y01 := F1.x0.cell; have y11 := F1.x1.cell; have y21 := F1.x2.cell; have y31 := F1.x3.cell; have z01 := F1.x0.lt; have z11 := F1.x1.lt; have z21 := F1.x2.lt; have z31 := F1.x3.lt) | (go_at_call 14; (with_reducible refine (cP _).mono ?_); rintro e w2 ⟨rfl, hb2⟩; have F2 := F1.below hb2; clear y01 y11 y21 y31 z01 z11 z21 z31; have y02 := F2.x0.cell; have y12 := F2.x1.cell; have y22 := F2.x2.cell; have y32 := F2.x3.cell; have z02 := F2.x0.lt; have z12 := F2.x1.lt; have z22 := F2.x2.lt; have z32 := F2.x3.lt) | (go_at_call 15; (with_reducible refine (cV _).mono ?_); rintro e w3 ⟨rfl, hb3⟩; have F3 := F2.below hb3; clear y02 y12 y22 y32 z02 z12 z22 z32; have y03 := F3.x0.cell; have y13 := F3.x1.cell; have y23 := F3.x2.cell; have y33 := F3.x3.cell; have z03 := F3.x0.lt; have z13 := F3.x1.lt; have z23 := F3.x2.lt; have z33 := F3.x3.lt) | (go_at_call 16; (with_reducible refine (cS _ (hG.below F3.bl)).mono ?_); rintro e w4 ⟨rfl, hb4⟩; have F4 := F3.below hb4; clear y03 y13 y23 y33 z03 z13 z23 z33; have y04 := F4.x0.cell; have y14 := F4.x1.cell; have y24 := F4.x2.cell; have y34 := F4.x3.cell; have z04 := F4.x0.lt; have z14 := F4.x1.lt; have z24 := F4.x2.lt; have z34 := F4.x3.lt) | (go_at_call 17; (with_reducible refine (cN _).mono ?_); rintro e w5 ⟨rfl, hb5⟩; have F5 := F4.below hb5; clear y04 y14 y24 y34 z04 z14 z24 z34; have y05 := F5.x0.cell; have y15 := F5.x1.cell; have y25 := F5.x2.cell; have y35 := F5.x3.cell; have z05 := F5.x0.lt; have z15 := F5.x1.lt; have z25 := F5.x2.lt; have z35 := F5.x3.lt) | (go_at_call 18; (with_reducible refine (cG _).mono ?_); rintro e w6 ⟨rfl, hb6⟩; have F6 := F5.below (bl_trans hb6 (bl_alloc (Below.refl _ _) (.cells #[.int .i64 r, .int .i64 c, .bool false] 27))); clear y05 y15 y25 y35 z05 z15 z25 z35; have y06 := F6.x0.cell; have y16 := F6.x1.cell; have y26 := F6.x2.cell; have y36 := F6.x3.cell; have z06 := F6.x0.lt; have z16 := F6.x1.lt; have z26 := F6.x2.lt; have z36 := F6.x3.lt))
  obtain ⟨b9, hb9⟩ : ∃ b9, (w6.alloc (.cells #[.int .i64 r, .int .i64 c, .bool false] 27)).heap.size = b9 := ⟨_, rfl⟩
  have FL : FourNew w ((w6.alloc (.cells #[.int .i64 r, .int .i64 c, .bool false] 27)).alloc (.cells #[.bool true, .bool false] 4)) _ _ _ _ := F6.below (bl_alloc (Below.refl _ _) _)
  have xL : Box ((w6.alloc (.cells #[.int .i64 r, .int .i64 c, .bool false] 27)).alloc (.cells #[.bool true, .bool false] 4)) b9 #[.bool true, .bool false] 4 := Box.new _ _ _ hb9.symm
  simp at hb9
  first | rw [hb9] | skip
  generalize (w6.alloc (.cells #[.int .i64 r, .int .i64 c, .bool false] 27)).alloc (.cells #[.bool true, .bool false] 4) = W0 at *
  clear hb9 F6
  clear y06 y16 y26 y36 z06 z16 z26 z36 cA cP cV cS cN cG
  go_loopw [115] (fun i wr => ∃ (j : Nat), j ≤ 2 ∧ i = .int .i64 j ∧ FourNew w wr #[.int .i64 kind, .int .i32 rune, .int .i32 pre, .string inter, .slice p1 xs.length cap1, .string text] #[.int .i64 rows, .int .i64 cols, .int .i64 top, .int .i64 bottom, .bool false] #[.int .i64 r, .int .i64 c, .bool p] #[.bool m.aw, .bool m.ori, .bool m.ins, .bool m.vis, .bool m.app, .bool m.pas, .bool m.sgr, .int .i64 m.ptr, .int .i64 m.alt] ∧ Box wr b9 #[.bool true, .bool false] 4) (fun i _ => 2 - (intOf i).toNat)
  case atStart => exact ⟨0, by omega, rfl, FL, xL⟩
  case round =>
    obtain ⟨j, hj, rfl, F0, xr⟩ := hrel
    clear FL xL
    have y00 := F0.x0.cell; have y10 := F0.x1.cell; have y20 := F0.x2.cell; have y30 := F0.x3.cell; have z00 := F0.x0.lt; have z10 := F0.x1.lt; have z20 := F0.x2.lt; have z30 := F0.x3.lt
    have cr := xr.cell
    have lr := xr.lt
    have g0 := hG.below F0.bl
    by_cases hlt : j < 2
    · have hj2 : j = 0 ∨ j = 1 := by omega
      rcases hj2 with rfl | rfl
      · have cS := fun W (h : Gl W) => set_any m pf n true W h.g
        by_cases hE : setE m pf n = 0
        · obtain ⟨k1, k2, k3, k4⟩ := after_set m pf n true hE
          have cM := fun W (h : Gl W) => mode_any (setR m pf n true) pf n W h.g h.t
          simp only [Bool.false_eq_true, ↓reduceIte] at k1
          rw [k1, k2] at cM
          have hpl := modeT_plain pf n 1 k3 (by omega)
          have hsz := modeT_size pf n 1 (by omega) (by omega) (by omega) (by omega)
          rw [hE] at cS
          clear hE k1 k2
          generalize setR m pf n true = y at *
          obtain ⟨S, hS, i1, i2, i3⟩ : ∃ S, modeT pf n 1 = S ∧ ∃ hb : S.size - 3 < S.size, 6 ≤ S.size ∧ S[S.size - 3].toNat = 49 := ⟨_, rfl, mode_last pf n true ⟨k3, k4⟩⟩
          rw [hS] at cM hpl hsz
          clear hS
          have i4 : ¬ (S.size : Int) < 6 := by omega
          have i5 : IntKind.i64.wrap ((S.size : Int) - 3) = (S.size : Int) - 3 := IntWalk.i64_in _ (by omega)
          have cP := fun W => plain_t S W hpl (by omega)
          clear hpl hsz
          go_wp2_with (first | (go_at_call 19; (with_reducible refine (cS _ g0).mono ?_); rintro e w1 ⟨rfl, hb1⟩; have F1 := F0.below (bl_trans hb1 (bl_alloc (Below.refl _ _) (.cells #[.bool y.aw, .bool y.ori, .bool y.ins, .bool y.vis, .bool y.app, .bool y.pas, .bool y.sgr, .int .i64 y.ptr, .int .i64 y.alt] 38))); have xr1 : Box (w1.alloc (.cells #[.bool y.aw, .bool y.ori, .bool y.ins, .bool y.vis, .bool y.app, .bool y.pas, .bool y.sgr, .int .i64 y.ptr, .int .i64 y.alt] 38)) b9 _ _ := Box.alloc (show Box w1 b9 _ _ from (hb1.block _ lr).trans xr) _; have cr1 := xr1.cell; have lr1 := xr1.lt; have g1 := hG.below F1.bl; clear y00 y10 y20 y30 z00 z10 z20 z30; have y01 := F1.x0.cell; have y11 := F1.x1.cell; have y21 := F1.x2.cell; have y31 := F1.x3.cell; have z01 := F1.x0.lt; have z11 := F1.x1.lt; have z21 := F1.x2.lt; have z31 := F1.x3.lt) | (go_at_call 20; (with_reducible refine (cM _ g1).mono ?_); rintro e w2 ⟨rfl, hb2⟩; have F2 := F1.below hb2; have xr2 : Box w2 b9 _ _ := (hb2.block _ lr1).trans xr1; clear y01 y11 y21 y31 z01 z11 z21 z31; have y02 := F2.x0.cell; have y12 := F2.x1.cell; have y22 := F2.x2.cell; have y32 := F2.x3.cell; have z02 := F2.x0.lt; have z12 := F2.x1.lt; have z22 := F2.x2.lt; have z32 := F2.x3.lt) | (go_at_call 14; (with_reducible refine (cP _).mono ?_); rintro e w3 ⟨rfl, hb3⟩; have F3 := F2.below hb3; have xr3 : Box w3 b9 _ _ := (hb3.block _ xr2.lt).trans xr2))
          go_roundw
          case rel => exact ⟨1, by omega, by go_num, F3, xr3⟩
          case measure => simp [intOf]
        · have hE' : (setE m pf n == 0) = false := by simpa using hE
          have hE2 : (setE m pf n != 0) = true := by simpa using hE
          generalize setE m pf n = se at *
          go_wp2_with (go_at_call 19; (with_reducible refine (cS _ g0).mono ?_); rintro e w1 ⟨rfl, hb1⟩)
          go_roundw
          case rel => exact ⟨1, by omega, by go_num, F0.below (bl_trans hb1 (bl_alloc (Below.refl _ _) _)), Box.alloc (show Box w1 b9 _ _ from (hb1.block _ lr).trans xr) _⟩
          case measure => simp [intOf]
      · have cS := fun W (h : Gl W) => set_any m pf n false W h.g
        by_cases hE : setE m pf n = 0
        · obtain ⟨k1, k2, k3, k4⟩ := after_set m pf n false hE
          have cM := fun W (h : Gl W) => mode_any (setR m pf n false) pf n W h.g h.t
          simp only [Bool.false_eq_true, ↓reduceIte] at k1
          rw [k1, k2] at cM
          have hpl := modeT_plain pf n 2 k3 (by omega)
          have hsz := modeT_size pf n 2 (by omega) (by omega) (by omega) (by omega)
          rw [hE] at cS
          clear hE k1 k2
          generalize setR m pf n false = y at *
          obtain ⟨S, hS, i1, i2, i3⟩ : ∃ S, modeT pf n 2 = S ∧ ∃ hb : S.size - 3 < S.size, 6 ≤ S.size ∧ S[S.size - 3].toNat = 50 := ⟨_, rfl, mode_last pf n false ⟨k3, k4⟩⟩
          rw [hS] at cM hpl hsz
          clear hS
          have i4 : ¬ (S.size : Int) < 6 := by omega
          have i5 : IntKind.i64.wrap ((S.size : Int) - 3) = (S.size : Int) - 3 := IntWalk.i64_in _ (by omega)
          have cP := fun W => plain_t S W hpl (by omega)
          clear hpl hsz
          go_wp2_with (first | (go_at_call 19; (with_reducible refine (cS _ g0).mono ?_); rintro e w1 ⟨rfl, hb1⟩; have F1 := F0.below (bl_trans hb1 (bl_alloc (Below.refl _ _) (.cells #[.bool y.aw, .bool y.ori, .bool y.ins, .bool y.vis, .bool y.app, .bool y.pas, .bool y.sgr, .int .i64 y.ptr, .int .i64 y.alt] 38))); have xr1 : Box (w1.alloc (.cells #[.bool y.aw, .bool y.ori, .bool y.ins, .bool y.vis, .bool y.app, .bool y.pas, .bool y.sgr, .int .i64 y.ptr, .int .i64 y.alt] 38)) b9 _ _ := Box.alloc (show Box w1 b9 _ _ from (hb1.block _ lr).trans xr) _; have cr1 := xr1.cell; have lr1 := xr1.lt; have g1 := hG.below F1.bl; clear y00 y10 y20 y30 z00 z10 z20 z30; have y01 := F1.x0.cell; have y11 := F1.x1.cell; have y21 := F1.x2.cell; have y31 := F1.x3.cell; have z01 := F1.x0.lt; have z11 := F1.x1.lt; have z21 := F1.x2.lt; have z31 := F1.x3.lt) | (go_at_call 20; (with_reducible refine (cM _ g1).mono ?_); rintro e w2 ⟨rfl, hb2⟩; have F2 := F1.below hb2; have xr2 : Box w2 b9 _ _ := (hb2.block _ lr1).trans xr1; clear y01 y11 y21 y31 z01 z11 z21 z31; have y02 := F2.x0.cell; have y12 := F2.x1.cell; have y22 := F2.x2.cell; have y32 := F2.x3.cell; have z02 := F2.x0.lt; have z12 := F2.x1.lt; have z22 := F2.x2.lt; have z32 := F2.x3.lt) | (go_at_call 14; (with_reducible refine (cP _).mono ?_); rintro e w3 ⟨rfl, hb3⟩; have F3 := F2.below hb3; have xr3 : Box w3 b9 _ _ := (hb3.block _ xr2.lt).trans xr2))
          go_roundw
          case rel => exact ⟨2, by omega, by go_num, F3, xr3⟩
          case measure => simp [intOf]
        · have hE' : (setE m pf n == 0) = false := by simpa using hE
          have hE2 : (setE m pf n != 0) = true := by simpa using hE
          generalize setE m pf n = se at *
          go_wp2_with (go_at_call 19; (with_reducible refine (cS _ g0).mono ?_); rintro e w1 ⟨rfl, hb1⟩)
          go_roundw
          case rel => exact ⟨2, by omega, by go_num, F0.below (bl_trans hb1 (bl_alloc (Below.refl _ _) _)), Box.alloc (show Box w1 b9 _ _ from (hb1.block _ lr).trans xr) _⟩
          case measure => simp [intOf]
    · obtain rfl : j = 2 := by omega
      go_wp2_with (go_at_call 10; (with_reducible refine (known_any _ g0.g g0.t).mono ?_); rintro e w1 ⟨rfl, hb⟩)
      go_ret
      exact ⟨rfl, bl_trans F0.bl hb⟩

set_option maxHeartbeats 8000000 in
set_option maxRecDepth 100000 in
theorem rh_C (kind rune pre : Int) (inter text : ByteArray) (v : Value) (xs : List Int) (rows cols top bottom : Int) (o : Bool) (r c : Int) (p : Bool) (m : Md) (pf n : Int) (w : World) (hv : Rd w .i64 v xs) (hin : inter.size ≤ 140737488355328) (hG : Gl w) (hl : xs.length ≤ 20) (hq : Mo.validB rows cols top bottom r c p = true) (ho : o = true) (ht : top ≤ r) (hb : r ≤ bottom) : Calls Tryd.prog 5 #[.agg #[.int .i64 kind, .int .i32 rune, .int .i32 pre, .string inter, v, .string text], .agg #[.int .i64 rows, .int .i64 cols, .int .i64 top, .int .i64 bottom, .bool o], .agg #[.int .i64 r, .int .i64 c, .bool p], .agg #[.bool m.aw, .bool m.ori, .bool m.ins, .bool m.vis, .bool m.app, .bool m.pas, .bool m.sgr, .int .i64 m.ptr, .int .i64 m.alt], .int .i32 pf, .int .i64 n] w fun e w' => e = .returned (.bool true) ∧ Below w.heap.size w w' := by
  obtain ⟨p1, cap1, rfl, l1, m1, c1⟩ := id hv
  clear c1
  have hl' : ¬ (20 : Int) < (xs.length : Int) := by omega
  have cA := fun W (hb : Below w.heap.size w W) => ans_any kind rune pre inter text (.slice p1 xs.length cap1) xs rows cols top bottom o r c p m W (hv.below hb) hin (hG.below hb).g (hG.below hb).t
  unfold AnsE at cA
  obtain ⟨hpl, hsz⟩ := ans_plain kind rune pre inter (firstP xs) rows cols top bottom o r c p m
  obtain ⟨sA, hsA⟩ : ∃ q, ansP kind rune pre inter (firstP xs) rows cols top bottom o r c p m = q := ⟨_, rfl⟩
  rw [hsA] at cA hpl hsz
  clear hsA
  obtain ⟨sa, ea⟩ := sA
  simp only at cA hpl hsz
  have cP := fun W => plain_t sa W hpl (by omega)
  clear hpl hsz
  have cV := fun W => Mo.validRef_any rows cols top bottom o r c p W
  have F0 := FourNew.start w #[.int .i64 kind, .int .i32 rune, .int .i32 pre, .string inter, .slice p1 xs.length cap1, .string text] #[.int .i64 rows, .int .i64 cols, .int .i64 top, .int .i64 bottom, .bool o] #[.int .i64 r, .int .i64 c, .bool p] #[.bool m.aw, .bool m.ori, .bool m.ins, .bool m.vis, .bool m.app, .bool m.pas, .bool m.sgr, .int .i64 m.ptr, .int .i64 m.alt]
  have y00 := F0.x0.cell; have y10 := F0.x1.cell; have y20 := F0.x2.cell; have y30 := F0.x3.cell; have z00 := F0.x0.lt; have z10 := F0.x1.lt; have z20 := F0.x2.lt; have z30 := F0.x3.lt
  rw [hq] at cV
  have hf := Mo.valid_facts hq
  have hrt : Mo.rightB rows cols top bottom = true := by
    unfold Mo.validB at hq
    simp only [Bool.and_eq_true] at hq
    exact hq.1.1
  have hwr : 1 ≤ whereR top r o ∧ whereR top r o ≤ 2000 := by unfold whereR; split <;> omega
  have cS := fun W (h : Gl W) => status_any 6 rows cols top bottom o r c p W h.t
  have e6 : statS 6 rows cols top bottom o r c p = posS (whereR top r o) (c + 1) := by simp [statS, hq]
  have e7 : statE 6 rows cols top bottom o r c p = 0 := by simp [statE, hq]
  rw [e6, e7] at cS
  have cN := fun W => numbers_pos (whereR top r o) (c + 1) W (by omega) (by omega)
  obtain ⟨g8, g9⟩ := go_back rows cols top bottom r c o p hq (.inr ⟨ht, hb⟩)
  have t1 : IntKind.i64.wrap (whereR top r o - 1) = whereR top r o - 1 := IntWalk.i64_in _ (by omega)
  rw [Int.add_sub_cancel] at g9
  have cG := fun W => Mo.go_ok rows cols top bottom o (whereR top r o - 1) c W hrt
  rw [g8, g9] at cG
  clear e6 e7 g8 g9 hrt
  generalize posS (whereR top r o) (c + 1) = sp at *
  generalize whereR top r o = wn at *
  subst ho
  go_enter Tryd.func5, Tryd.ntmps5
  go_wp2_with (first | (go_at_call 13; (with_reducible refine (cA _ F0.bl).mono ?_); rintro e w1 ⟨rfl, hb1⟩; have F1 := F0.below hb1; clear y00 y10 y20 y30 z00 z10 z20 z30; have y01 := F1.x0.cell; have y11 := F1.x1.cell; have y21 := F1.x2.cell; have y31 := F1.x3.cell; have z01 := F1.x0.lt; have z11 := F1.x1.lt; have z21 := F1.x2.lt; have z31 := F1.x3.lt) | (go_at_call 14; (with_reducible refine (cP _).mono ?_); rintro e w2 ⟨rfl, hb2⟩; have F2 := F1.below hb2; clear y01 y11 y21 y31 z01 z11 z21 z31; have y02 := F2.x0.cell; have y12 := F2.x1.cell; have y22 := F2.x2.cell; have y32 := F2.x3.cell; have z02 := F2.x0.lt; have z12 := F2.x1.lt; have z22 := F2.x2.lt; have z32 := F2.x3.lt) | (go_at_call 15; (with_reducible refine (cV _).mono ?_); rintro e w3 ⟨rfl, hb3⟩; have F3 := F2.below hb3; clear y02 y12 y22 y32 z02 z12 z22 z32; have y03 := F3.x0.cell; have y13 := F3.x1.cell; have y23 := F3.x2.cell; have y33 := F3.x3.cell; have z03 := F3.x0.lt; have z13 := F3.x1.lt; have z23 := F3.x2.lt; have z33 := F3.x3.lt) | (go_at_call 16; (with_reducible refine (cS _ (hG.below F3.bl)).mono ?_); rintro e w4 ⟨rfl, hb4⟩; have F4 := F3.below hb4; clear y03 y13 y23 y33 z03 z13 z23 z33; have y04 := F4.x0.cell; have y14 := F4.x1.cell; have y24 := F4.x2.cell; have y34 := F4.x3.cell; have z04 := F4.x0.lt; have z14 := F4.x1.lt; have z24 := F4.x2.lt; have z34 := F4.x3.lt) | (go_at_call 17; (with_reducible refine (cN _).mono ?_); rintro e w5 ⟨rfl, hb5⟩; have F5 := F4.below hb5; clear y04 y14 y24 y34 z04 z14 z24 z34; have y05 := F5.x0.cell; have y15 := F5.x1.cell; have y25 := F5.x2.cell; have y35 := F5.x3.cell; have z05 := F5.x0.lt; have z15 := F5.x1.lt; have z25 := F5.x2.lt; have z35 := F5.x3.lt) | (go_at_call 18; (with_reducible refine (cG _).mono ?_); rintro e w6 ⟨rfl, hb6⟩; have F6 := F5.below (bl_trans hb6 (bl_alloc (Below.refl _ _) (.cells #[.int .i64 r, .int .i64 c, .bool false] 27))); clear y05 y15 y25 y35 z05 z15 z25 z35; have y06 := F6.x0.cell; have y16 := F6.x1.cell; have y26 := F6.x2.cell; have y36 := F6.x3.cell; have z06 := F6.x0.lt; have z16 := F6.x1.lt; have z26 := F6.x2.lt; have z36 := F6.x3.lt))
  obtain ⟨b9, hb9⟩ : ∃ b9, (w6.alloc (.cells #[.int .i64 r, .int .i64 c, .bool false] 27)).heap.size = b9 := ⟨_, rfl⟩
  have FL : FourNew w ((w6.alloc (.cells #[.int .i64 r, .int .i64 c, .bool false] 27)).alloc (.cells #[.bool true, .bool false] 4)) _ _ _ _ := F6.below (bl_alloc (Below.refl _ _) _)
  have xL : Box ((w6.alloc (.cells #[.int .i64 r, .int .i64 c, .bool false] 27)).alloc (.cells #[.bool true, .bool false] 4)) b9 #[.bool true, .bool false] 4 := Box.new _ _ _ hb9.symm
  simp at hb9
  first | rw [hb9] | skip
  generalize (w6.alloc (.cells #[.int .i64 r, .int .i64 c, .bool false] 27)).alloc (.cells #[.bool true, .bool false] 4) = W0 at *
  clear hb9 F6
  clear y06 y16 y26 y36 z06 z16 z26 z36 cA cP cV cS cN cG
  go_loopw [115] (fun i wr => ∃ (j : Nat), j ≤ 2 ∧ i = .int .i64 j ∧ FourNew w wr #[.int .i64 kind, .int .i32 rune, .int .i32 pre, .string inter, .slice p1 xs.length cap1, .string text] #[.int .i64 rows, .int .i64 cols, .int .i64 top, .int .i64 bottom, .bool true] #[.int .i64 r, .int .i64 c, .bool p] #[.bool m.aw, .bool m.ori, .bool m.ins, .bool m.vis, .bool m.app, .bool m.pas, .bool m.sgr, .int .i64 m.ptr, .int .i64 m.alt] ∧ Box wr b9 #[.bool true, .bool false] 4) (fun i _ => 2 - (intOf i).toNat)
  case atStart => exact ⟨0, by omega, rfl, FL, xL⟩
  case round =>
    obtain ⟨j, hj, rfl, F0, xr⟩ := hrel
    clear FL xL
    have y00 := F0.x0.cell; have y10 := F0.x1.cell; have y20 := F0.x2.cell; have y30 := F0.x3.cell; have z00 := F0.x0.lt; have z10 := F0.x1.lt; have z20 := F0.x2.lt; have z30 := F0.x3.lt
    have cr := xr.cell
    have lr := xr.lt
    have g0 := hG.below F0.bl
    by_cases hlt : j < 2
    · have hj2 : j = 0 ∨ j = 1 := by omega
      rcases hj2 with rfl | rfl
      · have cS := fun W (h : Gl W) => set_any m pf n true W h.g
        by_cases hE : setE m pf n = 0
        · obtain ⟨k1, k2, k3, k4⟩ := after_set m pf n true hE
          have cM := fun W (h : Gl W) => mode_any (setR m pf n true) pf n W h.g h.t
          simp only [Bool.false_eq_true, ↓reduceIte] at k1
          rw [k1, k2] at cM
          have hpl := modeT_plain pf n 1 k3 (by omega)
          have hsz := modeT_size pf n 1 (by omega) (by omega) (by omega) (by omega)
          rw [hE] at cS
          clear hE k1 k2
          generalize setR m pf n true = y at *
          obtain ⟨S, hS, i1, i2, i3⟩ : ∃ S, modeT pf n 1 = S ∧ ∃ hb : S.size - 3 < S.size, 6 ≤ S.size ∧ S[S.size - 3].toNat = 49 := ⟨_, rfl, mode_last pf n true ⟨k3, k4⟩⟩
          rw [hS] at cM hpl hsz
          clear hS
          have i4 : ¬ (S.size : Int) < 6 := by omega
          have i5 : IntKind.i64.wrap ((S.size : Int) - 3) = (S.size : Int) - 3 := IntWalk.i64_in _ (by omega)
          have cP := fun W => plain_t S W hpl (by omega)
          clear hpl hsz
          go_wp2_with (first | (go_at_call 19; (with_reducible refine (cS _ g0).mono ?_); rintro e w1 ⟨rfl, hb1⟩; have F1 := F0.below (bl_trans hb1 (bl_alloc (Below.refl _ _) (.cells #[.bool y.aw, .bool y.ori, .bool y.ins, .bool y.vis, .bool y.app, .bool y.pas, .bool y.sgr, .int .i64 y.ptr, .int .i64 y.alt] 38))); have xr1 : Box (w1.alloc (.cells #[.bool y.aw, .bool y.ori, .bool y.ins, .bool y.vis, .bool y.app, .bool y.pas, .bool y.sgr, .int .i64 y.ptr, .int .i64 y.alt] 38)) b9 _ _ := Box.alloc (show Box w1 b9 _ _ from (hb1.block _ lr).trans xr) _; have cr1 := xr1.cell; have lr1 := xr1.lt; have g1 := hG.below F1.bl; clear y00 y10 y20 y30 z00 z10 z20 z30; have y01 := F1.x0.cell; have y11 := F1.x1.cell; have y21 := F1.x2.cell; have y31 := F1.x3.cell; have z01 := F1.x0.lt; have z11 := F1.x1.lt; have z21 := F1.x2.lt; have z31 := F1.x3.lt) | (go_at_call 20; (with_reducible refine (cM _ g1).mono ?_); rintro e w2 ⟨rfl, hb2⟩; have F2 := F1.below hb2; have xr2 : Box w2 b9 _ _ := (hb2.block _ lr1).trans xr1; clear y01 y11 y21 y31 z01 z11 z21 z31; have y02 := F2.x0.cell; have y12 := F2.x1.cell; have y22 := F2.x2.cell; have y32 := F2.x3.cell; have z02 := F2.x0.lt; have z12 := F2.x1.lt; have z22 := F2.x2.lt; have z32 := F2.x3.lt) | (go_at_call 14; (with_reducible refine (cP _).mono ?_); rintro e w3 ⟨rfl, hb3⟩; have F3 := F2.below hb3; have xr3 : Box w3 b9 _ _ := (hb3.block _ xr2.lt).trans xr2))
          go_roundw
          case rel => exact ⟨1, by omega, by go_num, F3, xr3⟩
          case measure => simp [intOf]
        · have hE' : (setE m pf n == 0) = false := by simpa using hE
          have hE2 : (setE m pf n != 0) = true := by simpa using hE
          generalize setE m pf n = se at *
          go_wp2_with (go_at_call 19; (with_reducible refine (cS _ g0).mono ?_); rintro e w1 ⟨rfl, hb1⟩)
          go_roundw
          case rel => exact ⟨1, by omega, by go_num, F0.below (bl_trans hb1 (bl_alloc (Below.refl _ _) _)), Box.alloc (show Box w1 b9 _ _ from (hb1.block _ lr).trans xr) _⟩
          case measure => simp [intOf]
      · have cS := fun W (h : Gl W) => set_any m pf n false W h.g
        by_cases hE : setE m pf n = 0
        · obtain ⟨k1, k2, k3, k4⟩ := after_set m pf n false hE
          have cM := fun W (h : Gl W) => mode_any (setR m pf n false) pf n W h.g h.t
          simp only [Bool.false_eq_true, ↓reduceIte] at k1
          rw [k1, k2] at cM
          have hpl := modeT_plain pf n 2 k3 (by omega)
          have hsz := modeT_size pf n 2 (by omega) (by omega) (by omega) (by omega)
          rw [hE] at cS
          clear hE k1 k2
          generalize setR m pf n false = y at *
          obtain ⟨S, hS, i1, i2, i3⟩ : ∃ S, modeT pf n 2 = S ∧ ∃ hb : S.size - 3 < S.size, 6 ≤ S.size ∧ S[S.size - 3].toNat = 50 := ⟨_, rfl, mode_last pf n false ⟨k3, k4⟩⟩
          rw [hS] at cM hpl hsz
          clear hS
          have i4 : ¬ (S.size : Int) < 6 := by omega
          have i5 : IntKind.i64.wrap ((S.size : Int) - 3) = (S.size : Int) - 3 := IntWalk.i64_in _ (by omega)
          have cP := fun W => plain_t S W hpl (by omega)
          clear hpl hsz
          go_wp2_with (first | (go_at_call 19; (with_reducible refine (cS _ g0).mono ?_); rintro e w1 ⟨rfl, hb1⟩; have F1 := F0.below (bl_trans hb1 (bl_alloc (Below.refl _ _) (.cells #[.bool y.aw, .bool y.ori, .bool y.ins, .bool y.vis, .bool y.app, .bool y.pas, .bool y.sgr, .int .i64 y.ptr, .int .i64 y.alt] 38))); have xr1 : Box (w1.alloc (.cells #[.bool y.aw, .bool y.ori, .bool y.ins, .bool y.vis, .bool y.app, .bool y.pas, .bool y.sgr, .int .i64 y.ptr, .int .i64 y.alt] 38)) b9 _ _ := Box.alloc (show Box w1 b9 _ _ from (hb1.block _ lr).trans xr) _; have cr1 := xr1.cell; have lr1 := xr1.lt; have g1 := hG.below F1.bl; clear y00 y10 y20 y30 z00 z10 z20 z30; have y01 := F1.x0.cell; have y11 := F1.x1.cell; have y21 := F1.x2.cell; have y31 := F1.x3.cell; have z01 := F1.x0.lt; have z11 := F1.x1.lt; have z21 := F1.x2.lt; have z31 := F1.x3.lt) | (go_at_call 20; (with_reducible refine (cM _ g1).mono ?_); rintro e w2 ⟨rfl, hb2⟩; have F2 := F1.below hb2; have xr2 : Box w2 b9 _ _ := (hb2.block _ lr1).trans xr1; clear y01 y11 y21 y31 z01 z11 z21 z31; have y02 := F2.x0.cell; have y12 := F2.x1.cell; have y22 := F2.x2.cell; have y32 := F2.x3.cell; have z02 := F2.x0.lt; have z12 := F2.x1.lt; have z22 := F2.x2.lt; have z32 := F2.x3.lt) | (go_at_call 14; (with_reducible refine (cP _).mono ?_); rintro e w3 ⟨rfl, hb3⟩; have F3 := F2.below hb3; have xr3 : Box w3 b9 _ _ := (hb3.block _ xr2.lt).trans xr2))
          go_roundw
          case rel => exact ⟨2, by omega, by go_num, F3, xr3⟩
          case measure => simp [intOf]
        · have hE' : (setE m pf n == 0) = false := by simpa using hE
          have hE2 : (setE m pf n != 0) = true := by simpa using hE
          generalize setE m pf n = se at *
          go_wp2_with (go_at_call 19; (with_reducible refine (cS _ g0).mono ?_); rintro e w1 ⟨rfl, hb1⟩)
          go_roundw
          case rel => exact ⟨2, by omega, by go_num, F0.below (bl_trans hb1 (bl_alloc (Below.refl _ _) _)), Box.alloc (show Box w1 b9 _ _ from (hb1.block _ lr).trans xr) _⟩
          case measure => simp [intOf]
    · obtain rfl : j = 2 := by omega
      go_wp2_with (go_at_call 10; (with_reducible refine (known_any _ g0.g g0.t).mono ?_); rintro e w1 ⟨rfl, hb⟩)
      go_ret
      exact ⟨rfl, bl_trans F0.bl hb⟩

theorem replyHolds_any (kind rune pre : Int) (inter text : ByteArray) (v : Value) (xs : List Int) (rows cols top bottom : Int) (o : Bool) (r c : Int) (p : Bool) (m : Md) (pf n : Int) (w : World) (hv : Rd w .i64 v xs) (hin : inter.size ≤ 140737488355328) (hG : Gl w) : Calls Tryd.prog 5 #[.agg #[.int .i64 kind, .int .i32 rune, .int .i32 pre, .string inter, v, .string text], .agg #[.int .i64 rows, .int .i64 cols, .int .i64 top, .int .i64 bottom, .bool o], .agg #[.int .i64 r, .int .i64 c, .bool p], .agg #[.bool m.aw, .bool m.ori, .bool m.ins, .bool m.vis, .bool m.app, .bool m.pas, .bool m.sgr, .int .i64 m.ptr, .int .i64 m.alt], .int .i32 pf, .int .i64 n] w fun e w' => e = .returned (.bool true) ∧ Below w.heap.size w w' := by
  by_cases hl : xs.length ≤ 20
  · have a : Bool := true
    cases hq : Mo.validB rows cols top bottom r c p
    · exact rh_A kind rune pre inter text v xs rows cols top bottom o r c p m pf n w hv hin hG hl hq
    · by_cases ho : o = false
      · exact rh_B kind rune pre inter text v xs rows cols top bottom o r c p m pf n w hv hin hG hl hq ho
      · have ho : o = true := by simpa using ho
        by_cases ht : top ≤ r
        · by_cases hb : r ≤ bottom
          · exact rh_C kind rune pre inter text v xs rows cols top bottom o r c p m pf n w hv hin hG hl hq ho ht hb
          · exact rh_E kind rune pre inter text v xs rows cols top bottom o r c p m pf n w hv hin hG hl hq ho ht hb
        · exact rh_D kind rune pre inter text v xs rows cols top bottom o r c p m pf n w hv hin hG hl hq ho ht
  · obtain ⟨p1, cap1, rfl, l1, m1, c1⟩ := id hv
    clear c1
    have hl' : (20 : Int) < (xs.length : Int) := by omega
    have F0 := FourNew.start w #[.int .i64 kind, .int .i32 rune, .int .i32 pre, .string inter, .slice p1 xs.length cap1, .string text] #[.int .i64 rows, .int .i64 cols, .int .i64 top, .int .i64 bottom, .bool o] #[.int .i64 r, .int .i64 c, .bool p] #[.bool m.aw, .bool m.ori, .bool m.ins, .bool m.vis, .bool m.app, .bool m.pas, .bool m.sgr, .int .i64 m.ptr, .int .i64 m.alt]
    have y00 := F0.x0.cell; have y10 := F0.x1.cell; have y20 := F0.x2.cell; have y30 := F0.x3.cell; have z00 := F0.x0.lt; have z10 := F0.x1.lt; have z20 := F0.x2.lt; have z30 := F0.x3.lt
    have g0 := hG.below F0.bl
    go_enter Tryd.func5, Tryd.ntmps5
    go_wp2_with (go_at_call 10; (with_reducible refine (known_any _ g0.g g0.t).mono ?_); rintro e w1 ⟨rfl, hb⟩)
    go_ret
    exact ⟨rfl, bl_trans F0.bl hb⟩

end Go.Proofs.YtgaakkgelifgpaaDoor
