/- modes: the examples of the chapter. -/
import Derived.Test.YtcmflmmidipckaaDoorN
import Derived.Outline
import Derived.RegionTactic
import Derived.ChangeAlike
import Derived.BigRegion
set_option linter.unusedSimpArgs false
set_option linter.unusedVariables false
set_option linter.unnecessarySimpa false
namespace Go.Proofs.YtcmflmmidipckaaDoor
open Go.RowKit

/-- All that the calls ask of a world. -/
structure Gl (w : World) : Prop where
  g : Glob w
  o : GlobO w
  t : Tab w
theorem Gl.below {w w' : World} (h : Gl w) (hb : Below w.heap.size w w') : Gl w' := ⟨h.g.below hb, h.o.below hb, h.t.below hb⟩
theorem kg0 (W : World) (h : Gl W) : Calls Tryd.prog 13 #[.agg #[.bool true, .bool false, .bool false, .bool true, .bool false, .bool false, .bool false, .int .i64 0, .int .i64 0], .int .i32 63, .int .i64 7, .int .i64 1, .int .i64 0] W fun e w' => e = .returned (.bool true) ∧ Below W.heap.size W w' := gets_t ⟨true, false, false, true, false, false, false, 0, 0⟩ 63 7 1 0 W h.g (by decide) (by decide)
theorem kg1 (W : World) (h : Gl W) : Calls Tryd.prog 13 #[.agg #[.bool true, .bool false, .bool false, .bool true, .bool false, .bool false, .bool false, .int .i64 0, .int .i64 0], .int .i32 0, .int .i64 4, .int .i64 2, .int .i64 0] W fun e w' => e = .returned (.bool true) ∧ Below W.heap.size W w' := gets_t ⟨true, false, false, true, false, false, false, 0, 0⟩ 0 4 2 0 W h.g (by decide) (by decide)
theorem kg2 (W : World) (h : Gl W) : Calls Tryd.prog 13 #[.agg #[.bool true, .bool false, .bool false, .bool true, .bool false, .bool false, .bool false, .int .i64 0, .int .i64 0], .int .i32 63, .int .i64 4, .int .i64 0, .int .i64 0] W fun e w' => e = .returned (.bool true) ∧ Below W.heap.size W w' := gets_t ⟨true, false, false, true, false, false, false, 0, 0⟩ 63 4 0 0 W h.g (by decide) (by decide)
theorem kg3 (W : World) (h : Gl W) : Calls Tryd.prog 13 #[.agg #[.bool true, .bool false, .bool false, .bool true, .bool false, .bool false, .bool false, .int .i64 0, .int .i64 0], .int .i32 63, .int .i64 1000, .int .i64 2, .int .i64 0] W fun e w' => e = .returned (.bool true) ∧ Below W.heap.size W w' := gets_t ⟨true, false, false, true, false, false, false, 0, 0⟩ 63 1000 2 0 W h.g (by decide) (by decide)
theorem ks0 (W : World) (h : Gl W) : Calls Tryd.prog 12 #[.agg #[.bool true, .bool false, .bool false, .bool true, .bool false, .bool false, .bool false, .int .i64 0, .int .i64 0], .int .i32 63, .int .i64 1002, .bool true, .agg #[.bool true, .bool false, .bool false, .bool true, .bool false, .bool false, .bool false, .int .i64 1002, .int .i64 0], .int .i64 0] W fun e w' => e = .returned (.bool true) ∧ Below W.heap.size W w' := sets_t ⟨true, false, false, true, false, false, false, 0, 0⟩ 63 1002 true ⟨true, false, false, true, false, false, false, 1002, 0⟩ 0 W h.g (by decide) (by decide)
theorem ks1 (W : World) (h : Gl W) : Calls Tryd.prog 12 #[.agg #[.bool true, .bool false, .bool false, .bool true, .bool false, .bool false, .bool false, .int .i64 1002, .int .i64 0], .int .i32 63, .int .i64 1000, .bool false, .agg #[.bool true, .bool false, .bool false, .bool true, .bool false, .bool false, .bool false, .int .i64 1002, .int .i64 0], .int .i64 0] W fun e w' => e = .returned (.bool true) ∧ Below W.heap.size W w' := sets_t ⟨true, false, false, true, false, false, false, 1002, 0⟩ 63 1000 false ⟨true, false, false, true, false, false, false, 1002, 0⟩ 0 W h.g (by decide) (by decide)
theorem ks2 (W : World) (h : Gl W) : Calls Tryd.prog 12 #[.agg #[.bool true, .bool false, .bool false, .bool true, .bool false, .bool false, .bool false, .int .i64 1002, .int .i64 0], .int .i32 63, .int .i64 1003, .bool true, .agg #[.bool true, .bool false, .bool false, .bool true, .bool false, .bool false, .bool false, .int .i64 1003, .int .i64 0], .int .i64 0] W fun e w' => e = .returned (.bool true) ∧ Below W.heap.size W w' := sets_t ⟨true, false, false, true, false, false, false, 1002, 0⟩ 63 1003 true ⟨true, false, false, true, false, false, false, 1003, 0⟩ 0 W h.g (by decide) (by decide)
theorem ks3 (W : World) (h : Gl W) : Calls Tryd.prog 12 #[.agg #[.bool true, .bool false, .bool false, .bool true, .bool false, .bool false, .bool false, .int .i64 1002, .int .i64 0], .int .i32 63, .int .i64 1002, .bool false, .agg #[.bool true, .bool false, .bool false, .bool true, .bool false, .bool false, .bool false, .int .i64 0, .int .i64 0], .int .i64 0] W fun e w' => e = .returned (.bool true) ∧ Below W.heap.size W w' := sets_t ⟨true, false, false, true, false, false, false, 1002, 0⟩ 63 1002 false ⟨true, false, false, true, false, false, false, 0, 0⟩ 0 W h.g (by decide) (by decide)
theorem ks4 (W : World) (h : Gl W) : Calls Tryd.prog 12 #[.agg #[.bool true, .bool false, .bool false, .bool true, .bool false, .bool false, .bool false, .int .i64 0, .int .i64 0], .int .i32 62, .int .i64 4, .bool true, .agg #[.bool false, .bool false, .bool false, .bool false, .bool false, .bool false, .bool false, .int .i64 0, .int .i64 0], .int .i64 9] W fun e w' => e = .returned (.bool true) ∧ Below W.heap.size W w' := sets_t ⟨true, false, false, true, false, false, false, 0, 0⟩ 62 4 true ⟨false, false, false, false, false, false, false, 0, 0⟩ 9 W h.g (by decide) (by decide)
theorem ka (v : Value) (W : World) (h : Gl W) (hv : Rd W .i64 v [25, 9, 1049]) : Calls Tryd.prog 18 #[.agg #[.bool true, .bool false, .bool false, .bool true, .bool false, .bool false, .bool false, .int .i64 0, .int .i64 0], .int .i32 63, v, .bool false, .agg #[.bool true, .bool false, .bool false, .bool false, .bool false, .bool false, .bool false, .int .i64 0, .int .i64 0], .int .i64 0] W fun e w' => e = .returned (.bool true) ∧ Below W.heap.size W w' := applies_t ⟨true, false, false, true, false, false, false, 0, 0⟩ 63 v [25, 9, 1049] false ⟨true, false, false, false, false, false, false, 0, 0⟩ 0 W h.g hv (by decide) (by decide) (by decide)
theorem dd (i : Nat) (h : i < 10) : Lib.itoa (i : Int) = [UInt8.ofNat (48 + i)] := by rw [Lib.itoa_nonneg, Lib.decDigits_one h]
theorem dstep (n : Nat) (h : ¬ n < 10) : Lib.decDigits n = Lib.decDigits (n / 10) ++ [UInt8.ofNat (48 + n % 10)] := by rw [Lib.decDigits, dif_neg h]
theorem d1049 : Lib.itoa 1049 = [49, 48, 52, 57] := by
  rw [show (1049 : Int) = ((1049 : Nat) : Int) from rfl, Lib.itoa_nonneg, dstep 1049 (by omega), dstep (1049 / 10) (by omega), dstep (1049 / 10 / 10) (by omega), Lib.decDigits_one (i := 1049 / 10 / 10 / 10) (by omega)]; rfl
theorem d4 : Lib.itoa 4 = [52] := dd 4 (by omega)
theorem d7 : Lib.itoa 7 = [55] := dd 7 (by omega)
theorem kx0 : textR ⟨true, false, false, true, false, false, false, 0, 0⟩ = ⟨#[]⟩ := by
  unfold textR
  rw [if_pos (by decide)]
  have e : textK ⟨true, false, false, true, false, false, false, 0, 0⟩ 13 = [] := by simp [textK, ordL, pieceM, newM]
  rw [e]
theorem kt0 (W : World) (h : Gl W) : Calls Tryd.prog 19 #[.agg #[.bool true, .bool false, .bool false, .bool true, .bool false, .bool false, .bool false, .int .i64 0, .int .i64 0], .string ⟨#[]⟩, .int .i64 0] W fun e w' => e = .returned (.bool true) ∧ Below W.heap.size W w' := texts_t ⟨true, false, false, true, false, false, false, 0, 0⟩ ⟨#[]⟩ 0 W h.g h.o h.t kx0 (by decide)
theorem kx1 : textR ⟨false, false, true, true, false, false, false, 0, 1049⟩ = ⟨#[27, 91, 52, 104, 27, 91, 63, 55, 108, 27, 91, 63, 49, 48, 52, 57, 104]⟩ := by
  unfold textR
  rw [if_pos (by decide)]
  have e : textK ⟨false, false, true, true, false, false, false, 0, 1049⟩ 13 = [27, 91] ++ (Lib.itoa 4 ++ [104]) ++ ([27, 91] ++ ([63] ++ (Lib.itoa 7 ++ [108]))) ++ ([27, 91] ++ ([63] ++ (Lib.itoa 1049 ++ [104]))) := by
    simp [textK, ordL, pieceM, getR, newM, validM, ptrL, altL, isM, onM]
  rw [e, d4, d7, d1049]; rfl
theorem kt1 (W : World) (h : Gl W) : Calls Tryd.prog 19 #[.agg #[.bool false, .bool false, .bool true, .bool true, .bool false, .bool false, .bool false, .int .i64 0, .int .i64 1049], .string ⟨#[27, 91, 52, 104, 27, 91, 63, 55, 108, 27, 91, 63, 49, 48, 52, 57, 104]⟩, .int .i64 0] W fun e w' => e = .returned (.bool true) ∧ Below W.heap.size W w' := texts_t ⟨false, false, true, true, false, false, false, 0, 1049⟩ ⟨#[27, 91, 52, 104, 27, 91, 63, 55, 108, 27, 91, 63, 49, 48, 52, 57, 104]⟩ 0 W h.g h.o h.t kx1 (by decide)
theorem kx2 : textR ⟨true, false, false, true, false, false, false, 5, 0⟩ = ⟨#[]⟩ := by unfold textR; rw [if_neg (by decide)]
theorem kt2 (W : World) (h : Gl W) : Calls Tryd.prog 19 #[.agg #[.bool true, .bool false, .bool false, .bool true, .bool false, .bool false, .bool false, .int .i64 5, .int .i64 0], .string ⟨#[]⟩, .int .i64 2] W fun e w' => e = .returned (.bool true) ∧ Below W.heap.size W w' := texts_t ⟨true, false, false, true, false, false, false, 5, 0⟩ ⟨#[]⟩ 2 W h.g h.o h.t kx2 (by decide)
theorem three_new (W : World) (c : Array Value) (T : TypeId) : Box ((((W.alloc (.cells c T)).alloc (.cells c T)).alloc (.cells c T)).drew) W.heap.size c T ∧ Box ((((W.alloc (.cells c T)).alloc (.cells c T)).alloc (.cells c T)).drew) (W.heap.size + 1) c T ∧ Box ((((W.alloc (.cells c T)).alloc (.cells c T)).alloc (.cells c T)).drew) (W.heap.size + 1 + 1) c T ∧ Below W.heap.size W ((((W.alloc (.cells c T)).alloc (.cells c T)).alloc (.cells c T)).drew) ∧ ∀ b cs t, Box W b cs t → Box ((((W.alloc (.cells c T)).alloc (.cells c T)).alloc (.cells c T)).drew) b cs t :=
  ⟨(((Box.new W _ _ rfl).alloc _).alloc _).drew, ((Box.new _ _ _ (by simp)).alloc _).drew, (Box.new _ _ _ (by simp)).drew, ((((Below.refl _ W).alloc (Nat.le_refl _) _).alloc (by simp) _).alloc (by simp; omega) _).drew, fun b cs t h => (((h.alloc _).alloc _).alloc _).drew⟩
theorem two_new (W : World) (c : Array Value) (T : TypeId) : Box (((W.alloc (.cells c T)).alloc (.cells c T)).drew) W.heap.size c T ∧ Box (((W.alloc (.cells c T)).alloc (.cells c T)).drew) (W.heap.size + 1) c T ∧ Below W.heap.size W (((W.alloc (.cells c T)).alloc (.cells c T)).drew) ∧ ∀ b cs t, Box W b cs t → Box (((W.alloc (.cells c T)).alloc (.cells c T)).drew) b cs t :=
  ⟨((Box.new W _ _ rfl).alloc _).drew, (Box.new _ _ _ (by simp)).drew, (((Below.refl _ W).alloc (Nat.le_refl _) _).alloc (by simp) _).drew, fun b cs t h => ((h.alloc _).alloc _).drew⟩
theorem wpList_name {P : Program} {ops : Array Oper} {rest : List Oper} {a : Act} {w : World} {Q : Exit → Act → World → Prop} (R : World → Prop) (hR : R w) (h : ∀ W, R W → wpList P ops Q rest a W) : wpList P ops Q rest a w := h w hR
theorem cut3 {P : Program} {c : Code} {Q : Exit → Act → World → Prop} {a : Act} {w : World} (v : Value) (S : Nat → Nat → Nat → World → Prop) (h : c.wp P (fun e a' w' => e = .normal ∧ ∃ b2 b3 b4, S b2 b3 b4 w' ∧ a' = ((((((a.put (some 31) v).put (some 32) v).put (some 33) v).put (some 2) (.pointer (some ⟨b2, 0, none⟩))).put (some 3) (.pointer (some ⟨b3, 0, none⟩))).put (some 4) (.pointer (some ⟨b4, 0, none⟩)))) a w) (k : ∀ b2 b3 b4 w', S b2 b3 b4 w' → Q .normal ((((((a.put (some 31) v).put (some 32) v).put (some 33) v).put (some 2) (.pointer (some ⟨b2, 0, none⟩))).put (some 3) (.pointer (some ⟨b3, 0, none⟩))).put (some 4) (.pointer (some ⟨b4, 0, none⟩))) w') : c.wp P Q a w := by
  refine Code.wp_mono ?_ h
  rintro e a' w' ⟨rfl, b2, b3, b4, hS, rfl⟩
  exact k b2 b3 b4 w' hS
theorem cut2 {P : Program} {c : Code} {Q : Exit → Act → World → Prop} {a : Act} {w : World} (v : Value) (S : Nat → Nat → World → Prop) (h : c.wp P (fun e a' w' => e = .normal ∧ ∃ b2 b3, S b2 b3 w' ∧ a' = ((((a.put (some 65) v).put (some 66) v).put (some 5) (.pointer (some ⟨b2, 0, none⟩))).put (some 6) (.pointer (some ⟨b3, 0, none⟩)))) a w) (k : ∀ b2 b3 w', S b2 b3 w' → Q .normal ((((a.put (some 65) v).put (some 66) v).put (some 5) (.pointer (some ⟨b2, 0, none⟩))).put (some 6) (.pointer (some ⟨b3, 0, none⟩))) w') : c.wp P Q a w := by
  refine Code.wp_mono ?_ h
  rintro e a' w' ⟨rfl, b2, b3, hS, rfl⟩
  exact k b2 b3 w' hS

set_option maxHeartbeats 8000000 in
set_option maxRecDepth 100000 in
theorem known_any (w : World) (h : Gl w) : Calls Tryd.prog 14 #[] w fun e w' => e = .returned (.bool true) ∧ Below w.heap.size w w' := by
  go_enter Tryd.func14, Tryd.ntmps14
  go_wp2_with (first | (go_at_call 8; (with_reducible refine (new_any _).mono ?_); rintro e w1 ⟨rfl, hb⟩; have h1 := h.below hb; have hl1 := hb; clear hb) | (go_at_call 13; (with_reducible refine (kg0 _ (h1.below (bl_alloc (Below.refl _ _) _))).mono ?_); rintro e w1 ⟨rfl, hb⟩; (first | obtain ⟨X, rfl⟩ := GW.of2 hb | obtain ⟨X, rfl⟩ := GW.of hb); clear hb) | (go_at_call 13; (with_reducible refine (kg1 _ ((h1.below (bl_alloc (Below.refl _ _) _)).below (GW.grow _))).mono ?_); rintro e w1 ⟨rfl, hb⟩; (first | obtain ⟨X, rfl⟩ := GW.of2 hb | obtain ⟨X, rfl⟩ := GW.of hb); clear hb) | (go_at_call 13; (with_reducible refine (kg2 _ ((h1.below (bl_alloc (Below.refl _ _) _)).below (GW.grow _))).mono ?_); rintro e w1 ⟨rfl, hb⟩; (first | obtain ⟨X, rfl⟩ := GW.of2 hb | obtain ⟨X, rfl⟩ := GW.of hb); clear hb) | (go_at_call 13; (with_reducible refine (kg3 _ ((h1.below (bl_alloc (Below.refl _ _) _)).below (GW.grow _))).mono ?_); rintro e w1 ⟨rfl, hb⟩; (first | obtain ⟨X, rfl⟩ := GW.of2 hb | obtain ⟨X, rfl⟩ := GW.of hb); clear hb))
  obtain ⟨W, hW⟩ : ∃ W, X.world = W := ⟨_, rfl⟩
  have hbx : Box W w1.heap.size _ _ := hW ▸ (X.grow.block _ (by simp)).trans (Box.new w1 #[.bool true, .bool false, .bool false, .bool true, .bool false, .bool false, .bool false, .int .i64 0, .int .i64 0] 23 rfl)
  have hlW : Below w.heap.size w W := hW ▸ bl_trans (bl_alloc hl1 _) X.grow
  rw [hW]
  clear hW
  have hc0 := hbx.cell
  have hcl := hbx.lt
  clear h1
  obtain ⟨b1, hb1⟩ : ∃ b1, w1.heap.size = b1 := ⟨_, rfl⟩
  have hb1w : w.heap.size ≤ b1 := hb1 ▸ hl1.size
  rw [hb1] at hbx hc0 hcl ⊢
  clear hb1 hl1
  have hWs := hlW.size
  refine cut3 (.agg #[.bool true, .bool false, .bool false, .bool true, .bool false, .bool false, .bool false, .int .i64 0, .int .i64 0]) (fun b2 b3 b4 Z => Box Z b1 #[.bool true, .bool false, .bool false, .bool true, .bool false, .bool false, .bool false, .int .i64 0, .int .i64 0] 23 ∧ Box Z b2 #[.bool true, .bool false, .bool false, .bool true, .bool false, .bool false, .bool false, .int .i64 0, .int .i64 0] 23 ∧ Box Z b3 #[.bool true, .bool false, .bool false, .bool true, .bool false, .bool false, .bool false, .int .i64 0, .int .i64 0] 23 ∧ Box Z b4 #[.bool true, .bool false, .bool false, .bool true, .bool false, .bool false, .bool false, .int .i64 0, .int .i64 0] 23 ∧ (W.heap.size ≤ b2 ∧ W.heap.size ≤ b3 ∧ W.heap.size ≤ b4 ∧ b2 ≠ b3 ∧ b2 ≠ b4 ∧ b3 ≠ b4) ∧ Below W.heap.size W Z) ?_ ?_
  · have hcl1 : b1 < W.heap.size + 1 := by omega
    have hcl2 : b1 < W.heap.size + 1 + 1 := by omega
    have hne0 : b1 ≠ W.heap.size := by omega
    have hne1 : b1 ≠ W.heap.size + 1 := by omega
    have hne2 : b1 ≠ W.heap.size + 1 + 1 := by omega
    go_region
    all_goals
      have z := three_new W #[.bool true, .bool false, .bool false, .bool true, .bool false, .bool false, .bool false, .int .i64 0, .int .i64 0] 23
      refine ⟨rfl, _, _, _, ?_, rfl⟩
      exact ⟨z.2.2.2.2 _ _ _ hbx, by first | exact z.1 | exact z.2.1 | exact z.2.2.1, by first | exact z.1 | exact z.2.1 | exact z.2.2.1, by first | exact z.1 | exact z.2.1 | exact z.2.2.1, by omega, z.2.2.2.1⟩
  · intro b2 b3 b4 Z hS
    obtain ⟨k1, k2, k3, k4, ⟨n1, n2, n3, n4, n5, n6⟩, hZ⟩ := hS
    simp only [Act.put, List.getElem_toArray, List.getElem_cons_zero, List.getElem_cons_succ, List.setIfInBounds_toArray, List.set_cons_zero, List.set_cons_succ]
    have g1 := k1.cell
    have g2 := k2.cell
    have g3 := k3.cell
    have g4 := k4.cell
    have f2 := k2.free
    have f3 := k3.free
    have f4 := k4.free
    have l1 := k1.lt
    have l2 := k2.lt
    have l3 := k3.lt
    have l4 := k4.lt
    have m2 : b1 ≠ b2 := by omega
    have m3 : b1 ≠ b3 := by omega
    have m4 : b1 ≠ b4 := by omega
    have m2' : b2 ≠ b1 := by omega
    have m3' : b3 ≠ b1 := by omega
    have m4' : b4 ≠ b1 := by omega
    have n4' : b3 ≠ b2 := by omega
    have n5' : b4 ≠ b2 := by omega
    have n6' : b4 ≠ b3 := by omega
    have hl3 : Below w.heap.size w (((Z.setCell ⟨b2, 7, none⟩ (.int .i64 1002)).setCell ⟨b3, 7, none⟩ (.int .i64 1003)).setCell ⟨b4, 7, none⟩ (.int .i64 5)) := by
      refine Below.setCell (Below.setCell (Below.setCell (bl_trans hlW hZ) ?_ _) ?_ _) ?_ _
      · show w.heap.size ≤ b2; omega
      · show w.heap.size ≤ b3; omega
      · show w.heap.size ≤ b4; omega
    have hR3 : Box (((Z.setCell ⟨b2, 7, none⟩ (.int .i64 1002)).setCell ⟨b3, 7, none⟩ (.int .i64 1003)).setCell ⟨b4, 7, none⟩ (.int .i64 5)) b1 #[.bool true, .bool false, .bool false, .bool true, .bool false, .bool false, .bool false, .int .i64 0, .int .i64 0] 23 ∧ Box (((Z.setCell ⟨b2, 7, none⟩ (.int .i64 1002)).setCell ⟨b3, 7, none⟩ (.int .i64 1003)).setCell ⟨b4, 7, none⟩ (.int .i64 5)) b2 #[.bool true, .bool false, .bool false, .bool true, .bool false, .bool false, .bool false, .int .i64 1002, .int .i64 0] 23 ∧ Box (((Z.setCell ⟨b2, 7, none⟩ (.int .i64 1002)).setCell ⟨b3, 7, none⟩ (.int .i64 1003)).setCell ⟨b4, 7, none⟩ (.int .i64 5)) b3 #[.bool true, .bool false, .bool false, .bool true, .bool false, .bool false, .bool false, .int .i64 1003, .int .i64 0] 23 ∧ Box (((Z.setCell ⟨b2, 7, none⟩ (.int .i64 1002)).setCell ⟨b3, 7, none⟩ (.int .i64 1003)).setCell ⟨b4, 7, none⟩ (.int .i64 5)) b4 #[.bool true, .bool false, .bool false, .bool true, .bool false, .bool false, .bool false, .int .i64 5, .int .i64 0] 23 ∧ Below w.heap.size w (((Z.setCell ⟨b2, 7, none⟩ (.int .i64 1002)).setCell ⟨b3, 7, none⟩ (.int .i64 1003)).setCell ⟨b4, 7, none⟩ (.int .i64 5)) :=
      ⟨((k1.set_other m2 7 _).set_other m3 7 _).set_other m4 7 _, Box.as (((k2.set 7 _).set_other n4 7 _).set_other n5 7 _) (by rfl), Box.as (((k3.set_other n4' 7 _).set 7 _).set_other n6 7 _) (by rfl), Box.as (((k4.set_other n5' 7 _).set_other n6' 7 _).set 7 _) (by rfl), hl3⟩
    go_wp2_with (first | (with_reducible refine wpList_name (fun W => Box W b1 #[.bool true, .bool false, .bool false, .bool true, .bool false, .bool false, .bool false, .int .i64 0, .int .i64 0] 23 ∧ Box W b2 #[.bool true, .bool false, .bool false, .bool true, .bool false, .bool false, .bool false, .int .i64 1002, .int .i64 0] 23 ∧ Box W b3 #[.bool true, .bool false, .bool false, .bool true, .bool false, .bool false, .bool false, .int .i64 1003, .int .i64 0] 23 ∧ Box W b4 #[.bool true, .bool false, .bool false, .bool true, .bool false, .bool false, .bool false, .int .i64 5, .int .i64 0] 23 ∧ Below w.heap.size w W) hR3 ?_; clear hR3 g1 g2 g3 g4 f2 f3 f4 l1 l2 l3 l4 hl3; rintro W3 ⟨s1, s2, s3, s4, hl3⟩; have g1 := s1.cell; have g2 := s2.cell; have g3 := s3.cell; have l1 := s1.lt; have l2 := s2.lt; have l3 := s3.lt; have hG3 := h.below hl3) | (go_at_call 12; (with_reducible refine (ks0 _ hG3).mono ?_); rintro e w1 ⟨rfl, hb⟩; (first | obtain ⟨X, rfl⟩ := GW.of2 hb | obtain ⟨X, rfl⟩ := GW.of hb); clear hb) | (go_at_call 12; (with_reducible refine (ks1 _ (hG3.below (GW.grow _))).mono ?_); rintro e w1 ⟨rfl, hb⟩; (first | obtain ⟨X, rfl⟩ := GW.of2 hb | obtain ⟨X, rfl⟩ := GW.of hb); clear hb) | (go_at_call 12; (with_reducible refine (ks2 _ (hG3.below (GW.grow _))).mono ?_); rintro e w1 ⟨rfl, hb⟩; (first | obtain ⟨X, rfl⟩ := GW.of2 hb | obtain ⟨X, rfl⟩ := GW.of hb); clear hb) | (go_at_call 12; (with_reducible refine (ks3 _ (hG3.below (GW.grow _))).mono ?_); rintro e w1 ⟨rfl, hb⟩; (first | obtain ⟨X, rfl⟩ := GW.of2 hb | obtain ⟨X, rfl⟩ := GW.of hb); clear hb) | (go_at_call 12; (with_reducible refine (ks4 _ (hG3.below (GW.grow _))).mono ?_); rintro e w1 ⟨rfl, hb⟩; (first | obtain ⟨X, rfl⟩ := GW.of2 hb | obtain ⟨X, rfl⟩ := GW.of hb); clear hb))
    obtain ⟨V, hV⟩ : ∃ V, X.world = V := ⟨_, rfl⟩
    have hlV : Below w.heap.size w V := hV ▸ bl_trans hl3 X.grow
    have v1 : Box V b1 #[.bool true, .bool false, .bool false, .bool true, .bool false, .bool false, .bool false, .int .i64 0, .int .i64 0] 23 := hV ▸ (X.grow.block _ s1.lt).trans s1
    have v4 : Box V b4 #[.bool true, .bool false, .bool false, .bool true, .bool false, .bool false, .bool false, .int .i64 5, .int .i64 0] 23 := hV ▸ (X.grow.block _ s4.lt).trans s4
    rw [hV]
    clear hV hG3 hl3 g1 g2 g3 l1 l2 l3 k1 k2 k3 k4 hZ s1 s2 s3 s4
    have g1 := v1.cell
    have hcl := v1.lt
    have hcl4 := v4.lt
    have hVs := hlV.size
    refine cut2 (.agg #[.bool true, .bool false, .bool false, .bool true, .bool false, .bool false, .bool false, .int .i64 0, .int .i64 0]) (fun b5 b6 Y => Box Y b1 #[.bool true, .bool false, .bool false, .bool true, .bool false, .bool false, .bool false, .int .i64 0, .int .i64 0] 23 ∧ Box Y b4 #[.bool true, .bool false, .bool false, .bool true, .bool false, .bool false, .bool false, .int .i64 5, .int .i64 0] 23 ∧ Box Y b5 #[.bool true, .bool false, .bool false, .bool true, .bool false, .bool false, .bool false, .int .i64 0, .int .i64 0] 23 ∧ Box Y b6 #[.bool true, .bool false, .bool false, .bool true, .bool false, .bool false, .bool false, .int .i64 0, .int .i64 0] 23 ∧ (V.heap.size ≤ b5 ∧ V.heap.size ≤ b6 ∧ b5 ≠ b6) ∧ Below V.heap.size V Y) ?_ ?_
    · have hcl1 : b1 < V.heap.size + 1 := by omega
      have hne0 : b1 ≠ V.heap.size := by omega
      have hne1 : b1 ≠ V.heap.size + 1 := by omega
      go_region
      all_goals
        have z := two_new V #[.bool true, .bool false, .bool false, .bool true, .bool false, .bool false, .bool false, .int .i64 0, .int .i64 0] 23
        refine ⟨rfl, _, _, ?_, rfl⟩
        exact ⟨z.2.2.2 _ _ _ v1, z.2.2.2 _ _ _ v4, by first | exact z.1 | exact z.2.1, by first | exact z.1 | exact z.2.1, by omega, z.2.2.1⟩
    · intro b5 b6 Y hS
      obtain ⟨k1, k4, k5, k6, ⟨n7, n8, n9⟩, hY⟩ := hS
      simp only [Act.put, List.getElem_toArray, List.getElem_cons_zero, List.getElem_cons_succ, List.setIfInBounds_toArray, List.set_cons_zero, List.set_cons_succ]
      clear g1
      have g1 := k1.cell
      have g4 := k4.cell
      have g5 := k5.cell
      have g6 := k6.cell
      have f5 := k5.free
      have f6 := k6.free
      have l1 := k1.lt
      have l4 := k4.lt
      have l5 := k5.lt
      have l6 := k6.lt
      have m5 : b1 ≠ b5 := by omega
      have m6 : b1 ≠ b6 := by omega
      have m45 : b4 ≠ b5 := by omega
      have m46 : b4 ≠ b6 := by omega
      have n9' : b6 ≠ b5 := by omega
      have hl6 : Below w.heap.size w ((((Y.setCell ⟨b5, 3, none⟩ (.bool false)).setCell ⟨b6, 2, none⟩ (.bool true)).setCell ⟨b6, 0, none⟩ (.bool false)).setCell ⟨b6, 8, none⟩ (.int .i64 1049)) := by
        refine Below.setCell (Below.setCell (Below.setCell (Below.setCell (bl_trans hlV hY) ?_ _) ?_ _) ?_ _) ?_ _
        · show w.heap.size ≤ b5; omega
        · show w.heap.size ≤ b6; omega
        · show w.heap.size ≤ b6; omega
        · show w.heap.size ≤ b6; omega
      have hR6 : Box ((((Y.setCell ⟨b5, 3, none⟩ (.bool false)).setCell ⟨b6, 2, none⟩ (.bool true)).setCell ⟨b6, 0, none⟩ (.bool false)).setCell ⟨b6, 8, none⟩ (.int .i64 1049)) b1 #[.bool true, .bool false, .bool false, .bool true, .bool false, .bool false, .bool false, .int .i64 0, .int .i64 0] 23 ∧ Box ((((Y.setCell ⟨b5, 3, none⟩ (.bool false)).setCell ⟨b6, 2, none⟩ (.bool true)).setCell ⟨b6, 0, none⟩ (.bool false)).setCell ⟨b6, 8, none⟩ (.int .i64 1049)) b4 #[.bool true, .bool false, .bool false, .bool true, .bool false, .bool false, .bool false, .int .i64 5, .int .i64 0] 23 ∧ Box ((((Y.setCell ⟨b5, 3, none⟩ (.bool false)).setCell ⟨b6, 2, none⟩ (.bool true)).setCell ⟨b6, 0, none⟩ (.bool false)).setCell ⟨b6, 8, none⟩ (.int .i64 1049)) b5 #[.bool true, .bool false, .bool false, .bool false, .bool false, .bool false, .bool false, .int .i64 0, .int .i64 0] 23 ∧ Box ((((Y.setCell ⟨b5, 3, none⟩ (.bool false)).setCell ⟨b6, 2, none⟩ (.bool true)).setCell ⟨b6, 0, none⟩ (.bool false)).setCell ⟨b6, 8, none⟩ (.int .i64 1049)) b6 #[.bool false, .bool false, .bool true, .bool true, .bool false, .bool false, .bool false, .int .i64 0, .int .i64 1049] 23 ∧ Below w.heap.size w ((((Y.setCell ⟨b5, 3, none⟩ (.bool false)).setCell ⟨b6, 2, none⟩ (.bool true)).setCell ⟨b6, 0, none⟩ (.bool false)).setCell ⟨b6, 8, none⟩ (.int .i64 1049)) :=
        ⟨(((k1.set_other m5 3 _).set_other m6 2 _).set_other m6 0 _).set_other m6 8 _, (((k4.set_other m45 3 _).set_other m46 2 _).set_other m46 0 _).set_other m46 8 _, Box.as ((((k5.set 3 _).set_other n9 2 _).set_other n9 0 _).set_other n9 8 _) (by rfl), Box.as ((((k6.set_other n9' 3 _).set 2 _).set 0 _).set 8 _) (by rfl), hl6⟩
      go_wp2_with (first | (with_reducible refine wpList_name (fun W => Box W b1 #[.bool true, .bool false, .bool false, .bool true, .bool false, .bool false, .bool false, .int .i64 0, .int .i64 0] 23 ∧ Box W b4 #[.bool true, .bool false, .bool false, .bool true, .bool false, .bool false, .bool false, .int .i64 5, .int .i64 0] 23 ∧ Box W b5 #[.bool true, .bool false, .bool false, .bool false, .bool false, .bool false, .bool false, .int .i64 0, .int .i64 0] 23 ∧ Box W b6 #[.bool false, .bool false, .bool true, .bool true, .bool false, .bool false, .bool false, .int .i64 0, .int .i64 1049] 23 ∧ Below w.heap.size w W) hR6 ?_; clear hR6 g1 g4 g5 g6 f5 f6 l1 l4 l5 l6 hl6; rintro W6 ⟨s1, s4, s5, s6, hl6⟩; have g1 := s1.cell; have g4 := s4.cell; have g5 := s5.cell; have g6 := s6.cell; have l1 := s1.lt; have l4 := s4.lt; have l5 := s5.lt; have l6 := s6.lt; have l1' := Nat.lt_succ_of_lt l1; have l4' := Nat.lt_succ_of_lt l4; have l5' := Nat.lt_succ_of_lt l5; have l6' := Nat.lt_succ_of_lt l6; have hG6 := h.below hl6) | (go_at_call 18; (with_reducible refine (ka _ _ (hG6.below (bl_alloc (Below.refl _ _) _)) (Rd.lit3 _ _ _ _ _ _ _ (by simp))).mono ?_); rintro e w1 ⟨rfl, hb⟩; (first | obtain ⟨X, rfl⟩ := GW.of2 hb | obtain ⟨X, rfl⟩ := GW.of hb); clear hb) | (go_at_call 19; (with_reducible refine (kt0 _ ((hG6.below (bl_alloc (Below.refl _ _) _)).below (GW.grow _))).mono ?_); rintro e w1 ⟨rfl, hb⟩; (first | obtain ⟨X, rfl⟩ := GW.of2 hb | obtain ⟨X, rfl⟩ := GW.of hb); clear hb) | (go_at_call 19; (with_reducible refine (kt1 _ ((hG6.below (bl_alloc (Below.refl _ _) _)).below (GW.grow _))).mono ?_); rintro e w1 ⟨rfl, hb⟩; (first | obtain ⟨X, rfl⟩ := GW.of2 hb | obtain ⟨X, rfl⟩ := GW.of hb); clear hb) | (go_at_call 19; (with_reducible refine (kt2 _ ((hG6.below (bl_alloc (Below.refl _ _) _)).below (GW.grow _))).mono ?_); rintro e w1 ⟨rfl, hb⟩; (first | obtain ⟨X, rfl⟩ := GW.of2 hb | obtain ⟨X, rfl⟩ := GW.of hb); clear hb))
      go_ret
      exact ⟨rfl, bl_trans (bl_alloc hl6 _) X.grow⟩

end Go.Proofs.YtcmflmmidipckaaDoor
