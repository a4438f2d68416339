/- utf: UtfHolds returns true for every input. No condition. -/
import Derived.Test.YtacpbfkelpehhaaHolds
set_option linter.unusedSimpArgs false
set_option linter.unusedVariables false
set_option linter.unnecessarySimpa false
namespace Go.Proofs.Ytacpbfkelpehhaa
open Go.ChangeShapes Go.WideShapes Go.ChangeAt Go.RowKit
attribute [local go_sem ↓] Go.wp_at_zero Go.wp_at_succ

set_option maxRecDepth 100000 in
set_option maxHeartbeats 4000000 in
theorem utfHolds_gt (p : Option Addr) (cap : Nat) (xs : List Int) (f s : Int) (I K : Nat) (w : World) (h0 : Rd w .u8 (.slice p xs.length cap) xs) (hby : ∀ x ∈ xs, Byte x) (hf : 0 ≤ f ∧ f < 256) (hs : 0 ≤ s ∧ s < 256)
    (hlen : (xs.length : Int) ≤ 150) (E1 : f % ((xs.length : Int) + 1) = (K : Int)) (E2 : s % ((xs.length : Int) + 1) = (I : Int)) (hIK : I < K) (hK : K ≤ xs.length) :
    Calls Try.prog 6 #[.slice p xs.length cap, .int .u8 f, .int .u8 s] w fun e w' => e = .returned (.bool true) ∧ Below w.heap.size w w' := by
  have hcap : xs.length ≤ cap ∧ cap ≤ 9223372036854775807 := by
    obtain ⟨q, c, hq, g1, g2, _⟩ := h0
    injection hq with _ _ g3
    subst g3
    unfold maxLen at g2
    omega
  obtain ⟨x1, hx1⟩ : ∃ x, x = (xs.take I).drop 0 := ⟨_, rfl⟩
  obtain ⟨x2, hx2⟩ : ∃ x, x = (xs.take K).drop I := ⟨_, rfl⟩
  obtain ⟨x3, hx3⟩ : ∃ x, x = (xs.take xs.length).drop K := ⟨_, rfl⟩
  have hIK2 : I ≤ K := by omega
  have hxs : Hid (x1 ++ x2 ++ x3 = xs) := by
    unfold Hid
    rw [hx1, hx2, hx3, List.drop_zero, List.take_length]
    rw [show xs.take I = (xs.take K).take I by rw [List.take_take, Nat.min_eq_left hIK2], List.take_append_drop, List.take_append_drop]
  have hby1 : ∀ x ∈ x1, Byte x := fun x hx => hby x (by rw [← hxs.out]; simp [hx])
  have hby2 : ∀ x ∈ x2, Byte x := fun x hx => hby x (by rw [← hxs.out]; simp [hx])
  have hby3 : ∀ x ∈ x3, Byte x := fun x hx => hby x (by rw [← hxs.out]; simp [hx])
  have hll : x1.length + x2.length + x3.length = xs.length := by rw [← hxs.out]; simp; omega
  have hlen2 : xs.length ≤ 1000000000 := by omega
  have hlen3 : x1.length ≤ 1000000000 := by omega
  have hlen4 : x2.length ≤ 1000000000 := by omega
  have hlen5 : x3.length ≤ 1000000000 := by omega
  have hw1 : Wf (feedS [] x1) := feedS_wf _ _ .nil hby1
  have hw2 : Wf (feedS (feedS [] x1) x2) := feedS_wf _ _ hw1 hby2
  have hfl1 := feed_len x1 [] .nil hby1
  have hfl2 := feed_len x2 _ hw1 hby2
  have hfl3 := feed_len x3 _ hw2 hby3
  have hw1l := hw1.len
  have hw2l := hw2.len
  simp only [List.length_nil] at hfl1
  have EO : Hid (feedO [] x1 ++ feedO (feedS [] x1) x2 ++ feedO (feedS (feedS [] x1) x2) x3 = feedO [] xs) := by
    unfold Hid; rw [← hxs.out, feedO_append, feedO_append, feedS_append]
  have ES : Hid (feedS (feedS (feedS [] x1) x2) x3 = feedS [] xs) := by
    unfold Hid; rw [← hxs.out, feedS_append, feedS_append]
  have X1 := Lib.hid hx1
  have X2 := Lib.hid hx2
  have X3 := Lib.hid hx3
  have LL := Lib.hid hll
  clear hx1 hx2 hx3 hll
  have hvb0 := h0.in
  go_enter Try.func6, Try.ntmps6
  go_wp2_with fail
  first | refine wp_grow2 (by kernel_rfl) (by kernel_rfl) ?_ | refine wp_grow (by kernel_rfl) (by kernel_rfl) ?_
  repeat (go_big_quiet_step (fail))
  refine wpQuiet_nil ?_
  rintro _ ⟨X, rfl⟩
  have hXs := X.grow.size
  have hvb : ∀ g, (Value.slice p xs.length cap).ownBlock = some g → g < X.world.heap.size := fun g hg => by have := hvb0 g hg; omega
  have hvb2 : (Value.slice p xs.length cap).ownBlock ≠ some (X.world.heap.size + 1) := fun e => by have := hvb _ e; omega
  have hapA : Apart (.slice p xs.length cap) X.world.heap.size := apart_of (fun e => by have := hvb _ e; omega)
  have hapB : Apart (.slice p xs.length cap) (X.world.heap.size + 1) := apart_of hvb2
  have h1 : Rd ((X.world.alloc (.cells #[.slice none 0 0, .int .i64 0, .int .u8 0, .int .u8 0] 35)).alloc (.cells #[.slice none 0 0, .int .i64 0, .int .u8 0, .int .u8 0] 35)) .u8 (.slice p xs.length cap) xs := (((h0.below X.grow).below ((Below.refl _ _).alloc (Nat.le_refl _) _)).below ((Below.refl _ _).alloc (Nat.le_refl _) _))
  have hdA0 : DecV ((X.world.alloc (.cells #[.slice none 0 0, .int .i64 0, .int .u8 0, .int .u8 0] 35)).alloc (.cells #[.slice none 0 0, .int .i64 0, .int .u8 0, .int .u8 0] 35)) X.world.heap.size 35 [] (.slice none 0 0) [] := (DecV.zero X.world _ rfl).below ((Below.refl _ _).alloc (Nat.le_refl _) _)
  have hdB1 : DecV ((X.world.alloc (.cells #[.slice none 0 0, .int .i64 0, .int .u8 0, .int .u8 0] 35)).alloc (.cells #[.slice none 0 0, .int .i64 0, .int .u8 0, .int .u8 0] 35)) (X.world.heap.size + 1) 35 [] (.slice none 0 0) [] := DecV.zero _ _ (by simp)
  have hDD : w.heap.size ≤ X.world.heap.size := hXs
  have hDD2 : w.heap.size ≤ X.world.heap.size + 1 := by omega
  have hl1b : Below w.heap.size w ((X.world.alloc (.cells #[.slice none 0 0, .int .i64 0, .int .u8 0, .int .u8 0] 35)).alloc (.cells #[.slice none 0 0, .int .i64 0, .int .u8 0, .int .u8 0] 35)) := bl_alloc (bl_alloc X.grow _) _
  have hsz1 : ((X.world.alloc (.cells #[.slice none 0 0, .int .i64 0, .int .u8 0, .int .u8 0] 35)).alloc (.cells #[.slice none 0 0, .int .i64 0, .int .u8 0, .int .u8 0] 35)).heap.size = X.world.heap.size + 2 := by simp
  go_wp2_with (first | (go_at_call 17; (with_reducible refine (feed_any _ _ _ _ _ [] xs _ hdA0 .nil h1 hapA hby hlen2).mono ?_); rintro e W2 ⟨a, bv1, rfl, hA, hbarA, hdA1, hfrA, hoffA⟩; have hs2 := hbarA.size; have hdB2 := hdB1.kept hbarA.grown (by simp) (.inl rfl); have h2 := h1.bar hapA hbarA; have ha2 := hA.block; have hb1 : ∀ g, bv1.ownBlock = some g → X.world.heap.size + 2 ≤ g ∧ g < W2.heap.size := (fun g hg => ⟨by rcases hfrA with rfl | hf; (simp [Value.ownBlock] at hg); (have := hdA1.rd.fresh hf g hg; simpa using this), hdA1.rd.in g hg⟩); have hl2b := Bar.to_below hl1b hbarA hDD) | (refine wpList_part rfl (.tmp 40) none (some (.tmp 41)) rfl p cap xs rfl h2 0 I (.inl ⟨rfl, rfl⟩) (.inr rfl) (Nat.zero_le _) (by omega) ?_; intro y1 hy1 hyb1; rw [← X1.out] at hy1) | (go_at_call 17; (with_reducible refine (feed_any _ _ _ _ _ [] x1 _ hdB2 .nil hy1 (apart_of (by rw [hyb1]; exact hvb2)) hby1 hlen3).mono ?_); rintro e W3 ⟨l1, bv2, rfl, hl1, hbarB, hdB3, hfrB, hoffB⟩; have hs3 := hbarB.size; have hA3 := Own.bar hA hbarB (hA.off (by simp)); have hdA3 := hdA1.kept hbarB.grown (by simp) (.inr (fun e => by have := (hb1 _ e).1; omega)); have h3 := h2.bar hapB hbarB; have hlb1 := hl1.block; have hb2 : ∀ g, bv2.ownBlock = some g → l1.ownBlock ≠ some g ∧ W2.heap.size ≤ g ∧ g < W3.heap.size := (fun g hg => ⟨hoffB g hg, by rcases hfrB with rfl | hf; (simp [Value.ownBlock] at hg); (exact hdB3.rd.fresh hf g hg), hdB3.rd.in g hg⟩); have hl3b := Bar.to_below hl2b hbarB hDD2) | (refine wpList_part rfl (.tmp 45) (some (.tmp 46)) (some (.tmp 47)) rfl p cap xs rfl h3 I K (.inr rfl) (.inr rfl) (by omega) (by omega) ?_; intro y2 hy2 hyb2; rw [← X2.out] at hy2) | (go_at_call 17; (with_reducible refine (feed_any _ _ _ _ _ (feedS [] x1) x2 _ hdB3 hw1 hy2 (apart_of (by rw [hyb2]; exact hvb2)) hby2 hlen4).mono ?_); rintro e W4 ⟨m2, bv3, rfl, hm2, hbarC, hdB4, hfrC, hoffC⟩; have hs4 := hbarC.size; have hA4 := Own.bar hA3 hbarC (hA.off (by simp)); have hdA4 := hdA3.kept hbarC.grown (by simp) (.inr (fun e => by have := (hb1 _ e).1; omega)); have h4 := h3.bar hapB hbarC; have hl14 := Own.bar hl1 hbarC (hl1.off (by omega)); have hb3 : ∀ g, bv3.ownBlock = some g → l1.ownBlock ≠ some g ∧ W2.heap.size ≤ g ∧ g < W4.heap.size := (fun g hg => by rcases hfrC with rfl | hf; (have := hb2 g hg; exact ⟨this.1, this.2.1, by omega⟩); (have h5 := hdB4.rd.fresh hf g hg; exact ⟨fun e => by have := (hlb1 g e).2; omega, by omega, hdB4.rd.in g hg⟩)); have hl4b := Bar.to_below hl3b hbarC hDD2; have hmb2 := hm2.block) | (at_builtin; refine wpList_appw rfl _ _ 25 21 .i32 4 rfl Try.underlying25 el32 W2.heap.size _ _ (feedO [] x1) (feedO (feedS [] x1) x2) hl14 hm2.rd rfl rfl (by simp only [maxLen]; omega) (by omega) (by omega) ?_; intro l2 W5 hl2 hgC hwC; have hs5 := hgC.size; have hA5 := Own.keep hA4 hgC (fun g hg e => by have := (ha2 g hg).2; have := (hlb1 g e).1; omega); have hdA5 := hdA4.kept hgC (fun e => by have := (hlb1 _ e).1; omega) (nblk (fun g hg e => by have := (hb1 g hg).2; have := (hlb1 g e).1; omega)); have hdB5 := hdB4.kept hgC (fun e => by have := (hlb1 _ e).1; omega) (nblk (fun g hg e => (hb3 g hg).1 e)); have h5 := h4.kept hgC (nblk (fun g hg e => by have := hvb g hg; have := (hlb1 g e).1; omega)); have hb35 : ∀ g, bv3.ownBlock = some g → l2.ownBlock ≠ some g ∧ W2.heap.size ≤ g ∧ g < W5.heap.size := (fun g hg => by have hq := hb3 g hg; refine ⟨fun e => ?_, hq.2.1, by omega⟩; (rcases hwC with h | h); (rw [h] at e; exact hq.1 e); (rw [h] at e; injection e; omega)); have hlb2 := hl2.block; have hl5b := app_below hl4b hgC (fun g h => by have := (hlb1 g h).1; have := hl2b.size; omega)) | (refine wpList_part rfl (.tmp 52) (some (.tmp 53)) none rfl p cap xs rfl h5 K xs.length (.inr rfl) (.inl ⟨rfl, rfl⟩) (by omega) (Nat.le_refl _) ?_; intro y3 hy3 hyb3; rw [← X3.out] at hy3) | (go_at_call 17; (with_reducible refine (feed_any _ _ _ _ _ (feedS (feedS [] x1) x2) x3 _ hdB5 hw2 hy3 (apart_of (by rw [hyb3]; exact hvb2)) hby3 hlen5).mono ?_); rintro e W6 ⟨m3, bv4, rfl, hm3, hbarD, hdB6, hfrD, hoffD⟩; have hs6 := hbarD.size; have hA6 := Own.bar hA5 hbarD (hA.off (by simp)); have hdA6 := hdA5.kept hbarD.grown (by simp) (.inr (fun e => by have := (hb1 _ e).1; omega)); have h6 := h5.bar hapB hbarD; have hl26 := Own.bar hl2 hbarD (hl2.off (by omega)); have hb4 : ∀ g, bv4.ownBlock = some g → l2.ownBlock ≠ some g ∧ W2.heap.size ≤ g ∧ g < W6.heap.size := (fun g hg => by rcases hfrD with rfl | hf; (have := hb35 g hg; exact ⟨this.1, this.2.1, by omega⟩); (have h5 := hdB6.rd.fresh hf g hg; exact ⟨fun e => by have := (hlb2 g e).2; omega, by omega, hdB6.rd.in g hg⟩)); have hl6b := Bar.to_below hl5b hbarD hDD2) | (at_builtin; refine wpList_appw rfl _ _ 25 21 .i32 4 rfl Try.underlying25 el32 W2.heap.size _ _ (feedO [] x1 ++ feedO (feedS [] x1) x2) (feedO (feedS (feedS [] x1) x2) x3) hl26 hm3.rd rfl rfl (by simp only [maxLen, List.length_append]; omega) (by simp only [List.length_append]; omega) (by omega) ?_; intro l3 W7 hl3 hgD hwD; have hs7 := hgD.size; have hA7 := Own.keep hA6 hgD (fun g hg e => by have := (ha2 g hg).2; have := (hlb2 g e).1; omega); have hdA7 := hdA6.kept hgD (fun e => by have := (hlb2 _ e).1; omega) (nblk (fun g hg e => by have := (hb1 g hg).2; have := (hlb2 g e).1; omega)); have hdB7 := hdB6.kept hgD (fun e => by have := (hlb2 _ e).1; omega) (nblk (fun g hg e => (hb4 g hg).1 e)); have h7 := h6.kept hgD (nblk (fun g hg e => by have := hvb g hg; have := (hlb2 g e).1; omega)); have hl7b := app_below hl6b hgD (fun g h => by have := (hlb2 g h).1; have := hl2b.size; omega)))
  rw [EO.out] at hl3
  rw [ES.out] at hdB7
  have hwf : Wf (feedS [] xs) := feedS_wf _ _ .nil hby
  have hps := hwf.len
  have hal := feed_len xs [] .nil hby
  have hvl : Hid (∀ r ∈ feedO [] xs, validR r = true) := feed_valid xs [] .nil hby
  simp only [List.length_nil, Nat.zero_add] at hal
  have hq3 : decide ((3 : Int) < ((feedS [] xs).length : Int)) = false := by rw [decide_eq_false_iff_not]; omega
  have hq4 : decide ((xs.length : Int) < ((feedO [] xs).length : Int)) = false := by rw [decide_eq_false_iff_not]; omega
  obtain ⟨pa, ca, ea, hca1, hca2, hca3⟩ := hA7.rd
  subst ea
  unfold maxLen at hca2
  clear hl1 hm2 hl2 hm3 hgC hgD hwC hwD hl14 hl26 hA3 hA4 hA5 hA6
  have hS : Below W7.heap.size W7 W7.drew := (Below.refl _ _).drew
  refine wp_region_late (fun Z => Below W7.heap.size W7 Z) [] (by kernel_rfl) ?_
  refine wpAnyG_pure (v := ?v0) 0 rfl (by kernel_rfl) (by kernel_rfl) (by kernel_rfl) (by kernel_rfl) (fun _ _ _ h => h) (Or.inl ⟨by rfl, ?h0⟩) (fun _ => hS) (fun _ => ?r0)
  case h0 => (intro w _; go_simp; try with_reducible rfl)
  try simp only [Act.put, List.getElem_toArray, List.getElem_cons_zero, List.getElem_cons_succ, List.setIfInBounds_toArray, List.set_cons_zero, List.set_cons_succ]
  refine wpAnyG_pure (v := ?v1) 1 rfl (by kernel_rfl) (by kernel_rfl) (by kernel_rfl) (by kernel_rfl) (fun _ _ _ h => h) (Or.inl ⟨by rfl, ?h1⟩) (fun _ => hS) (fun _ => ?r1)
  case h1 => (intro w _; go_simp; try with_reducible rfl)
  try simp only [Act.put, List.getElem_toArray, List.getElem_cons_zero, List.getElem_cons_succ, List.setIfInBounds_toArray, List.set_cons_zero, List.set_cons_succ]
  refine wpAnyG_one 2 rfl (by kernel_rfl) ?_
  refine wpOp_step rfl (fun K hK => ?_)
  go_simp
  refine (same_true _ _ _ _ _ (hA7.rd.below hS) (hl3.rd.below hS) (Lib.hid rfl)).mono ?_
  rintro e W8 ⟨rfl, hb8⟩
  have hb80 : Below W7.heap.size W7 W8 := bl_trans hS hb8
  go_simp
  refine hK _ _ ⟨fun _ => hb80, ?_⟩
  clear hK K
  try simp only [Act.put, List.getElem_toArray, List.getElem_cons_zero, List.getElem_cons_succ, List.setIfInBounds_toArray, List.set_cons_zero, List.set_cons_succ]
  refine wpAnyG_pure (v := ?v3) 3 rfl (by kernel_rfl) (by kernel_rfl) (by kernel_rfl) (by kernel_rfl) (fun _ _ _ h => h) (Or.inl ⟨by rfl, ?h3⟩) (fun _ => hb80) (fun _ => ?r3)
  case h3 => (intro w _; go_simp; try with_reducible rfl)
  try simp only [Act.put, List.getElem_toArray, List.getElem_cons_zero, List.getElem_cons_succ, List.setIfInBounds_toArray, List.set_cons_zero, List.set_cons_succ]
  refine wpAnyG_pure (v := ?v4) 4 rfl (by kernel_rfl) (by kernel_rfl) (by kernel_rfl) (by kernel_rfl) (fun _ _ _ h => h) (Or.inl ⟨by rfl, ?h4⟩) (fun _ => hb80) (fun _ => ?r4)
  case h4 => (intro w _; go_simp; try with_reducible rfl)
  try simp only [Act.put, List.getElem_toArray, List.getElem_cons_zero, List.getElem_cons_succ, List.setIfInBounds_toArray, List.set_cons_zero, List.set_cons_succ]
  refine wpAnyG_one 5 rfl (by kernel_rfl) ?_
  refine wpOp_step rfl (fun K hK => ?_)
  go_simp
  refine (pending_any _ _ _ _ _ _ (hdA7.below hb80) hps).mono ?_
  rintro e W9 ⟨u9, rfl, hu9, hb9⟩
  have hb90 : Below W7.heap.size W7 W9 := bl_trans hb80 hb9
  go_simp
  refine hK _ _ ⟨fun _ => hb90, ?_⟩
  clear hK K
  try simp only [Act.put, List.getElem_toArray, List.getElem_cons_zero, List.getElem_cons_succ, List.setIfInBounds_toArray, List.set_cons_zero, List.set_cons_succ]
  refine wpAnyG_mono (S' := fun Z => Below W9.heap.size W9 Z) (fun Z hZ => bl_trans hb90 hZ) ?_
  clear hS
  have hS : Below W9.heap.size W9 W9 := Below.refl _ _
  refine wpAnyG_load (v := ?v6) 6 rfl (by kernel_rfl) (by kernel_rfl) (by kernel_rfl) (by kernel_rfl) (fun _ _ _ h => h) (Or.inl ⟨by rfl, ?h6⟩) hS (fun _ => ?r6)
  case h6 => (intro Z hZ; have kc := run_str (P := Try.prog) 22 9 5 Try.underlying22 Try.underlying5 Try.underlying9 (hu9.rd.below hZ); go_simp; try with_reducible rfl)
  try simp only [Act.put, List.getElem_toArray, List.getElem_cons_zero, List.getElem_cons_succ, List.setIfInBounds_toArray, List.set_cons_zero, List.set_cons_succ]
  refine wpAnyG_one 7 rfl (by kernel_rfl) ?_
  refine wpOp_step rfl (fun K hK => ?_)
  go_simp
  refine (pending_any _ _ _ _ _ _ (hdB7.below hb90) hps).mono ?_
  rintro e W10 ⟨u10, rfl, hu10, hb10⟩
  go_simp
  refine hK _ _ ⟨fun _ => hb10, ?_⟩
  clear hK K
  try simp only [Act.put, List.getElem_toArray, List.getElem_cons_zero, List.getElem_cons_succ, List.setIfInBounds_toArray, List.set_cons_zero, List.set_cons_succ]
  refine wpAnyG_mono (S' := fun Z => Below W10.heap.size W10 Z) (fun Z hZ => bl_trans hb10 hZ) ?_
  clear hS
  have hS : Below W10.heap.size W10 W10 := Below.refl _ _
  refine wpAnyG_load (v := ?v8) 8 rfl (by kernel_rfl) (by kernel_rfl) (by kernel_rfl) (by kernel_rfl) (fun _ _ _ h => h) (Or.inl ⟨by rfl, ?h8⟩) hS (fun _ => ?r8)
  case h8 => (intro Z hZ; have kc := run_str (P := Try.prog) 22 9 5 Try.underlying22 Try.underlying5 Try.underlying9 (hu10.rd.below hZ); go_simp; try with_reducible rfl)
  try simp only [Act.put, List.getElem_toArray, List.getElem_cons_zero, List.getElem_cons_succ, List.setIfInBounds_toArray, List.set_cons_zero, List.set_cons_succ]
  refine wpAnyG_pure (v := ?v9) 9 rfl (by kernel_rfl) (by kernel_rfl) (by kernel_rfl) (by kernel_rfl) (fun _ _ _ h => h) (Or.inl ⟨by rfl, ?h9⟩) (fun _ => hS) (fun _ => ?r9)
  case h9 => (intro w _; go_simp; try with_reducible rfl)
  try simp only [Act.put, List.getElem_toArray, List.getElem_cons_zero, List.getElem_cons_succ, List.setIfInBounds_toArray, List.set_cons_zero, List.set_cons_succ]
  refine wpAnyG_pure (v := ?v10) 10 rfl (by kernel_rfl) (by kernel_rfl) (by kernel_rfl) (by kernel_rfl) (fun _ _ _ h => h) (Or.inl ⟨by rfl, ?h10⟩) (fun _ => hS) (fun _ => ?r10)
  case h10 => (intro w _; go_simp; try with_reducible rfl)
  try simp only [Act.put, List.getElem_toArray, List.getElem_cons_zero, List.getElem_cons_succ, List.setIfInBounds_toArray, List.set_cons_zero, List.set_cons_succ]
  refine wpAnyG_pure (v := ?v11) 11 rfl (by kernel_rfl) (by kernel_rfl) (by kernel_rfl) (by kernel_rfl) (fun _ _ _ h => h) (Or.inl ⟨by rfl, ?h11⟩) (fun _ => hS) (fun _ => ?r11)
  case h11 => (intro w _; go_simp; try with_reducible rfl)
  try simp only [Act.put, List.getElem_toArray, List.getElem_cons_zero, List.getElem_cons_succ, List.setIfInBounds_toArray, List.set_cons_zero, List.set_cons_succ]
  have hb100 : Below W7.heap.size W7 W10 := bl_trans hb90 hb10
  refine wpAnyG_one 12 rfl (by kernel_rfl) ?_
  refine wpOp_step rfl (fun K hK => ?_)
  go_simp
  refine (pending_any _ _ _ _ _ _ (hdA7.below hb100) hps).mono ?_
  rintro e W11 ⟨u11, rfl, hu11, hb11⟩
  obtain ⟨p11, c11, e11, _, _, _⟩ := hu11.rd
  subst e11
  go_simp
  refine hK _ _ ⟨fun _ => hb11, ?_⟩
  clear hK K
  try simp only [Act.put, List.getElem_toArray, List.getElem_cons_zero, List.getElem_cons_succ, List.setIfInBounds_toArray, List.set_cons_zero, List.set_cons_succ]
  refine wpAnyG_pure (v := ?v13) 13 rfl (by kernel_rfl) (by kernel_rfl) (by kernel_rfl) (by kernel_rfl) (fun _ _ _ h => h) (Or.inl ⟨by rfl, ?h13⟩) (fun _ => hb11) (fun _ => ?r13)
  case h13 => (intro w _; go_simp; try with_reducible rfl)
  try simp only [Act.put, List.getElem_toArray, List.getElem_cons_zero, List.getElem_cons_succ, List.setIfInBounds_toArray, List.set_cons_zero, List.set_cons_succ]
  refine wpAnyG_pure (v := ?v14) 14 rfl (by kernel_rfl) (by kernel_rfl) (by kernel_rfl) (by kernel_rfl) (fun _ _ _ h => h) (Or.inl ⟨by rfl, ?h14⟩) (fun _ => hb11) (fun _ => ?r14)
  case h14 => (intro w _; go_simp; try with_reducible rfl)
  try simp only [Act.put, List.getElem_toArray, List.getElem_cons_zero, List.getElem_cons_succ, List.setIfInBounds_toArray, List.set_cons_zero, List.set_cons_succ]
  refine wpAnyG_pure (v := ?v15) 15 rfl (by kernel_rfl) (by kernel_rfl) (by kernel_rfl) (by kernel_rfl) (fun _ _ _ h => h) (Or.inl ⟨by rfl, ?h15⟩) (fun _ => hb11) (fun _ => ?r15)
  case h15 => (intro w _; go_simp; try with_reducible rfl)
  try simp only [Act.put, List.getElem_toArray, List.getElem_cons_zero, List.getElem_cons_succ, List.setIfInBounds_toArray, List.set_cons_zero, List.set_cons_succ]
  refine wpAnyG_pure (v := ?v16) 16 rfl (by kernel_rfl) (by kernel_rfl) (by kernel_rfl) (by kernel_rfl) (fun _ _ _ h => h) (Or.inl ⟨by rfl, ?h16⟩) (fun _ => hb11) (fun _ => ?r16)
  case h16 => (intro w _; go_simp; try with_reducible rfl)
  try simp only [Act.put, List.getElem_toArray, List.getElem_cons_zero, List.getElem_cons_succ, List.setIfInBounds_toArray, List.set_cons_zero, List.set_cons_succ]
  refine wpAnyG_pure (v := ?v17) 17 rfl (by kernel_rfl) (by kernel_rfl) (by kernel_rfl) (by kernel_rfl) (fun _ _ _ h => h) (Or.inl ⟨by rfl, ?h17⟩) (fun _ => hb11) (fun _ => ?r17)
  case h17 => (intro w _; go_simp; try with_reducible rfl)
  try simp only [Act.put, List.getElem_toArray, List.getElem_cons_zero, List.getElem_cons_succ, List.setIfInBounds_toArray, List.set_cons_zero, List.set_cons_succ]
  refine wpAnyG_pure (v := ?v18) 18 rfl (by kernel_rfl) (by kernel_rfl) (by kernel_rfl) (by kernel_rfl) (fun _ _ _ h => h) (Or.inl ⟨by rfl, ?h18⟩) (fun _ => hb11) (fun _ => ?r18)
  case h18 => (intro w _; go_simp; try with_reducible rfl)
  try simp only [Act.put, List.getElem_toArray, List.getElem_cons_zero, List.getElem_cons_succ, List.setIfInBounds_toArray, List.set_cons_zero, List.set_cons_succ]
  refine wpAnyG_pure (v := ?v19) 19 rfl (by kernel_rfl) (by kernel_rfl) (by kernel_rfl) (by kernel_rfl) (fun _ _ _ h => h) (Or.inl ⟨by rfl, ?h19⟩) (fun _ => hb11) (fun _ => ?r19)
  case h19 => (intro w _; go_simp; try with_reducible rfl)
  try simp only [Act.put, List.getElem_toArray, List.getElem_cons_zero, List.getElem_cons_succ, List.setIfInBounds_toArray, List.set_cons_zero, List.set_cons_succ]
  refine wpAnyG_pure (v := ?v20) 20 rfl (by kernel_rfl) (by kernel_rfl) (by kernel_rfl) (by kernel_rfl) (fun _ _ _ h => h) (Or.inl ⟨by rfl, ?h20⟩) (fun _ => hb11) (fun _ => ?r20)
  case h20 => (intro w _; go_simp; try with_reducible rfl)
  try simp only [Act.put, List.getElem_toArray, List.getElem_cons_zero, List.getElem_cons_succ, List.setIfInBounds_toArray, List.set_cons_zero, List.set_cons_succ]
  refine wpAnyG_pure (v := ?v21) 21 rfl (by kernel_rfl) (by kernel_rfl) (by kernel_rfl) (by kernel_rfl) (fun _ _ _ h => h) (Or.inl ⟨by rfl, ?h21⟩) (fun _ => hb11) (fun _ => ?r21)
  case h21 => (intro w _; go_simp; try with_reducible rfl)
  try simp only [Act.put, List.getElem_toArray, List.getElem_cons_zero, List.getElem_cons_succ, List.setIfInBounds_toArray, List.set_cons_zero, List.set_cons_succ]
  refine wpAnyG_pure (v := ?v22) 22 rfl (by kernel_rfl) (by kernel_rfl) (by kernel_rfl) (by kernel_rfl) (fun _ _ _ h => h) (Or.inl ⟨by rfl, ?h22⟩) (fun _ => hb11) (fun _ => ?r22)
  case h22 => (intro w _; go_simp; try with_reducible rfl)
  try simp only [Act.put, List.getElem_toArray, List.getElem_cons_zero, List.getElem_cons_succ, List.setIfInBounds_toArray, List.set_cons_zero, List.set_cons_succ]
  refine wpAnyG_done (by kernel_rfl) ?_ _
  have hb110 : Below W7.heap.size W7 W11 := bl_trans hb100 hb11
  clear hS
  go_wp2_with (go_at_call 18; (with_reducible refine (pending_any _ _ _ _ _ _ (hdA7.below hb110) hps).mono ?_); rintro e W12 ⟨u12, rfl, hu12, hb12⟩; obtain ⟨p12, c12, e12, _, _, _⟩ := hu12.rd; subst e12)
  have hb120 : Below W7.heap.size W7 W12 := bl_trans hb110 hb12
  have h12 := h7.below hb120
  have hdA12 := hdA7.below hb120
  have hA12 := Own.kept hA7 hb120
  have hl12b := bl_trans hl7b hb120
  have hfin : Hid (badB (feedS [] xs) (feedO [] xs) (feedO [] xs).length = false → encL (feedO [] xs) = xs) := fun hbd => by
    unfold badB at hbd
    rw [List.take_length] at hbd
    simp only [Bool.or_eq_false_iff, decide_eq_false_iff_not, Decidable.not_not, List.any_eq_false, beq_iff_eq] at hbd
    have := encode_feed xs [] .nil hby (fun hm => hbd.2 _ hm rfl)
    rw [hbd.1] at this
    simpa using this
  have hst : Hid (Value.bool (decide (0 < (feedS [] xs).length)) = .bool (badB (feedS [] xs) (feedO [] xs) 0)) := by
    unfold Hid badB
    cases feedS [] xs <;> simp
  clear hb12 hb110 hb11 hb100 hb10 hb90 hb9 hb80 hb8
  go_loopw [13, 15, 85] (fun bb u15 i wr => ∃ k : Nat, k ≤ (feedO [] xs).length ∧ i = .int .i64 k ∧ bb = .bool (badB (feedS [] xs) (feedO [] xs) k) ∧ Below W12.heap.size W12 wr) (fun bb u15 i _ => (feedO [] xs).length - (intOf i).toNat)
  case atStart => exact ⟨0, by omega, rfl, hst.out, Below.refl _ _⟩
  case round =>
    obtain ⟨k, hk, rfl, rfl, hbel⟩ := hrel
    by_cases hlt : k < (feedO [] xs).length
    · obtain ⟨b9, o9, rfl, q1, d1⟩ := Rd.at hca3 hca1 hlt
      have d3 : wr.cell? ⟨b9, o9 + k, none⟩ = some (.int .i32 (feedO [] xs)[k]) := by rw [(bl_trans hb120 hbel).cell (p := ⟨b9, _, none⟩) q1]; exact d1
      clear hca3 d1
      have r1 : (0 : Int) ≤ (k : Int) := by omega
      have r2 : (k : Int) < ((feedO [] xs).length : Int) := by omega
      have hv := hvl.out _ (List.getElem_mem hlt)
      have BS := Lib.hid (badB_succ (feedS [] xs) (feedO [] xs) k hlt)
      generalize (feedO [] xs)[k] = rr at *
      have HV := Lib.hid hv
      clear hv
      generalize hB : badB (feedS [] xs) (feedO [] xs) k = bb at *
      have HB := Lib.hid hB
      clear hB
      cases bb
      all_goals
        go_wp2_with (go_at_call 13; (with_reducible refine (valid_c rr true _ HV.out).mono ?_); rintro e w' ⟨rfl, rfl⟩)
        go_roundw
        have hsl := BS.out
        simp only [Bool.false_or, Bool.true_or] at hsl
        case rel => first | exact ⟨k + 1, by omega, by go_num, by rw [hsl], hbel⟩ | ((repeat apply Exists.intro); exact ⟨⟨k + 1, by omega, by go_num, by rw [hsl], hbel⟩, rfl⟩)
        case measure => simp [intOf]; omega
    · obtain rfl : k = (feedO [] xs).length := by omega
      have hAr := Own.kept hA12 hbel
      have hr := h12.below hbel
      have hdAr := hdA12.below hbel
      have hlr := bl_trans hl12b hbel
      have hwr := hbel.size
      have hw12 := hb120.size
      have hel := encL_len (feedO [] xs)
      have hde := Lib.hid (decL_encL (feedO [] xs) hvl.out)
      have heb := encL_byte (feedO [] xs) hvl.out
      clear hca3
      generalize hB : badB (feedS [] xs) (feedO [] xs) (feedO [] xs).length = bb
      have HB := Lib.hid hB
      clear hB
      cases bb
      · go_wp2_with fail
        have hS : Below wr.heap.size wr wr.drew := (Below.refl _ _).drew
        refine wp_region_late (fun Z => Below wr.heap.size wr Z) [] (by kernel_rfl) ?_
        refine wpAnyG_pure (v := ?v0f) 0 rfl (by kernel_rfl) (by kernel_rfl) (by kernel_rfl) (by kernel_rfl) (fun _ _ _ h => h) (Or.inl ⟨by rfl, ?h0f⟩) (fun _ => hS) (fun _ => ?r0f)
        case h0f => (intro w _; go_simp; try with_reducible rfl)
        try simp only [Act.put, List.getElem_toArray, List.getElem_cons_zero, List.getElem_cons_succ, List.setIfInBounds_toArray, List.set_cons_zero, List.set_cons_succ]
        refine wpAnyG_pure (v := ?v3f) 3 rfl (by kernel_rfl) (by kernel_rfl) (by kernel_rfl) (by kernel_rfl) (fun _ _ _ h => h) (Or.inl ⟨by rfl, ?h3f⟩) (fun _ => hS) (fun _ => ?r3f)
        case h3f => (intro w _; go_simp; try with_reducible rfl)
        try simp only [Act.put, List.getElem_toArray, List.getElem_cons_zero, List.getElem_cons_succ, List.setIfInBounds_toArray, List.set_cons_zero, List.set_cons_succ]
        refine wpAnyG_one 1 rfl (by kernel_rfl) ?_
        refine wpOp_step rfl (fun K hK => ?_)
        go_simp
        refine (encode_any _ _ _ (hAr.rd.below hS) (by omega)).mono ?_
        rintro e V1 ⟨u1, rfl, hu1, hv1⟩
        have hv10 : Below wr.heap.size wr V1 := bl_trans hS hv1
        go_simp
        refine hK _ _ ⟨fun _ => hv10, ?_⟩
        clear hK K
        try simp only [Act.put, List.getElem_toArray, List.getElem_cons_zero, List.getElem_cons_succ, List.setIfInBounds_toArray, List.set_cons_zero, List.set_cons_succ]
        refine wpAnyG_one 2 rfl (by kernel_rfl) ?_
        refine wpOp_step rfl (fun K hK => ?_)
        go_simp
        refine (decode_any _ _ _ hu1.rd heb (by omega)).mono ?_
        rintro e V2 ⟨u2, rfl, hu2, hv2⟩
        have hv20 : Below wr.heap.size wr V2 := bl_trans hv10 hv2
        go_simp
        refine hK _ _ ⟨fun _ => hv20, ?_⟩
        clear hK K
        try simp only [Act.put, List.getElem_toArray, List.getElem_cons_zero, List.getElem_cons_succ, List.setIfInBounds_toArray, List.set_cons_zero, List.set_cons_succ]
        refine wpAnyG_one 4 rfl (by kernel_rfl) ?_
        refine wpOp_step rfl (fun K hK => ?_)
        go_simp
        refine (same_true _ _ _ _ _ hu2.rd (hAr.rd.below hv20) hde).mono ?_
        rintro e V3 ⟨rfl, hv3⟩
        have hv30 : Below wr.heap.size wr V3 := bl_trans hv20 hv3
        go_simp
        refine hK _ _ ⟨fun _ => hv30, ?_⟩
        clear hK K
        try simp only [Act.put, List.getElem_toArray, List.getElem_cons_zero, List.getElem_cons_succ, List.setIfInBounds_toArray, List.set_cons_zero, List.set_cons_succ]
        refine wpAnyG_pure (v := ?v5f) 5 rfl (by kernel_rfl) (by kernel_rfl) (by kernel_rfl) (by kernel_rfl) (fun _ _ _ h => h) (Or.inl ⟨by rfl, ?h5f⟩) (fun _ => hv30) (fun _ => ?r5f)
        case h5f => (intro w _; go_simp; try with_reducible rfl)
        try simp only [Act.put, List.getElem_toArray, List.getElem_cons_zero, List.getElem_cons_succ, List.setIfInBounds_toArray, List.set_cons_zero, List.set_cons_succ]
        refine wpAnyG_pure (v := ?v6f) 6 rfl (by kernel_rfl) (by kernel_rfl) (by kernel_rfl) (by kernel_rfl) (fun _ _ _ h => h) (Or.inl ⟨by rfl, ?h6f⟩) (fun _ => hv30) (fun _ => ?r6f)
        case h6f => (intro w _; go_simp; try with_reducible rfl)
        try simp only [Act.put, List.getElem_toArray, List.getElem_cons_zero, List.getElem_cons_succ, List.setIfInBounds_toArray, List.set_cons_zero, List.set_cons_succ]
        refine wpAnyG_pure (v := ?v7f) 7 rfl (by kernel_rfl) (by kernel_rfl) (by kernel_rfl) (by kernel_rfl) (fun _ _ _ h => h) (Or.inl ⟨by rfl, ?h7f⟩) (fun _ => hv30) (fun _ => ?r7f)
        case h7f => (intro w _; go_simp; try with_reducible rfl)
        try simp only [Act.put, List.getElem_toArray, List.getElem_cons_zero, List.getElem_cons_succ, List.setIfInBounds_toArray, List.set_cons_zero, List.set_cons_succ]
        refine wpAnyG_pure (v := ?v8f) 8 rfl (by kernel_rfl) (by kernel_rfl) (by kernel_rfl) (by kernel_rfl) (fun _ _ _ h => h) (Or.inl ⟨by rfl, ?h8f⟩) (fun _ => hv30) (fun _ => ?r8f)
        case h8f => (intro w _; go_simp; try with_reducible rfl)
        try simp only [Act.put, List.getElem_toArray, List.getElem_cons_zero, List.getElem_cons_succ, List.setIfInBounds_toArray, List.set_cons_zero, List.set_cons_succ]
        refine wpAnyG_pure (v := ?v9f) 9 rfl (by kernel_rfl) (by kernel_rfl) (by kernel_rfl) (by kernel_rfl) (fun _ _ _ h => h) (Or.inl ⟨by rfl, ?h9f⟩) (fun _ => hv30) (fun _ => ?r9f)
        case h9f => (intro w _; go_simp; try with_reducible rfl)
        try simp only [Act.put, List.getElem_toArray, List.getElem_cons_zero, List.getElem_cons_succ, List.setIfInBounds_toArray, List.set_cons_zero, List.set_cons_succ]
        refine wpAnyG_mono (S' := fun Z => Below V3.heap.size V3 Z) (fun Z hZ => bl_trans hv30 hZ) ?_
        clear hS
        have hS : Below V3.heap.size V3 V3 := Below.refl _ _
        refine wpAnyG_pure (v := ?v10f) 10 rfl (by kernel_rfl) (by kernel_rfl) (by kernel_rfl) (by kernel_rfl) (fun _ _ _ h => h) (Or.inl ⟨by rfl, ?h10f⟩) (fun _ => hS) (fun _ => ?r10f)
        case h10f => (intro w _; go_simp; try with_reducible rfl)
        try simp only [Act.put, List.getElem_toArray, List.getElem_cons_zero, List.getElem_cons_succ, List.setIfInBounds_toArray, List.set_cons_zero, List.set_cons_succ]
        refine wpAnyG_pure (v := ?v13f) 13 rfl (by kernel_rfl) (by kernel_rfl) (by kernel_rfl) (by kernel_rfl) (fun _ _ _ h => h) (Or.inl ⟨by rfl, ?h13f⟩) (fun _ => hS) (fun _ => ?r13f)
        case h13f => (intro w _; go_simp; try with_reducible rfl)
        try simp only [Act.put, List.getElem_toArray, List.getElem_cons_zero, List.getElem_cons_succ, List.setIfInBounds_toArray, List.set_cons_zero, List.set_cons_succ]
        refine wpAnyG_load (v := ?v14f) 14 rfl (by kernel_rfl) (by kernel_rfl) (by kernel_rfl) (by kernel_rfl) (fun _ _ _ h => h) (Or.inl ⟨by rfl, ?h14f⟩) hS (fun _ => ?r14f)
        case h14f => (intro Z hZ; have kc := run_str (P := Try.prog) 22 9 5 Try.underlying22 Try.underlying5 Try.underlying9 (hr.below (bl_trans hv30 hZ)); go_simp; try with_reducible rfl)
        try simp only [Act.put, List.getElem_toArray, List.getElem_cons_zero, List.getElem_cons_succ, List.setIfInBounds_toArray, List.set_cons_zero, List.set_cons_succ]
        refine wpAnyG_one 11 rfl (by kernel_rfl) ?_
        refine wpOp_step rfl (fun K hK => ?_)
        go_simp
        refine (encode_any _ _ _ (hAr.rd.below (bl_trans hv30 hS)) (by omega)).mono ?_
        rintro e V4 ⟨u4, rfl, hu4, hv4⟩
        have hv40 : Below wr.heap.size wr V4 := bl_trans hv30 hv4
        go_simp
        refine hK _ _ ⟨fun _ => hv4, ?_⟩
        clear hK K
        try simp only [Act.put, List.getElem_toArray, List.getElem_cons_zero, List.getElem_cons_succ, List.setIfInBounds_toArray, List.set_cons_zero, List.set_cons_succ]
        have kc := run_str (P := Try.prog) 22 9 5 Try.underlying22 Try.underlying5 Try.underlying9 hu4.rd
        rw [hfin.out HB.out] at kc
        refine wpAnyG_one 12 rfl (by kernel_rfl) ?_
        refine wpOp_step rfl (fun K hK => ?_)
        go_simp
        refine hK _ _ ⟨fun _ => hv4, ?_⟩
        clear hK K
        try simp only [Act.put, List.getElem_toArray, List.getElem_cons_zero, List.getElem_cons_succ, List.setIfInBounds_toArray, List.set_cons_zero, List.set_cons_succ]
        clear kc
        refine wpAnyG_pure (v := ?v15f) 15 rfl (by kernel_rfl) (by kernel_rfl) (by kernel_rfl) (by kernel_rfl) (fun _ _ _ h => h) (Or.inl ⟨by rfl, ?h15f⟩) (fun _ => hv4) (fun _ => ?r15f)
        case h15f => (intro w _; go_simp; try with_reducible rfl)
        try simp only [Act.put, List.getElem_toArray, List.getElem_cons_zero, List.getElem_cons_succ, List.setIfInBounds_toArray, List.set_cons_zero, List.set_cons_succ]
        refine wpAnyG_pure (v := ?v16f) 16 rfl (by kernel_rfl) (by kernel_rfl) (by kernel_rfl) (by kernel_rfl) (fun _ _ _ h => h) (Or.inl ⟨by rfl, ?h16f⟩) (fun _ => hv4) (fun _ => ?r16f)
        case h16f => (intro w _; go_simp; try with_reducible rfl)
        try simp only [Act.put, List.getElem_toArray, List.getElem_cons_zero, List.getElem_cons_succ, List.setIfInBounds_toArray, List.set_cons_zero, List.set_cons_succ]
        refine wpAnyG_pure (v := ?v17f) 17 rfl (by kernel_rfl) (by kernel_rfl) (by kernel_rfl) (by kernel_rfl) (fun _ _ _ h => h) (Or.inl ⟨by rfl, ?h17f⟩) (fun _ => hv4) (fun _ => ?r17f)
        case h17f => (intro w _; go_simp; try with_reducible rfl)
        try simp only [Act.put, List.getElem_toArray, List.getElem_cons_zero, List.getElem_cons_succ, List.setIfInBounds_toArray, List.set_cons_zero, List.set_cons_succ]
        refine wpAnyG_done (by kernel_rfl) ?_ _
        have hqr : Below wr.heap.size wr V4 := hv40
        have hdE := hdAr.below hqr
        have hAE := Own.kept hAr hqr
        have hrE := hr.below hqr
        have hqs := hqr.size
        have hen : (endO (feedS [] xs)).length ≤ 1 := by unfold endO; split <;> simp
        clear hS
        go_wp2_with (first | (go_at_call 19; (with_reducible refine (end_any _ _ _ _ _ _ hdE).mono ?_); rintro e Y1 ⟨v9, bv9, rfl, hv9, hv9f, hbar9, _, _⟩; have hy1 := hbar9.size; have hrY := hrE.bar hapA hbar9; have hlY := Bar.to_below (bl_trans hlr hqr) hbar9 hDD) | (at_builtin; refine wpList_appw rfl _ _ 25 21 .i32 4 rfl Try.underlying25 el32 (X.world.heap.size + 2) _ _ (feedO [] xs) (endO (feedS [] xs)) (Own.weaken (Own.bar hAE hbar9 (hA7.off (by rw [hsz1]; omega))) (by rw [hsz1]; omega)) hv9 rfl rfl (by simp only [maxLen]; omega) (by omega) (by omega) ?_; intro v10 Y2 hv10 hg10 _; have hlY2 := app_below hlY hg10 (fun g h => by have := (ha2 g h).1; omega); have hrY2 := hrY.kept hg10 (nblk (fun g hg e => by have := hvb g hg; have := (ha2 g e).1; omega))) | (go_at_call 11; (with_reducible refine (decode_any _ xs _ hrY2 hby hlen2).mono ?_); rintro e Y3 ⟨v11, rfl, hv11, hb11⟩) | (go_at_call 10; (with_reducible refine (same_true _ _ (feedO [] xs ++ endO (feedS [] xs)) (decL xs) _ (hv10.rd.below hb11) hv11.rd (Lib.hid rfl)).mono ?_); rintro e Y4 ⟨rfl, hb12⟩) | (go_at_call 9; refine (known_any _).mono ?_; rintro e wk ⟨rfl, hbk⟩))
        go_ret
        exact ⟨rfl, bl_trans (bl_trans (bl_trans hlY2 hb11) hb12) hbk⟩
      · go_wp2_with fail
        have hS : Below wr.heap.size wr wr.drew := (Below.refl _ _).drew
        refine wp_region_late (fun Z => Below wr.heap.size wr Z) [] (by kernel_rfl) ?_
        refine wpAnyG_pure (v := ?v0t) 0 rfl (by kernel_rfl) (by kernel_rfl) (by kernel_rfl) (by kernel_rfl) (fun _ _ _ h => h) (Or.inl ⟨by rfl, ?h0t⟩) (fun _ => hS) (fun _ => ?r0t)
        case h0t => (intro w _; go_simp; try with_reducible rfl)
        try simp only [Act.put, List.getElem_toArray, List.getElem_cons_zero, List.getElem_cons_succ, List.setIfInBounds_toArray, List.set_cons_zero, List.set_cons_succ]
        refine wpAnyG_pure (v := ?v3t) 3 rfl (by kernel_rfl) (by kernel_rfl) (by kernel_rfl) (by kernel_rfl) (fun _ _ _ h => h) (Or.inl ⟨by rfl, ?h3t⟩) (fun _ => hS) (fun _ => ?r3t)
        case h3t => (intro w _; go_simp; try with_reducible rfl)
        try simp only [Act.put, List.getElem_toArray, List.getElem_cons_zero, List.getElem_cons_succ, List.setIfInBounds_toArray, List.set_cons_zero, List.set_cons_succ]
        refine wpAnyG_one 1 rfl (by kernel_rfl) ?_
        refine wpOp_step rfl (fun K hK => ?_)
        go_simp
        refine (encode_any _ _ _ (hAr.rd.below hS) (by omega)).mono ?_
        rintro e V1 ⟨u1, rfl, hu1, hv1⟩
        have hv10 : Below wr.heap.size wr V1 := bl_trans hS hv1
        go_simp
        refine hK _ _ ⟨fun _ => hv10, ?_⟩
        clear hK K
        try simp only [Act.put, List.getElem_toArray, List.getElem_cons_zero, List.getElem_cons_succ, List.setIfInBounds_toArray, List.set_cons_zero, List.set_cons_succ]
        refine wpAnyG_one 2 rfl (by kernel_rfl) ?_
        refine wpOp_step rfl (fun K hK => ?_)
        go_simp
        refine (decode_any _ _ _ hu1.rd heb (by omega)).mono ?_
        rintro e V2 ⟨u2, rfl, hu2, hv2⟩
        have hv20 : Below wr.heap.size wr V2 := bl_trans hv10 hv2
        go_simp
        refine hK _ _ ⟨fun _ => hv20, ?_⟩
        clear hK K
        try simp only [Act.put, List.getElem_toArray, List.getElem_cons_zero, List.getElem_cons_succ, List.setIfInBounds_toArray, List.set_cons_zero, List.set_cons_succ]
        refine wpAnyG_one 4 rfl (by kernel_rfl) ?_
        refine wpOp_step rfl (fun K hK => ?_)
        go_simp
        refine (same_true _ _ _ _ _ hu2.rd (hAr.rd.below hv20) hde).mono ?_
        rintro e V3 ⟨rfl, hv3⟩
        have hv30 : Below wr.heap.size wr V3 := bl_trans hv20 hv3
        go_simp
        refine hK _ _ ⟨fun _ => hv30, ?_⟩
        clear hK K
        try simp only [Act.put, List.getElem_toArray, List.getElem_cons_zero, List.getElem_cons_succ, List.setIfInBounds_toArray, List.set_cons_zero, List.set_cons_succ]
        refine wpAnyG_pure (v := ?v5t) 5 rfl (by kernel_rfl) (by kernel_rfl) (by kernel_rfl) (by kernel_rfl) (fun _ _ _ h => h) (Or.inl ⟨by rfl, ?h5t⟩) (fun _ => hv30) (fun _ => ?r5t)
        case h5t => (intro w _; go_simp; try with_reducible rfl)
        try simp only [Act.put, List.getElem_toArray, List.getElem_cons_zero, List.getElem_cons_succ, List.setIfInBounds_toArray, List.set_cons_zero, List.set_cons_succ]
        refine wpAnyG_pure (v := ?v6t) 6 rfl (by kernel_rfl) (by kernel_rfl) (by kernel_rfl) (by kernel_rfl) (fun _ _ _ h => h) (Or.inl ⟨by rfl, ?h6t⟩) (fun _ => hv30) (fun _ => ?r6t)
        case h6t => (intro w _; go_simp; try with_reducible rfl)
        try simp only [Act.put, List.getElem_toArray, List.getElem_cons_zero, List.getElem_cons_succ, List.setIfInBounds_toArray, List.set_cons_zero, List.set_cons_succ]
        refine wpAnyG_pure (v := ?v7t) 7 rfl (by kernel_rfl) (by kernel_rfl) (by kernel_rfl) (by kernel_rfl) (fun _ _ _ h => h) (Or.inl ⟨by rfl, ?h7t⟩) (fun _ => hv30) (fun _ => ?r7t)
        case h7t => (intro w _; go_simp; try with_reducible rfl)
        try simp only [Act.put, List.getElem_toArray, List.getElem_cons_zero, List.getElem_cons_succ, List.setIfInBounds_toArray, List.set_cons_zero, List.set_cons_succ]
        refine wpAnyG_pure (v := ?v8t) 8 rfl (by kernel_rfl) (by kernel_rfl) (by kernel_rfl) (by kernel_rfl) (fun _ _ _ h => h) (Or.inl ⟨by rfl, ?h8t⟩) (fun _ => hv30) (fun _ => ?r8t)
        case h8t => (intro w _; go_simp; try with_reducible rfl)
        try simp only [Act.put, List.getElem_toArray, List.getElem_cons_zero, List.getElem_cons_succ, List.setIfInBounds_toArray, List.set_cons_zero, List.set_cons_succ]
        refine wpAnyG_pure (v := ?v9t) 9 rfl (by kernel_rfl) (by kernel_rfl) (by kernel_rfl) (by kernel_rfl) (fun _ _ _ h => h) (Or.inl ⟨by rfl, ?h9t⟩) (fun _ => hv30) (fun _ => ?r9t)
        case h9t => (intro w _; go_simp; try with_reducible rfl)
        try simp only [Act.put, List.getElem_toArray, List.getElem_cons_zero, List.getElem_cons_succ, List.setIfInBounds_toArray, List.set_cons_zero, List.set_cons_succ]
        refine wpAnyG_pure (v := undef) 10 rfl (by kernel_rfl) (by kernel_rfl) (by kernel_rfl) (by kernel_rfl) (fun _ _ _ h => h) (Or.inr ⟨by rfl, rfl⟩) (fun _ => hv30) (fun _ => ?r10t)
        try simp only [Act.put, List.getElem_toArray, List.getElem_cons_zero, List.getElem_cons_succ, List.setIfInBounds_toArray, List.set_cons_zero, List.set_cons_succ]
        refine wpAnyG_pure (v := undef) 11 rfl (by kernel_rfl) (by kernel_rfl) (by kernel_rfl) (by kernel_rfl) (fun _ _ _ h => h) (Or.inr ⟨by rfl, rfl⟩) (fun _ => hv30) (fun _ => ?r11t)
        try simp only [Act.put, List.getElem_toArray, List.getElem_cons_zero, List.getElem_cons_succ, List.setIfInBounds_toArray, List.set_cons_zero, List.set_cons_succ]
        refine wpAnyG_pure (v := undef) 12 rfl (by kernel_rfl) (by kernel_rfl) (by kernel_rfl) (by kernel_rfl) (fun _ _ _ h => h) (Or.inr ⟨by rfl, rfl⟩) (fun _ => hv30) (fun _ => ?r12t)
        try simp only [Act.put, List.getElem_toArray, List.getElem_cons_zero, List.getElem_cons_succ, List.setIfInBounds_toArray, List.set_cons_zero, List.set_cons_succ]
        refine wpAnyG_pure (v := undef) 13 rfl (by kernel_rfl) (by kernel_rfl) (by kernel_rfl) (by kernel_rfl) (fun _ _ _ h => h) (Or.inr ⟨by rfl, rfl⟩) (fun _ => hv30) (fun _ => ?r13t)
        try simp only [Act.put, List.getElem_toArray, List.getElem_cons_zero, List.getElem_cons_succ, List.setIfInBounds_toArray, List.set_cons_zero, List.set_cons_succ]
        refine wpAnyG_pure (v := undef) 14 rfl (by kernel_rfl) (by kernel_rfl) (by kernel_rfl) (by kernel_rfl) (fun _ _ _ h => h) (Or.inr ⟨by rfl, rfl⟩) (fun _ => hv30) (fun _ => ?r14t)
        try simp only [Act.put, List.getElem_toArray, List.getElem_cons_zero, List.getElem_cons_succ, List.setIfInBounds_toArray, List.set_cons_zero, List.set_cons_succ]
        refine wpAnyG_pure (v := undef) 15 rfl (by kernel_rfl) (by kernel_rfl) (by kernel_rfl) (by kernel_rfl) (fun _ _ _ h => h) (Or.inr ⟨by rfl, rfl⟩) (fun _ => hv30) (fun _ => ?r15t)
        try simp only [Act.put, List.getElem_toArray, List.getElem_cons_zero, List.getElem_cons_succ, List.setIfInBounds_toArray, List.set_cons_zero, List.set_cons_succ]
        refine wpAnyG_pure (v := ?v16t) 16 rfl (by kernel_rfl) (by kernel_rfl) (by kernel_rfl) (by kernel_rfl) (fun _ _ _ h => h) (Or.inl ⟨by rfl, ?h16t⟩) (fun _ => hv30) (fun _ => ?r16t)
        case h16t => (intro w _; go_simp; try with_reducible rfl)
        try simp only [Act.put, List.getElem_toArray, List.getElem_cons_zero, List.getElem_cons_succ, List.setIfInBounds_toArray, List.set_cons_zero, List.set_cons_succ]
        refine wpAnyG_pure (v := ?v17t) 17 rfl (by kernel_rfl) (by kernel_rfl) (by kernel_rfl) (by kernel_rfl) (fun _ _ _ h => h) (Or.inl ⟨by rfl, ?h17t⟩) (fun _ => hv30) (fun _ => ?r17t)
        case h17t => (intro w _; go_simp; try with_reducible rfl)
        try simp only [Act.put, List.getElem_toArray, List.getElem_cons_zero, List.getElem_cons_succ, List.setIfInBounds_toArray, List.set_cons_zero, List.set_cons_succ]
        refine wpAnyG_done (by kernel_rfl) ?_ _
        have hqr : Below wr.heap.size wr V3 := hv30
        have hdE := hdAr.below hqr
        have hAE := Own.kept hAr hqr
        have hrE := hr.below hqr
        have hqs := hqr.size
        have hen : (endO (feedS [] xs)).length ≤ 1 := by unfold endO; split <;> simp
        clear hS
        go_wp2_with (first | (go_at_call 19; (with_reducible refine (end_any _ _ _ _ _ _ hdE).mono ?_); rintro e Y1 ⟨v9, bv9, rfl, hv9, hv9f, hbar9, _, _⟩; have hy1 := hbar9.size; have hrY := hrE.bar hapA hbar9; have hlY := Bar.to_below (bl_trans hlr hqr) hbar9 hDD) | (at_builtin; refine wpList_appw rfl _ _ 25 21 .i32 4 rfl Try.underlying25 el32 (X.world.heap.size + 2) _ _ (feedO [] xs) (endO (feedS [] xs)) (Own.weaken (Own.bar hAE hbar9 (hA7.off (by rw [hsz1]; omega))) (by rw [hsz1]; omega)) hv9 rfl rfl (by simp only [maxLen]; omega) (by omega) (by omega) ?_; intro v10 Y2 hv10 hg10 _; have hlY2 := app_below hlY hg10 (fun g h => by have := (ha2 g h).1; omega); have hrY2 := hrY.kept hg10 (nblk (fun g hg e => by have := hvb g hg; have := (ha2 g e).1; omega))) | (go_at_call 11; (with_reducible refine (decode_any _ xs _ hrY2 hby hlen2).mono ?_); rintro e Y3 ⟨v11, rfl, hv11, hb11⟩) | (go_at_call 10; (with_reducible refine (same_true _ _ (feedO [] xs ++ endO (feedS [] xs)) (decL xs) _ (hv10.rd.below hb11) hv11.rd (Lib.hid rfl)).mono ?_); rintro e Y4 ⟨rfl, hb12⟩) | (go_at_call 9; refine (known_any _).mono ?_; rintro e wk ⟨rfl, hbk⟩))
        go_ret
        exact ⟨rfl, bl_trans (bl_trans (bl_trans hlY2 hb11) hb12) hbk⟩


end Go.Proofs.Ytacpbfkelpehhaa
