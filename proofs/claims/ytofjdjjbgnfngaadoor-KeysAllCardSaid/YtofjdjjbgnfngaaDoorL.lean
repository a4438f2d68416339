/- keys: the examples of the chapter. -/
import Derived.Test.YtofjdjjbgnfngaaDoorK
import Derived.Outline
set_option linter.unusedSimpArgs false
set_option linter.unusedVariables false
set_option linter.unnecessarySimpa false
namespace Go.Proofs.YtofjdjjbgnfngaaDoor
open Go.RowKit

theorem n15 : numS 15 = ⟨#[49, 53]⟩ := by unfold numS; rw [show (15 : Int) = ((15 : Nat) : Int) from rfl, Lib.itoa_nonneg, dstep _ (by omega), Lib.decDigits_one (by omega)]; rfl
theorem kb0 : bytesS 6 0 false false false false false false = ⟨#[27, 91, 65]⟩ := by decide +kernel
theorem ks0 (w : World) (ht : Tab w) : Calls Tryd.prog 10 #[.agg #[.int .i64 6, .int .i32 0, .bool false, .bool false, .bool false], .agg #[.bool false, .bool false, .bool false], .string ⟨#[27, 91, 65]⟩, .int .i64 0] w fun e w' => e = .returned (.bool true) ∧ Below w.heap.size w w' := by
  have h := sends_ok 6 0 false false false false false false w ht (by decide) (by decide +kernel) (by decide +kernel)
  rw [kb0] at h
  exact h
theorem kb1 : bytesS 6 0 false false false true false false = ⟨#[27, 79, 65]⟩ := by decide +kernel
theorem ks1 (w : World) (ht : Tab w) : Calls Tryd.prog 10 #[.agg #[.int .i64 6, .int .i32 0, .bool false, .bool false, .bool false], .agg #[.bool true, .bool false, .bool false], .string ⟨#[27, 79, 65]⟩, .int .i64 0] w fun e w' => e = .returned (.bool true) ∧ Below w.heap.size w w' := by
  have h := sends_ok 6 0 false false false true false false w ht (by decide) (by decide +kernel) (by decide +kernel)
  rw [kb1] at h
  exact h
theorem kb2 : bytesS 6 0 false false true false false false = ⟨#[27, 91, 49, 59, 53, 65]⟩ := by show letterS 5 ⟨#[65]⟩ false = _; unfold letterS; rw [if_pos (by decide), n5]; decide +kernel
theorem ks2 (w : World) (ht : Tab w) : Calls Tryd.prog 10 #[.agg #[.int .i64 6, .int .i32 0, .bool false, .bool false, .bool true], .agg #[.bool false, .bool false, .bool false], .string ⟨#[27, 91, 49, 59, 53, 65]⟩, .int .i64 0] w fun e w' => e = .returned (.bool true) ∧ Below w.heap.size w w' := by
  have h := sends_ok 6 0 false false true false false false w ht (by decide) (by decide +kernel) (by decide +kernel)
  rw [kb2] at h
  exact h
theorem kb3 : bytesS 20 0 true true false false false false = ⟨#[27, 91, 49, 53, 59, 52, 126]⟩ := by show numberedS 4 15 = _; unfold numberedS; rw [if_pos (by decide), n15, n4]; decide +kernel
theorem ks3 (w : World) (ht : Tab w) : Calls Tryd.prog 10 #[.agg #[.int .i64 20, .int .i32 0, .bool true, .bool true, .bool false], .agg #[.bool false, .bool false, .bool false], .string ⟨#[27, 91, 49, 53, 59, 52, 126]⟩, .int .i64 0] w fun e w' => e = .returned (.bool true) ∧ Below w.heap.size w w' := by
  have h := sends_ok 20 0 true true false false false false w ht (by decide) (by decide +kernel) (by decide +kernel)
  rw [kb3] at h
  exact h
theorem kb4 : bytesS 15 0 false false false false false false = ⟨#[27, 91, 54, 126]⟩ := by show numberedS 1 6 = _; unfold numberedS; rw [if_neg (by decide), n6]; decide +kernel
theorem ks4 (w : World) (ht : Tab w) : Calls Tryd.prog 10 #[.agg #[.int .i64 15, .int .i32 0, .bool false, .bool false, .bool false], .agg #[.bool false, .bool false, .bool false], .string ⟨#[27, 91, 54, 126]⟩, .int .i64 0] w fun e w' => e = .returned (.bool true) ∧ Below w.heap.size w w' := by
  have h := sends_ok 15 0 false false false false false false w ht (by decide) (by decide +kernel) (by decide +kernel)
  rw [kb4] at h
  exact h
theorem kb5 : bytesS 1 99 false false true false false false = ⟨#[3]⟩ := by decide +kernel
theorem ks5 (w : World) (ht : Tab w) : Calls Tryd.prog 10 #[.agg #[.int .i64 1, .int .i32 99, .bool false, .bool false, .bool true], .agg #[.bool false, .bool false, .bool false], .string ⟨#[3]⟩, .int .i64 0] w fun e w' => e = .returned (.bool true) ∧ Below w.heap.size w w' := by
  have h := sends_ok 1 99 false false true false false false w ht (by decide) (by decide +kernel) (by decide +kernel)
  rw [kb5] at h
  exact h
theorem kb6 : bytesS 1 97 false true false false false false = ⟨#[27, 97]⟩ := by decide +kernel
theorem ks6 (w : World) (ht : Tab w) : Calls Tryd.prog 10 #[.agg #[.int .i64 1, .int .i32 97, .bool false, .bool true, .bool false], .agg #[.bool false, .bool false, .bool false], .string ⟨#[27, 97]⟩, .int .i64 0] w fun e w' => e = .returned (.bool true) ∧ Below w.heap.size w w' := by
  have h := sends_ok 1 97 false true false false false false w ht (by decide) (by decide +kernel) (by decide +kernel)
  rw [kb6] at h
  exact h
theorem kb7 : bytesS 1 233 false false false false false false = ⟨#[195, 169]⟩ := by decide +kernel
theorem ks7 (w : World) (ht : Tab w) : Calls Tryd.prog 10 #[.agg #[.int .i64 1, .int .i32 233, .bool false, .bool false, .bool false], .agg #[.bool false, .bool false, .bool false], .string ⟨#[195, 169]⟩, .int .i64 0] w fun e w' => e = .returned (.bool true) ∧ Below w.heap.size w w' := by
  have h := sends_ok 1 233 false false false false false false w ht (by decide) (by decide +kernel) (by decide +kernel)
  rw [kb7] at h
  exact h
theorem kb8 : bytesS 2 0 false false false false true false = ⟨#[13, 10]⟩ := by decide +kernel
theorem ks8 (w : World) (ht : Tab w) : Calls Tryd.prog 10 #[.agg #[.int .i64 2, .int .i32 0, .bool false, .bool false, .bool false], .agg #[.bool false, .bool true, .bool false], .string ⟨#[13, 10]⟩, .int .i64 0] w fun e w' => e = .returned (.bool true) ∧ Below w.heap.size w w' := by
  have h := sends_ok 2 0 false false false false true false w ht (by decide) (by decide +kernel) (by decide +kernel)
  rw [kb8] at h
  exact h
theorem kb9 : bytesS 4 0 false false true false false false = ⟨#[8]⟩ := by decide +kernel
theorem ks9 (w : World) (ht : Tab w) : Calls Tryd.prog 10 #[.agg #[.int .i64 4, .int .i32 0, .bool false, .bool false, .bool true], .agg #[.bool false, .bool false, .bool false], .string ⟨#[8]⟩, .int .i64 0] w fun e w' => e = .returned (.bool true) ∧ Below w.heap.size w w' := by
  have h := sends_ok 4 0 false false true false false false w ht (by decide) (by decide +kernel) (by decide +kernel)
  rw [kb9] at h
  exact h
theorem kb10 : bytesS 3 0 true false false false false false = ⟨#[27, 91, 90]⟩ := by decide +kernel
theorem ks10 (w : World) (ht : Tab w) : Calls Tryd.prog 10 #[.agg #[.int .i64 3, .int .i32 0, .bool true, .bool false, .bool false], .agg #[.bool false, .bool false, .bool false], .string ⟨#[27, 91, 90]⟩, .int .i64 0] w fun e w' => e = .returned (.bool true) ∧ Below w.heap.size w w' := by
  have h := sends_ok 3 0 true false false false false false w ht (by decide) (by decide +kernel) (by decide +kernel)
  rw [kb10] at h
  exact h
theorem ks11 (w : World) (ht : Tab w) : Calls Tryd.prog 10 #[.agg #[.int .i64 1, .int .i32 49, .bool false, .bool false, .bool true], .agg #[.bool false, .bool false, .bool false], .string ⟨#[]⟩, .int .i64 9] w fun e w' => e = .returned (.bool true) ∧ Below w.heap.size w w' := sends_none 1 49 false false true false false false w ht (by decide) (by decide +kernel) (by decide +kernel)
theorem kn0 (w : World) (ht : Tab w) : Calls Tryd.prog 11 #[.agg #[.int .i64 1, .int .i32 120, .bool false, .bool true, .bool true], .string ⟨#[67, 45, 65, 45, 120]⟩, .int .i64 0] w fun e w' => e = .returned (.bool true) ∧ Below w.heap.size w w' := by
  have h := names_ok 1 120 false true true w ht (by decide) (by decide +kernel)
  rw [show nameS 1 120 false true true = ⟨#[67, 45, 65, 45, 120]⟩ by decide +kernel] at h
  exact h
theorem kn1 (w : World) (ht : Tab w) : Calls Tryd.prog 11 #[.agg #[.int .i64 27, .int .i32 0, .bool true, .bool false, .bool false], .string ⟨#[83, 45, 70, 49, 50]⟩, .int .i64 0] w fun e w' => e = .returned (.bool true) ∧ Below w.heap.size w w' := by
  have h := names_ok 27 0 true false false w ht (by decide) (by decide +kernel)
  rw [show nameS 27 0 true false false = ⟨#[83, 45, 70, 49, 50]⟩ by decide +kernel] at h
  exact h
theorem kn2 (w : World) (ht : Tab w) : Calls Tryd.prog 11 #[.agg #[.int .i64 1, .int .i32 32, .bool false, .bool false, .bool false], .string ⟨#[83, 112, 97, 99, 101]⟩, .int .i64 0] w fun e w' => e = .returned (.bool true) ∧ Below w.heap.size w w' := by
  have h := names_ok 1 32 false false false w ht (by decide) (by decide +kernel)
  rw [show nameS 1 32 false false false = ⟨#[83, 112, 97, 99, 101]⟩ by decide +kernel] at h
  exact h
theorem kd0 (w : World) (hg : Gl w) : Calls Tryd.prog 15 #[.string ⟨#[65, 45, 83, 112, 97, 99, 101]⟩, .agg #[.int .i64 1, .int .i32 32, .bool false, .bool true, .bool false], .int .i64 0] w fun e w' => e = .returned (.bool true) ∧ Below w.heap.size w w' := by
  have h := named_ok 1 32 false true false w hg (by decide +kernel)
  rw [show nameS 1 32 false true false = ⟨#[65, 45, 83, 112, 97, 99, 101]⟩ by decide +kernel] at h
  exact h
theorem kd1 (w : World) (hg : Gl w) : Calls Tryd.prog 15 #[.string ⟨#[83, 45, 67, 45, 97]⟩, .agg #[.int .i64 0, .int .i32 0, .bool false, .bool false, .bool false], .int .i64 6] w fun e w' => e = .returned (.bool true) ∧ Below w.heap.size w w' := named_no ⟨#[83, 45, 67, 45, 97]⟩ w hg (by decide) (by decide +kernel)
set_option maxHeartbeats 8000000 in
set_option maxRecDepth 100000 in
theorem known_any (w : World) (hg : Gl w) : Calls Tryd.prog 12 #[] w fun e w' => e = .returned (.bool true) ∧ Below w.heap.size w w' := by
  have hl0 : Below w.heap.size w (((w.alloc (.cells #[.bool false, .bool false, .bool false] 26)).alloc (.cells #[.bool true, .bool false, .bool false] 26)).alloc (.cells #[.int .i64 6, .int .i32 0, .bool false, .bool false, .bool false] 24)) := bl_alloc (bl_alloc (bl_alloc (Below.refl _ _) _) _) _
  have xn0 : Box (((w.alloc (.cells #[.bool false, .bool false, .bool false] 26)).alloc (.cells #[.bool true, .bool false, .bool false] 26)).alloc (.cells #[.int .i64 6, .int .i32 0, .bool false, .bool false, .bool false] 24)) w.heap.size #[.bool false, .bool false, .bool false] 26 := Box.alloc (Box.alloc (Box.new _ _ _ rfl) _) _
  have xa0 : Box (((w.alloc (.cells #[.bool false, .bool false, .bool false] 26)).alloc (.cells #[.bool true, .bool false, .bool false] 26)).alloc (.cells #[.int .i64 6, .int .i32 0, .bool false, .bool false, .bool false] 24)) (w.heap.size + 1) #[.bool true, .bool false, .bool false] 26 := Box.alloc (Box.new _ _ _ (by simp)) _
  have xu0 : Box (((w.alloc (.cells #[.bool false, .bool false, .bool false] 26)).alloc (.cells #[.bool true, .bool false, .bool false] 26)).alloc (.cells #[.int .i64 6, .int .i32 0, .bool false, .bool false, .bool false] 24)) (w.heap.size + 1 + 1) #[.int .i64 6, .int .i32 0, .bool false, .bool false, .bool false] 24 := Box.new _ _ _ (by simp)
  have cn0 := xn0.cell
  have ln0 := xn0.lt
  have ca0 := xa0.cell
  have la0 := xa0.lt
  have cu0 := xu0.cell
  have lu0 := xu0.lt
  go_enter Tryd.func12, Tryd.ntmps12
  go_wp2_with (first | (go_at_call 10; (with_reducible refine (ks0 _ (hg.below hl0).t).mono ?_); rintro e w1 ⟨rfl, hb1⟩; have hl1 := bl_trans hl0 hb1; have xn1 : Box w1 w.heap.size _ _ := (hb1.block _ xn0.lt).trans xn0; have xa1 : Box w1 (w.heap.size + 1) _ _ := (hb1.block _ xa0.lt).trans xa0; have xu1 : Box w1 (w.heap.size + 1 + 1) _ _ := (hb1.block _ xu0.lt).trans xu0; clear cn0 ln0 ca0 la0 cu0 lu0 xn0 xa0 xu0 hb1; have cn1 := xn1.cell; have ln1 := xn1.lt; have ca1 := xa1.cell; have la1 := xa1.lt; have cu1 := xu1.cell; have lu1 := xu1.lt) | (go_at_call 10; (with_reducible refine (ks1 _ (hg.below hl1).t).mono ?_); rintro e w2 ⟨rfl, hb2⟩; have hl2 := bl_trans hl1 hb2; have xn2 : Box w2 w.heap.size _ _ := (hb2.block _ xn1.lt).trans xn1; have xa2 : Box w2 (w.heap.size + 1) _ _ := (hb2.block _ xa1.lt).trans xa1; have xu2 : Box w2 (w.heap.size + 1 + 1) _ _ := (hb2.block _ xu1.lt).trans xu1; clear cn1 ln1 ca1 la1 cu1 lu1 xn1 xa1 xu1 hb2; have cn2 := xn2.cell; have ln2 := xn2.lt; have ca2 := xa2.cell; have la2 := xa2.lt; have cu2 := xu2.cell; have lu2 := xu2.lt) | (go_at_call 10; (with_reducible refine (ks2 _ (hg.below hl2).t).mono ?_); rintro e w3 ⟨rfl, hb3⟩; have hl3 := bl_trans hl2 hb3; have xn3 : Box w3 w.heap.size _ _ := (hb3.block _ xn2.lt).trans xn2; have xa3 : Box w3 (w.heap.size + 1) _ _ := (hb3.block _ xa2.lt).trans xa2; have xu3 : Box w3 (w.heap.size + 1 + 1) _ _ := (hb3.block _ xu2.lt).trans xu2; clear cn2 ln2 ca2 la2 cu2 lu2 xn2 xa2 xu2 hb3; have cn3 := xn3.cell; have ln3 := xn3.lt; have ca3 := xa3.cell; have la3 := xa3.lt; have cu3 := xu3.cell; have lu3 := xu3.lt) | (go_at_call 10; (with_reducible refine (ks3 _ (hg.below hl3).t).mono ?_); rintro e w4 ⟨rfl, hb4⟩; have hl4 := bl_trans hl3 hb4; have xn4 : Box w4 w.heap.size _ _ := (hb4.block _ xn3.lt).trans xn3; have xa4 : Box w4 (w.heap.size + 1) _ _ := (hb4.block _ xa3.lt).trans xa3; have xu4 : Box w4 (w.heap.size + 1 + 1) _ _ := (hb4.block _ xu3.lt).trans xu3; clear cn3 ln3 ca3 la3 cu3 lu3 xn3 xa3 xu3 hb4; have cn4 := xn4.cell; have ln4 := xn4.lt; have ca4 := xa4.cell; have la4 := xa4.lt; have cu4 := xu4.cell; have lu4 := xu4.lt) | (go_at_call 10; (with_reducible refine (ks4 _ (hg.below hl4).t).mono ?_); rintro e w5 ⟨rfl, hb5⟩; have hl5 := bl_trans hl4 hb5; have xn5 : Box w5 w.heap.size _ _ := (hb5.block _ xn4.lt).trans xn4; have xa5 : Box w5 (w.heap.size + 1) _ _ := (hb5.block _ xa4.lt).trans xa4; have xu5 : Box w5 (w.heap.size + 1 + 1) _ _ := (hb5.block _ xu4.lt).trans xu4; clear cn4 ln4 ca4 la4 cu4 lu4 xn4 xa4 xu4 hb5; have cn5 := xn5.cell; have ln5 := xn5.lt; have ca5 := xa5.cell; have la5 := xa5.lt; have cu5 := xu5.cell; have lu5 := xu5.lt) | (go_at_call 10; (with_reducible refine (ks5 _ (hg.below hl5).t).mono ?_); rintro e w6 ⟨rfl, hb6⟩; have hl6 := bl_trans hl5 hb6; have xn6 : Box w6 w.heap.size _ _ := (hb6.block _ xn5.lt).trans xn5; have xa6 : Box w6 (w.heap.size + 1) _ _ := (hb6.block _ xa5.lt).trans xa5; have xu6 : Box w6 (w.heap.size + 1 + 1) _ _ := (hb6.block _ xu5.lt).trans xu5; clear cn5 ln5 ca5 la5 cu5 lu5 xn5 xa5 xu5 hb6; have cn6 := xn6.cell; have ln6 := xn6.lt; have ca6 := xa6.cell; have la6 := xa6.lt; have cu6 := xu6.cell; have lu6 := xu6.lt) | (go_at_call 10; (with_reducible refine (ks6 _ (hg.below hl6).t).mono ?_); rintro e w7 ⟨rfl, hb7⟩; have hl7 := bl_trans hl6 hb7; have xn7 : Box w7 w.heap.size _ _ := (hb7.block _ xn6.lt).trans xn6; have xa7 : Box w7 (w.heap.size + 1) _ _ := (hb7.block _ xa6.lt).trans xa6; have xu7 : Box w7 (w.heap.size + 1 + 1) _ _ := (hb7.block _ xu6.lt).trans xu6; clear cn6 ln6 ca6 la6 cu6 lu6 xn6 xa6 xu6 hb7; have cn7 := xn7.cell; have ln7 := xn7.lt; have ca7 := xa7.cell; have la7 := xa7.lt; have cu7 := xu7.cell; have lu7 := xu7.lt) | (go_at_call 10; (with_reducible refine (ks7 _ (hg.below hl7).t).mono ?_); rintro e w8 ⟨rfl, hb8⟩; have hl8 := bl_trans hl7 hb8; have xn8 : Box w8 w.heap.size _ _ := (hb8.block _ xn7.lt).trans xn7; have xa8 : Box w8 (w.heap.size + 1) _ _ := (hb8.block _ xa7.lt).trans xa7; have xu8 : Box w8 (w.heap.size + 1 + 1) _ _ := (hb8.block _ xu7.lt).trans xu7; clear cn7 ln7 ca7 la7 cu7 lu7 xn7 xa7 xu7 hb8; have cn8 := xn8.cell; have ln8 := xn8.lt; have ca8 := xa8.cell; have la8 := xa8.lt; have cu8 := xu8.cell; have lu8 := xu8.lt) | (go_at_call 10; (with_reducible refine (ks8 _ (hg.below hl8).t).mono ?_); rintro e w9 ⟨rfl, hb9⟩; have hl9 := bl_trans hl8 hb9; have xn9 : Box w9 w.heap.size _ _ := (hb9.block _ xn8.lt).trans xn8; have xa9 : Box w9 (w.heap.size + 1) _ _ := (hb9.block _ xa8.lt).trans xa8; have xu9 : Box w9 (w.heap.size + 1 + 1) _ _ := (hb9.block _ xu8.lt).trans xu8; clear cn8 ln8 ca8 la8 cu8 lu8 xn8 xa8 xu8 hb9; have cn9 := xn9.cell; have ln9 := xn9.lt; have ca9 := xa9.cell; have la9 := xa9.lt; have cu9 := xu9.cell; have lu9 := xu9.lt) | (go_at_call 10; (with_reducible refine (ks9 _ (hg.below hl9).t).mono ?_); rintro e w10 ⟨rfl, hb10⟩; have hl10 := bl_trans hl9 hb10; have xn10 : Box w10 w.heap.size _ _ := (hb10.block _ xn9.lt).trans xn9; have xa10 : Box w10 (w.heap.size + 1) _ _ := (hb10.block _ xa9.lt).trans xa9; have xu10 : Box w10 (w.heap.size + 1 + 1) _ _ := (hb10.block _ xu9.lt).trans xu9; clear cn9 ln9 ca9 la9 cu9 lu9 xn9 xa9 xu9 hb10; have cn10 := xn10.cell; have ln10 := xn10.lt; have ca10 := xa10.cell; have la10 := xa10.lt; have cu10 := xu10.cell; have lu10 := xu10.lt) | (go_at_call 10; (with_reducible refine (ks10 _ (hg.below hl10).t).mono ?_); rintro e w11 ⟨rfl, hb11⟩; have hl11 := bl_trans hl10 hb11; have xn11 : Box w11 w.heap.size _ _ := (hb11.block _ xn10.lt).trans xn10; have xa11 : Box w11 (w.heap.size + 1) _ _ := (hb11.block _ xa10.lt).trans xa10; have xu11 : Box w11 (w.heap.size + 1 + 1) _ _ := (hb11.block _ xu10.lt).trans xu10; clear cn10 ln10 ca10 la10 cu10 lu10 xn10 xa10 xu10 hb11; have cn11 := xn11.cell; have ln11 := xn11.lt; have ca11 := xa11.cell; have la11 := xa11.lt; have cu11 := xu11.cell; have lu11 := xu11.lt) | (go_at_call 11; (with_reducible refine (kn0 _ (hg.below hl11).t).mono ?_); rintro e w12 ⟨rfl, hb12⟩; have hl12 := bl_trans hl11 hb12; have xn12 : Box w12 w.heap.size _ _ := (hb12.block _ xn11.lt).trans xn11; have xa12 : Box w12 (w.heap.size + 1) _ _ := (hb12.block _ xa11.lt).trans xa11; have xu12 : Box w12 (w.heap.size + 1 + 1) _ _ := (hb12.block _ xu11.lt).trans xu11; clear cn11 ln11 ca11 la11 cu11 lu11 xn11 xa11 xu11 hb12; have cn12 := xn12.cell; have ln12 := xn12.lt; have ca12 := xa12.cell; have la12 := xa12.lt; have cu12 := xu12.cell; have lu12 := xu12.lt) | (go_at_call 11; (with_reducible refine (kn1 _ (hg.below hl12).t).mono ?_); rintro e w13 ⟨rfl, hb13⟩; have hl13 := bl_trans hl12 hb13; have xn13 : Box w13 w.heap.size _ _ := (hb13.block _ xn12.lt).trans xn12; have xa13 : Box w13 (w.heap.size + 1) _ _ := (hb13.block _ xa12.lt).trans xa12; have xu13 : Box w13 (w.heap.size + 1 + 1) _ _ := (hb13.block _ xu12.lt).trans xu12; clear cn12 ln12 ca12 la12 cu12 lu12 xn12 xa12 xu12 hb13; have cn13 := xn13.cell; have ln13 := xn13.lt; have ca13 := xa13.cell; have la13 := xa13.lt; have cu13 := xu13.cell; have lu13 := xu13.lt) | (go_at_call 11; (with_reducible refine (kn2 _ (hg.below hl13).t).mono ?_); rintro e w14 ⟨rfl, hb14⟩; have hl14 := bl_trans hl13 hb14; have xn14 : Box w14 w.heap.size _ _ := (hb14.block _ xn13.lt).trans xn13; have xa14 : Box w14 (w.heap.size + 1) _ _ := (hb14.block _ xa13.lt).trans xa13; have xu14 : Box w14 (w.heap.size + 1 + 1) _ _ := (hb14.block _ xu13.lt).trans xu13; clear cn13 ln13 ca13 la13 cu13 lu13 xn13 xa13 xu13 hb14; have cn14 := xn14.cell; have ln14 := xn14.lt; have ca14 := xa14.cell; have la14 := xa14.lt; have cu14 := xu14.cell; have lu14 := xu14.lt) | (go_at_call 15; (with_reducible refine (kd0 _ (hg.below hl14)).mono ?_); rintro e w15 ⟨rfl, hb15⟩; have hl15 := bl_trans hl14 hb15; have xn15 : Box w15 w.heap.size _ _ := (hb15.block _ xn14.lt).trans xn14; have xa15 : Box w15 (w.heap.size + 1) _ _ := (hb15.block _ xa14.lt).trans xa14; have xu15 : Box w15 (w.heap.size + 1 + 1) _ _ := (hb15.block _ xu14.lt).trans xu14; clear cn14 ln14 ca14 la14 cu14 lu14 xn14 xa14 xu14 hb15; have cn15 := xn15.cell; have ln15 := xn15.lt; have ca15 := xa15.cell; have la15 := xa15.lt; have cu15 := xu15.cell; have lu15 := xu15.lt) | (go_at_call 15; (with_reducible refine (kd1 _ (hg.below hl15)).mono ?_); rintro e w16 ⟨rfl, hb16⟩; have hl16 := bl_trans hl15 hb16; have xn16 : Box w16 w.heap.size _ _ := (hb16.block _ xn15.lt).trans xn15; have xa16 : Box w16 (w.heap.size + 1) _ _ := (hb16.block _ xa15.lt).trans xa15; have xu16 : Box w16 (w.heap.size + 1 + 1) _ _ := (hb16.block _ xu15.lt).trans xu15; clear cn15 ln15 ca15 la15 cu15 lu15 xn15 xa15 xu15 hb16; have cn16 := xn16.cell; have ln16 := xn16.lt; have ca16 := xa16.cell; have la16 := xa16.lt; have cu16 := xu16.cell; have lu16 := xu16.lt) | (go_at_call 10; (with_reducible refine (ks11 _ (hg.below hl16).t).mono ?_); rintro e w17 ⟨rfl, hb17⟩; have hl17 := bl_trans hl16 hb17; have xn17 : Box w17 w.heap.size _ _ := (hb17.block _ xn16.lt).trans xn16; have xa17 : Box w17 (w.heap.size + 1) _ _ := (hb17.block _ xa16.lt).trans xa16; have xu17 : Box w17 (w.heap.size + 1 + 1) _ _ := (hb17.block _ xu16.lt).trans xu16; clear cn16 ln16 ca16 la16 cu16 lu16 xn16 xa16 xu16 hb17; have cn17 := xn17.cell; have ln17 := xn17.lt; have ca17 := xa17.cell; have la17 := xa17.lt; have cu17 := xu17.cell; have lu17 := xu17.lt))
  go_ret
  exact ⟨rfl, hl17⟩

end Go.Proofs.YtofjdjjbgnfngaaDoor
