/- keys: the bytes of keys with a letter or a number. -/
import Derived.Test.YtofjdjjbgnfngaaDoorB
import Derived.Test.YtofjdjjbgnfngaaDoorLate3
import Derived.Outline
set_option linter.unusedSimpArgs false
set_option linter.unusedVariables false
set_option linter.unnecessarySimpa false
namespace Go.Proofs.YtofjdjjbgnfngaaDoor
open Go.RowKit

set_option maxHeartbeats 4000000 in
theorem bytes_6 (rune : Int) (sh al ct : Bool) (app nl bk : Bool) (w : World) (ht : Tab w) (hv : validK 6 rune = true) : Calls Tryd.prog 18 #[.agg #[.int .i64 6, .int .i32 rune, .bool sh, .bool al, .bool ct], .agg #[.bool app, .bool nl, .bool bk]] w (BytesE 6 rune sh al ct app nl bk w) := by
  have cV := fun W => valid_any 6 rune sh al ct W
  rw [hv] at cV
  unfold BytesE
  have hS : bytesS 6 rune sh al ct app nl bk = letterS (modN sh al ct) ⟨#[65]⟩ app := rfl
  rw [hS]
  have cF := fun W (ht : Tab W) => letter_any 6 rune sh al ct ⟨#[65]⟩ app W ht (by decide)
  have hB := bl_alloc (bl_alloc (Below.refl _ w) (.cells #[.int .i64 6, .int .i32 rune, .bool sh, .bool al, .bool ct] 24)) (.cells #[.bool app, .bool nl, .bool bk] 26)
  have hsz0 := letter_size (modN sh al ct) ⟨#[65]⟩ app (by decide) (mod_range sh al ct)
  generalize letterS (modN sh al ct) ⟨#[65]⟩ app = S at *
  have hsz : S.size ≤ maxLen := by unfold maxLen; omega
  go_enter Tryd.func18, Tryd.ntmps18
  go_wp2_with (first | (go_at_call 8; (with_reducible refine (cV _).mono ?_); rintro e w1 ⟨rfl, hb⟩; (first | obtain ⟨X, rfl⟩ := GW.of2 hb | obtain ⟨X, rfl⟩ := GW.of hb); clear hb))
  have hB0 : Below w.heap.size w (X.world.alloc (.cells #[.int .i64 15, .int .i64 17, .int .i64 18, .int .i64 19, .int .i64 20, .int .i64 21, .int .i64 23, .int .i64 24] 3)) := bl_alloc (bl_trans hB X.grow) _
  have xk : Box (X.world.alloc (.cells #[.int .i64 15, .int .i64 17, .int .i64 18, .int .i64 19, .int .i64 20, .int .i64 21, .int .i64 23, .int .i64 24] 3)) w.heap.size #[.int .i64 6, .int .i32 rune, .bool sh, .bool al, .bool ct] 24 := (Box.gw ((Box.new w _ _ rfl).alloc _)).alloc _
  have xi : Box (X.world.alloc (.cells #[.int .i64 15, .int .i64 17, .int .i64 18, .int .i64 19, .int .i64 20, .int .i64 21, .int .i64 23, .int .i64 24] 3)) (w.heap.size + 1) #[.bool app, .bool nl, .bool bk] 26 := (Box.gw (Box.new _ _ _ (by simp))).alloc _
  have xn : Box (X.world.alloc (.cells #[.int .i64 15, .int .i64 17, .int .i64 18, .int .i64 19, .int .i64 20, .int .i64 21, .int .i64 23, .int .i64 24] 3)) X.world.heap.size #[.int .i64 15, .int .i64 17, .int .i64 18, .int .i64 19, .int .i64 20, .int .i64 21, .int .i64 23, .int .i64 24] 3 := Box.new _ _ _ rfl
  generalize X.world.alloc (.cells #[.int .i64 15, .int .i64 17, .int .i64 18, .int .i64 19, .int .i64 20, .int .i64 21, .int .i64 23, .int .i64 24] 3) = W0 at *
  obtain ⟨b0, hb0⟩ : ∃ b0, X.world.heap.size = b0 := ⟨_, rfl⟩
  rw [hb0] at xn ⊢
  clear hb0 X
  have ck := xk.cell
  have lk := xk.lt
  have ci := xi.cell
  have li := xi.lt
  have cn := xn.cell
  have ln := xn.lt
  have hx : (⟨#[65, 66, 67, 68, 72, 70]⟩ : ByteArray).extract 0 1 = ⟨#[65]⟩ := by decide +kernel
  first | refine wp_grow2 (by kernel_rfl) (by kernel_rfl) ?_ | refine wp_grow (by kernel_rfl) (by kernel_rfl) ?_
  repeat (go_big_quiet_step ((go_at_call 27; with_reducible exact GW.call (cF _ (ht.below (bl_trans hB0 (GW.grow _)))))))
  refine wpQuiet_nil ?_
  rintro _ ⟨X, rfl⟩
  go_wp2_with (first | (refine wpList_bytes rfl _ 9 44 5 rfl Tryd.underlying9 Tryd.underlying44 Tryd.underlying5 _ rfl hsz ?_; intro v w4 hrd hfr hb4))
  go_ret2
  exact ⟨_, rfl, hrd, bl_trans (bl_trans hB0 X.grow) hb4⟩
set_option maxHeartbeats 4000000 in
theorem bytes_7 (rune : Int) (sh al ct : Bool) (app nl bk : Bool) (w : World) (ht : Tab w) (hv : validK 7 rune = true) : Calls Tryd.prog 18 #[.agg #[.int .i64 7, .int .i32 rune, .bool sh, .bool al, .bool ct], .agg #[.bool app, .bool nl, .bool bk]] w (BytesE 7 rune sh al ct app nl bk w) := by
  have cV := fun W => valid_any 7 rune sh al ct W
  rw [hv] at cV
  unfold BytesE
  have hS : bytesS 7 rune sh al ct app nl bk = letterS (modN sh al ct) ⟨#[66]⟩ app := rfl
  rw [hS]
  have cF := fun W (ht : Tab W) => letter_any 7 rune sh al ct ⟨#[66]⟩ app W ht (by decide)
  have hB := bl_alloc (bl_alloc (Below.refl _ w) (.cells #[.int .i64 7, .int .i32 rune, .bool sh, .bool al, .bool ct] 24)) (.cells #[.bool app, .bool nl, .bool bk] 26)
  have hsz0 := letter_size (modN sh al ct) ⟨#[66]⟩ app (by decide) (mod_range sh al ct)
  generalize letterS (modN sh al ct) ⟨#[66]⟩ app = S at *
  have hsz : S.size ≤ maxLen := by unfold maxLen; omega
  go_enter Tryd.func18, Tryd.ntmps18
  go_wp2_with (first | (go_at_call 8; (with_reducible refine (cV _).mono ?_); rintro e w1 ⟨rfl, hb⟩; (first | obtain ⟨X, rfl⟩ := GW.of2 hb | obtain ⟨X, rfl⟩ := GW.of hb); clear hb))
  have hB0 : Below w.heap.size w (X.world.alloc (.cells #[.int .i64 15, .int .i64 17, .int .i64 18, .int .i64 19, .int .i64 20, .int .i64 21, .int .i64 23, .int .i64 24] 3)) := bl_alloc (bl_trans hB X.grow) _
  have xk : Box (X.world.alloc (.cells #[.int .i64 15, .int .i64 17, .int .i64 18, .int .i64 19, .int .i64 20, .int .i64 21, .int .i64 23, .int .i64 24] 3)) w.heap.size #[.int .i64 7, .int .i32 rune, .bool sh, .bool al, .bool ct] 24 := (Box.gw ((Box.new w _ _ rfl).alloc _)).alloc _
  have xi : Box (X.world.alloc (.cells #[.int .i64 15, .int .i64 17, .int .i64 18, .int .i64 19, .int .i64 20, .int .i64 21, .int .i64 23, .int .i64 24] 3)) (w.heap.size + 1) #[.bool app, .bool nl, .bool bk] 26 := (Box.gw (Box.new _ _ _ (by simp))).alloc _
  have xn : Box (X.world.alloc (.cells #[.int .i64 15, .int .i64 17, .int .i64 18, .int .i64 19, .int .i64 20, .int .i64 21, .int .i64 23, .int .i64 24] 3)) X.world.heap.size #[.int .i64 15, .int .i64 17, .int .i64 18, .int .i64 19, .int .i64 20, .int .i64 21, .int .i64 23, .int .i64 24] 3 := Box.new _ _ _ rfl
  generalize X.world.alloc (.cells #[.int .i64 15, .int .i64 17, .int .i64 18, .int .i64 19, .int .i64 20, .int .i64 21, .int .i64 23, .int .i64 24] 3) = W0 at *
  obtain ⟨b0, hb0⟩ : ∃ b0, X.world.heap.size = b0 := ⟨_, rfl⟩
  rw [hb0] at xn ⊢
  clear hb0 X
  have ck := xk.cell
  have lk := xk.lt
  have ci := xi.cell
  have li := xi.lt
  have cn := xn.cell
  have ln := xn.lt
  have hx : (⟨#[65, 66, 67, 68, 72, 70]⟩ : ByteArray).extract 1 2 = ⟨#[66]⟩ := by decide +kernel
  first | refine wp_grow2 (by kernel_rfl) (by kernel_rfl) ?_ | refine wp_grow (by kernel_rfl) (by kernel_rfl) ?_
  repeat (go_big_quiet_step ((go_at_call 27; with_reducible exact GW.call (cF _ (ht.below (bl_trans hB0 (GW.grow _)))))))
  refine wpQuiet_nil ?_
  rintro _ ⟨X, rfl⟩
  go_wp2_with (first | (refine wpList_bytes rfl _ 9 44 5 rfl Tryd.underlying9 Tryd.underlying44 Tryd.underlying5 _ rfl hsz ?_; intro v w4 hrd hfr hb4))
  go_ret2
  exact ⟨_, rfl, hrd, bl_trans (bl_trans hB0 X.grow) hb4⟩
set_option maxHeartbeats 4000000 in
theorem bytes_8 (rune : Int) (sh al ct : Bool) (app nl bk : Bool) (w : World) (ht : Tab w) (hv : validK 8 rune = true) : Calls Tryd.prog 18 #[.agg #[.int .i64 8, .int .i32 rune, .bool sh, .bool al, .bool ct], .agg #[.bool app, .bool nl, .bool bk]] w (BytesE 8 rune sh al ct app nl bk w) := by
  have cV := fun W => valid_any 8 rune sh al ct W
  rw [hv] at cV
  unfold BytesE
  have hS : bytesS 8 rune sh al ct app nl bk = letterS (modN sh al ct) ⟨#[67]⟩ app := rfl
  rw [hS]
  have cF := fun W (ht : Tab W) => letter_any 8 rune sh al ct ⟨#[67]⟩ app W ht (by decide)
  have hB := bl_alloc (bl_alloc (Below.refl _ w) (.cells #[.int .i64 8, .int .i32 rune, .bool sh, .bool al, .bool ct] 24)) (.cells #[.bool app, .bool nl, .bool bk] 26)
  have hsz0 := letter_size (modN sh al ct) ⟨#[67]⟩ app (by decide) (mod_range sh al ct)
  generalize letterS (modN sh al ct) ⟨#[67]⟩ app = S at *
  have hsz : S.size ≤ maxLen := by unfold maxLen; omega
  go_enter Tryd.func18, Tryd.ntmps18
  go_wp2_with (first | (go_at_call 8; (with_reducible refine (cV _).mono ?_); rintro e w1 ⟨rfl, hb⟩; (first | obtain ⟨X, rfl⟩ := GW.of2 hb | obtain ⟨X, rfl⟩ := GW.of hb); clear hb))
  have hB0 : Below w.heap.size w (X.world.alloc (.cells #[.int .i64 15, .int .i64 17, .int .i64 18, .int .i64 19, .int .i64 20, .int .i64 21, .int .i64 23, .int .i64 24] 3)) := bl_alloc (bl_trans hB X.grow) _
  have xk : Box (X.world.alloc (.cells #[.int .i64 15, .int .i64 17, .int .i64 18, .int .i64 19, .int .i64 20, .int .i64 21, .int .i64 23, .int .i64 24] 3)) w.heap.size #[.int .i64 8, .int .i32 rune, .bool sh, .bool al, .bool ct] 24 := (Box.gw ((Box.new w _ _ rfl).alloc _)).alloc _
  have xi : Box (X.world.alloc (.cells #[.int .i64 15, .int .i64 17, .int .i64 18, .int .i64 19, .int .i64 20, .int .i64 21, .int .i64 23, .int .i64 24] 3)) (w.heap.size + 1) #[.bool app, .bool nl, .bool bk] 26 := (Box.gw (Box.new _ _ _ (by simp))).alloc _
  have xn : Box (X.world.alloc (.cells #[.int .i64 15, .int .i64 17, .int .i64 18, .int .i64 19, .int .i64 20, .int .i64 21, .int .i64 23, .int .i64 24] 3)) X.world.heap.size #[.int .i64 15, .int .i64 17, .int .i64 18, .int .i64 19, .int .i64 20, .int .i64 21, .int .i64 23, .int .i64 24] 3 := Box.new _ _ _ rfl
  generalize X.world.alloc (.cells #[.int .i64 15, .int .i64 17, .int .i64 18, .int .i64 19, .int .i64 20, .int .i64 21, .int .i64 23, .int .i64 24] 3) = W0 at *
  obtain ⟨b0, hb0⟩ : ∃ b0, X.world.heap.size = b0 := ⟨_, rfl⟩
  rw [hb0] at xn ⊢
  clear hb0 X
  have ck := xk.cell
  have lk := xk.lt
  have ci := xi.cell
  have li := xi.lt
  have cn := xn.cell
  have ln := xn.lt
  have hx : (⟨#[65, 66, 67, 68, 72, 70]⟩ : ByteArray).extract 2 3 = ⟨#[67]⟩ := by decide +kernel
  first | refine wp_grow2 (by kernel_rfl) (by kernel_rfl) ?_ | refine wp_grow (by kernel_rfl) (by kernel_rfl) ?_
  repeat (go_big_quiet_step ((go_at_call 27; with_reducible exact GW.call (cF _ (ht.below (bl_trans hB0 (GW.grow _)))))))
  refine wpQuiet_nil ?_
  rintro _ ⟨X, rfl⟩
  go_wp2_with (first | (refine wpList_bytes rfl _ 9 44 5 rfl Tryd.underlying9 Tryd.underlying44 Tryd.underlying5 _ rfl hsz ?_; intro v w4 hrd hfr hb4))
  go_ret2
  exact ⟨_, rfl, hrd, bl_trans (bl_trans hB0 X.grow) hb4⟩
set_option maxHeartbeats 4000000 in
theorem bytes_9 (rune : Int) (sh al ct : Bool) (app nl bk : Bool) (w : World) (ht : Tab w) (hv : validK 9 rune = true) : Calls Tryd.prog 18 #[.agg #[.int .i64 9, .int .i32 rune, .bool sh, .bool al, .bool ct], .agg #[.bool app, .bool nl, .bool bk]] w (BytesE 9 rune sh al ct app nl bk w) := by
  have cV := fun W => valid_any 9 rune sh al ct W
  rw [hv] at cV
  unfold BytesE
  have hS : bytesS 9 rune sh al ct app nl bk = letterS (modN sh al ct) ⟨#[68]⟩ app := rfl
  rw [hS]
  have cF := fun W (ht : Tab W) => letter_any 9 rune sh al ct ⟨#[68]⟩ app W ht (by decide)
  have hB := bl_alloc (bl_alloc (Below.refl _ w) (.cells #[.int .i64 9, .int .i32 rune, .bool sh, .bool al, .bool ct] 24)) (.cells #[.bool app, .bool nl, .bool bk] 26)
  have hsz0 := letter_size (modN sh al ct) ⟨#[68]⟩ app (by decide) (mod_range sh al ct)
  generalize letterS (modN sh al ct) ⟨#[68]⟩ app = S at *
  have hsz : S.size ≤ maxLen := by unfold maxLen; omega
  go_enter Tryd.func18, Tryd.ntmps18
  go_wp2_with (first | (go_at_call 8; (with_reducible refine (cV _).mono ?_); rintro e w1 ⟨rfl, hb⟩; (first | obtain ⟨X, rfl⟩ := GW.of2 hb | obtain ⟨X, rfl⟩ := GW.of hb); clear hb))
  have hB0 : Below w.heap.size w (X.world.alloc (.cells #[.int .i64 15, .int .i64 17, .int .i64 18, .int .i64 19, .int .i64 20, .int .i64 21, .int .i64 23, .int .i64 24] 3)) := bl_alloc (bl_trans hB X.grow) _
  have xk : Box (X.world.alloc (.cells #[.int .i64 15, .int .i64 17, .int .i64 18, .int .i64 19, .int .i64 20, .int .i64 21, .int .i64 23, .int .i64 24] 3)) w.heap.size #[.int .i64 9, .int .i32 rune, .bool sh, .bool al, .bool ct] 24 := (Box.gw ((Box.new w _ _ rfl).alloc _)).alloc _
  have xi : Box (X.world.alloc (.cells #[.int .i64 15, .int .i64 17, .int .i64 18, .int .i64 19, .int .i64 20, .int .i64 21, .int .i64 23, .int .i64 24] 3)) (w.heap.size + 1) #[.bool app, .bool nl, .bool bk] 26 := (Box.gw (Box.new _ _ _ (by simp))).alloc _
  have xn : Box (X.world.alloc (.cells #[.int .i64 15, .int .i64 17, .int .i64 18, .int .i64 19, .int .i64 20, .int .i64 21, .int .i64 23, .int .i64 24] 3)) X.world.heap.size #[.int .i64 15, .int .i64 17, .int .i64 18, .int .i64 19, .int .i64 20, .int .i64 21, .int .i64 23, .int .i64 24] 3 := Box.new _ _ _ rfl
  generalize X.world.alloc (.cells #[.int .i64 15, .int .i64 17, .int .i64 18, .int .i64 19, .int .i64 20, .int .i64 21, .int .i64 23, .int .i64 24] 3) = W0 at *
  obtain ⟨b0, hb0⟩ : ∃ b0, X.world.heap.size = b0 := ⟨_, rfl⟩
  rw [hb0] at xn ⊢
  clear hb0 X
  have ck := xk.cell
  have lk := xk.lt
  have ci := xi.cell
  have li := xi.lt
  have cn := xn.cell
  have ln := xn.lt
  have hx : (⟨#[65, 66, 67, 68, 72, 70]⟩ : ByteArray).extract 3 4 = ⟨#[68]⟩ := by decide +kernel
  first | refine wp_grow2 (by kernel_rfl) (by kernel_rfl) ?_ | refine wp_grow (by kernel_rfl) (by kernel_rfl) ?_
  repeat (go_big_quiet_step ((go_at_call 27; with_reducible exact GW.call (cF _ (ht.below (bl_trans hB0 (GW.grow _)))))))
  refine wpQuiet_nil ?_
  rintro _ ⟨X, rfl⟩
  go_wp2_with (first | (refine wpList_bytes rfl _ 9 44 5 rfl Tryd.underlying9 Tryd.underlying44 Tryd.underlying5 _ rfl hsz ?_; intro v w4 hrd hfr hb4))
  go_ret2
  exact ⟨_, rfl, hrd, bl_trans (bl_trans hB0 X.grow) hb4⟩
set_option maxHeartbeats 4000000 in
theorem bytes_10 (rune : Int) (sh al ct : Bool) (app nl bk : Bool) (w : World) (ht : Tab w) (hv : validK 10 rune = true) : Calls Tryd.prog 18 #[.agg #[.int .i64 10, .int .i32 rune, .bool sh, .bool al, .bool ct], .agg #[.bool app, .bool nl, .bool bk]] w (BytesE 10 rune sh al ct app nl bk w) := by
  have cV := fun W => valid_any 10 rune sh al ct W
  rw [hv] at cV
  unfold BytesE
  have hS : bytesS 10 rune sh al ct app nl bk = letterS (modN sh al ct) ⟨#[72]⟩ app := rfl
  rw [hS]
  have cF := fun W (ht : Tab W) => letter_any 10 rune sh al ct ⟨#[72]⟩ app W ht (by decide)
  have hB := bl_alloc (bl_alloc (Below.refl _ w) (.cells #[.int .i64 10, .int .i32 rune, .bool sh, .bool al, .bool ct] 24)) (.cells #[.bool app, .bool nl, .bool bk] 26)
  have hsz0 := letter_size (modN sh al ct) ⟨#[72]⟩ app (by decide) (mod_range sh al ct)
  generalize letterS (modN sh al ct) ⟨#[72]⟩ app = S at *
  have hsz : S.size ≤ maxLen := by unfold maxLen; omega
  go_enter Tryd.func18, Tryd.ntmps18
  go_wp2_with (first | (go_at_call 8; (with_reducible refine (cV _).mono ?_); rintro e w1 ⟨rfl, hb⟩; (first | obtain ⟨X, rfl⟩ := GW.of2 hb | obtain ⟨X, rfl⟩ := GW.of hb); clear hb))
  have hB0 : Below w.heap.size w (X.world.alloc (.cells #[.int .i64 15, .int .i64 17, .int .i64 18, .int .i64 19, .int .i64 20, .int .i64 21, .int .i64 23, .int .i64 24] 3)) := bl_alloc (bl_trans hB X.grow) _
  have xk : Box (X.world.alloc (.cells #[.int .i64 15, .int .i64 17, .int .i64 18, .int .i64 19, .int .i64 20, .int .i64 21, .int .i64 23, .int .i64 24] 3)) w.heap.size #[.int .i64 10, .int .i32 rune, .bool sh, .bool al, .bool ct] 24 := (Box.gw ((Box.new w _ _ rfl).alloc _)).alloc _
  have xi : Box (X.world.alloc (.cells #[.int .i64 15, .int .i64 17, .int .i64 18, .int .i64 19, .int .i64 20, .int .i64 21, .int .i64 23, .int .i64 24] 3)) (w.heap.size + 1) #[.bool app, .bool nl, .bool bk] 26 := (Box.gw (Box.new _ _ _ (by simp))).alloc _
  have xn : Box (X.world.alloc (.cells #[.int .i64 15, .int .i64 17, .int .i64 18, .int .i64 19, .int .i64 20, .int .i64 21, .int .i64 23, .int .i64 24] 3)) X.world.heap.size #[.int .i64 15, .int .i64 17, .int .i64 18, .int .i64 19, .int .i64 20, .int .i64 21, .int .i64 23, .int .i64 24] 3 := Box.new _ _ _ rfl
  generalize X.world.alloc (.cells #[.int .i64 15, .int .i64 17, .int .i64 18, .int .i64 19, .int .i64 20, .int .i64 21, .int .i64 23, .int .i64 24] 3) = W0 at *
  obtain ⟨b0, hb0⟩ : ∃ b0, X.world.heap.size = b0 := ⟨_, rfl⟩
  rw [hb0] at xn ⊢
  clear hb0 X
  have ck := xk.cell
  have lk := xk.lt
  have ci := xi.cell
  have li := xi.lt
  have cn := xn.cell
  have ln := xn.lt
  have hx : (⟨#[65, 66, 67, 68, 72, 70]⟩ : ByteArray).extract 4 5 = ⟨#[72]⟩ := by decide +kernel
  first | refine wp_grow2 (by kernel_rfl) (by kernel_rfl) ?_ | refine wp_grow (by kernel_rfl) (by kernel_rfl) ?_
  repeat (go_big_quiet_step ((go_at_call 27; with_reducible exact GW.call (cF _ (ht.below (bl_trans hB0 (GW.grow _)))))))
  refine wpQuiet_nil ?_
  rintro _ ⟨X, rfl⟩
  go_wp2_with (first | (refine wpList_bytes rfl _ 9 44 5 rfl Tryd.underlying9 Tryd.underlying44 Tryd.underlying5 _ rfl hsz ?_; intro v w4 hrd hfr hb4))
  go_ret2
  exact ⟨_, rfl, hrd, bl_trans (bl_trans hB0 X.grow) hb4⟩
set_option maxHeartbeats 4000000 in
theorem bytes_11 (rune : Int) (sh al ct : Bool) (app nl bk : Bool) (w : World) (ht : Tab w) (hv : validK 11 rune = true) : Calls Tryd.prog 18 #[.agg #[.int .i64 11, .int .i32 rune, .bool sh, .bool al, .bool ct], .agg #[.bool app, .bool nl, .bool bk]] w (BytesE 11 rune sh al ct app nl bk w) := by
  have cV := fun W => valid_any 11 rune sh al ct W
  rw [hv] at cV
  unfold BytesE
  have hS : bytesS 11 rune sh al ct app nl bk = letterS (modN sh al ct) ⟨#[70]⟩ app := rfl
  rw [hS]
  have cF := fun W (ht : Tab W) => letter_any 11 rune sh al ct ⟨#[70]⟩ app W ht (by decide)
  have hB := bl_alloc (bl_alloc (Below.refl _ w) (.cells #[.int .i64 11, .int .i32 rune, .bool sh, .bool al, .bool ct] 24)) (.cells #[.bool app, .bool nl, .bool bk] 26)
  have hsz0 := letter_size (modN sh al ct) ⟨#[70]⟩ app (by decide) (mod_range sh al ct)
  generalize letterS (modN sh al ct) ⟨#[70]⟩ app = S at *
  have hsz : S.size ≤ maxLen := by unfold maxLen; omega
  go_enter Tryd.func18, Tryd.ntmps18
  go_wp2_with (first | (go_at_call 8; (with_reducible refine (cV _).mono ?_); rintro e w1 ⟨rfl, hb⟩; (first | obtain ⟨X, rfl⟩ := GW.of2 hb | obtain ⟨X, rfl⟩ := GW.of hb); clear hb))
  have hB0 : Below w.heap.size w (X.world.alloc (.cells #[.int .i64 15, .int .i64 17, .int .i64 18, .int .i64 19, .int .i64 20, .int .i64 21, .int .i64 23, .int .i64 24] 3)) := bl_alloc (bl_trans hB X.grow) _
  have xk : Box (X.world.alloc (.cells #[.int .i64 15, .int .i64 17, .int .i64 18, .int .i64 19, .int .i64 20, .int .i64 21, .int .i64 23, .int .i64 24] 3)) w.heap.size #[.int .i64 11, .int .i32 rune, .bool sh, .bool al, .bool ct] 24 := (Box.gw ((Box.new w _ _ rfl).alloc _)).alloc _
  have xi : Box (X.world.alloc (.cells #[.int .i64 15, .int .i64 17, .int .i64 18, .int .i64 19, .int .i64 20, .int .i64 21, .int .i64 23, .int .i64 24] 3)) (w.heap.size + 1) #[.bool app, .bool nl, .bool bk] 26 := (Box.gw (Box.new _ _ _ (by simp))).alloc _
  have xn : Box (X.world.alloc (.cells #[.int .i64 15, .int .i64 17, .int .i64 18, .int .i64 19, .int .i64 20, .int .i64 21, .int .i64 23, .int .i64 24] 3)) X.world.heap.size #[.int .i64 15, .int .i64 17, .int .i64 18, .int .i64 19, .int .i64 20, .int .i64 21, .int .i64 23, .int .i64 24] 3 := Box.new _ _ _ rfl
  generalize X.world.alloc (.cells #[.int .i64 15, .int .i64 17, .int .i64 18, .int .i64 19, .int .i64 20, .int .i64 21, .int .i64 23, .int .i64 24] 3) = W0 at *
  obtain ⟨b0, hb0⟩ : ∃ b0, X.world.heap.size = b0 := ⟨_, rfl⟩
  rw [hb0] at xn ⊢
  clear hb0 X
  have ck := xk.cell
  have lk := xk.lt
  have ci := xi.cell
  have li := xi.lt
  have cn := xn.cell
  have ln := xn.lt
  have hx : (⟨#[65, 66, 67, 68, 72, 70]⟩ : ByteArray).extract 5 6 = ⟨#[70]⟩ := by decide +kernel
  first | refine wp_grow2 (by kernel_rfl) (by kernel_rfl) ?_ | refine wp_grow (by kernel_rfl) (by kernel_rfl) ?_
  repeat (go_big_quiet_step ((go_at_call 27; with_reducible exact GW.call (cF _ (ht.below (bl_trans hB0 (GW.grow _)))))))
  refine wpQuiet_nil ?_
  rintro _ ⟨X, rfl⟩
  go_wp2_with (first | (refine wpList_bytes rfl _ 9 44 5 rfl Tryd.underlying9 Tryd.underlying44 Tryd.underlying5 _ rfl hsz ?_; intro v w4 hrd hfr hb4))
  go_ret2
  exact ⟨_, rfl, hrd, bl_trans (bl_trans hB0 X.grow) hb4⟩
set_option maxHeartbeats 4000000 in
theorem bytes_12 (rune : Int) (sh al ct : Bool) (app nl bk : Bool) (w : World) (ht : Tab w) (hv : validK 12 rune = true) : Calls Tryd.prog 18 #[.agg #[.int .i64 12, .int .i32 rune, .bool sh, .bool al, .bool ct], .agg #[.bool app, .bool nl, .bool bk]] w (BytesE 12 rune sh al ct app nl bk w) := by
  have cV := fun W => valid_any 12 rune sh al ct W
  rw [hv] at cV
  unfold BytesE
  have hS : bytesS 12 rune sh al ct app nl bk = numberedS (modN sh al ct) 2 := rfl
  rw [hS]
  have cF := fun W (ht : Tab W) => numbered_any 12 rune sh al ct 2 W ht (by omega)
  have hB := bl_alloc (bl_alloc (Below.refl _ w) (.cells #[.int .i64 12, .int .i32 rune, .bool sh, .bool al, .bool ct] 24)) (.cells #[.bool app, .bool nl, .bool bk] 26)
  have hsz0 := numbered_size (modN sh al ct) 2 (by omega) (mod_range sh al ct)
  generalize numberedS (modN sh al ct) 2 = S at *
  have hsz : S.size ≤ maxLen := by unfold maxLen; omega
  go_enter Tryd.func18, Tryd.ntmps18
  go_wp2_with (first | (go_at_call 8; (with_reducible refine (cV _).mono ?_); rintro e w1 ⟨rfl, hb⟩; (first | obtain ⟨X, rfl⟩ := GW.of2 hb | obtain ⟨X, rfl⟩ := GW.of hb); clear hb))
  obtain ⟨W0, hW0⟩ : ∃ W0, X.world.alloc (.cells #[.int .i64 15, .int .i64 17, .int .i64 18, .int .i64 19, .int .i64 20, .int .i64 21, .int .i64 23, .int .i64 24] 3) = W0 := ⟨_, rfl⟩
  have hB0 : Below w.heap.size w W0 := hW0 ▸ bl_alloc (bl_trans hB X.grow) _
  have xk : Box W0 w.heap.size #[.int .i64 12, .int .i32 rune, .bool sh, .bool al, .bool ct] 24 := hW0 ▸ (Box.gw ((Box.new w _ _ rfl).alloc _)).alloc _
  rw [hW0]
  obtain ⟨b9, hb9⟩ : ∃ b9, X.world.heap.size = b9 := ⟨_, rfl⟩
  rw [hb9]
  clear hW0 hb9 X
  have ck := xk.cell
  have lk := xk.lt
  have hdr : Below w.heap.size w W0.drew := hB0.drew
  refine wp_region_V Gr (by kernel_rfl) ?_
  obtain ⟨W2, hW2, hB2, xk2⟩ : ∃ W2, W0.drew = W2 ∧ Below w.heap.size w W2 ∧ Box W2 _ _ _ := ⟨_, rfl, hdr, Box.drew xk⟩
  rw [hW2]
  clear hW2 hB0 xk ck lk hdr W0
  have hB0 := hB2
  have ck := xk2.cell
  have lk := xk2.lt
  refine wpAnyV_takeG (A := ?A0) 0 rfl (by kernel_rfl) (by kernel_rfl) (by kernel_rfl) (fun _ _ _ _ h => h) ?q0 ?r0
  case q0 =>
    intro Y
    try simp only [List.getElem_toArray, List.getElem_cons_zero, List.getElem_cons_succ]
    go_big_quiet_step (fail)
    refine wpQuiet_nil ?_
    rfl
  refine wpAnyV_takeG (A := ?A2) 2 rfl (by kernel_rfl) (by kernel_rfl) (by kernel_rfl) (fun _ _ _ _ h => h) ?q2 ?r2
  case q2 =>
    intro Y
    try simp only [List.getElem_toArray, List.getElem_cons_zero, List.getElem_cons_succ]
    go_big_quiet_step (fail)
    refine wpQuiet_nil ?_
    rfl
  refine wpAnyV_takeG (A := ?A3) 3 rfl (by kernel_rfl) (by kernel_rfl) (by kernel_rfl) (fun _ _ _ _ h => h) ?q3 ?r3
  case q3 =>
    intro Y
    try simp only [List.getElem_toArray, List.getElem_cons_zero, List.getElem_cons_succ]
    go_big_quiet_step (fail)
    refine wpQuiet_nil ?_
    rfl
  refine wpAnyV_one 1 (by kernel_rfl) ?_
  intro W hW
  obtain ⟨X, rfl⟩ := GW.of hW
  refine wpOp_step rfl (fun K hK => ?_)
  go_simp
  refine hK _ _ ⟨bl_alloc (Below.refl _ _) _, ?_⟩
  clear hK K hW
  try simp only [Act.put, List.getElem_toArray, List.getElem_cons_zero, List.getElem_cons_succ, List.setIfInBounds_toArray, List.set_cons_zero, List.set_cons_succ]
  have hB1 : Below w.heap.size w (X.world.alloc (.cells #[.int .i64 2, .int .i64 3, .int .i64 5, .int .i64 6] 3)) := bl_alloc (bl_trans hB0 X.grow) _
  have x1 : Box (X.world.alloc (.cells #[.int .i64 2, .int .i64 3, .int .i64 5, .int .i64 6] 3)) X.world.heap.size #[.int .i64 2, .int .i64 3, .int .i64 5, .int .i64 6] 3 := Box.new _ _ _ rfl
  generalize X.world.alloc (.cells #[.int .i64 2, .int .i64 3, .int .i64 5, .int .i64 6] 3) = W1 at *
  obtain ⟨b1, hb1⟩ : ∃ b1, X.world.heap.size = b1 := ⟨_, rfl⟩
  rw [hb1] at x1 ⊢
  clear hb1 X
  have c1 := x1.cell
  have l1 := x1.lt
  refine wpAnyV_takeG (A := ?A4) 4 rfl (by kernel_rfl) (by kernel_rfl) (by kernel_rfl) (fun _ _ _ _ h => h) ?q4 ?r4
  case q4 =>
    intro Y
    try simp only [List.getElem_toArray, List.getElem_cons_zero, List.getElem_cons_succ]
    go_big_quiet_step (fail)
    refine wpQuiet_nil ?_
    rfl
  refine wpAnyV_takeG (A := ?A5) 5 rfl (by kernel_rfl) (by kernel_rfl) (by kernel_rfl) (fun _ _ _ _ h => h) ?q5 ?r5
  case q5 =>
    intro Y
    try simp only [List.getElem_toArray, List.getElem_cons_zero, List.getElem_cons_succ]
    go_big_quiet_step (fail)
    refine wpQuiet_nil ?_
    rfl
  refine wpAnyV_takeG (A := ?A6) 6 rfl (by kernel_rfl) (by kernel_rfl) (by kernel_rfl) (fun _ _ _ _ h => h) ?q6 ?r6
  case q6 =>
    intro Y
    try simp only [List.getElem_toArray, List.getElem_cons_zero, List.getElem_cons_succ]
    go_big_quiet_step ((go_at_call 28; with_reducible exact GW.call (cF _ (ht.below (bl_trans (bl_trans hB1 Y.grow) (GW.grow _))))))
    refine wpQuiet_nil ?_
    rfl
  refine wpAnyV_takeG (A := ?A7) 7 rfl (by kernel_rfl) (by kernel_rfl) (by kernel_rfl) (fun _ _ _ _ h => h) ?q7 ?r7
  case q7 =>
    intro Y
    try simp only [List.getElem_toArray, List.getElem_cons_zero, List.getElem_cons_succ]
    go_big_quiet_step (fail)
    refine wpQuiet_nil ?_
    rfl
  refine wpAnyV_done (by kernel_rfl) ?_ _
  intro W hW
  obtain ⟨X, rfl⟩ := GW.of hW
  clear hW
  go_wp2_with (first | (refine wpList_bytes rfl _ 9 44 5 rfl Tryd.underlying9 Tryd.underlying44 Tryd.underlying5 _ rfl hsz ?_; intro v w4 hrd hfr hb4))
  go_ret2
  exact ⟨_, rfl, hrd, bl_trans (bl_trans hB1 X.grow) hb4⟩
set_option maxHeartbeats 4000000 in
theorem bytes_13 (rune : Int) (sh al ct : Bool) (app nl bk : Bool) (w : World) (ht : Tab w) (hv : validK 13 rune = true) : Calls Tryd.prog 18 #[.agg #[.int .i64 13, .int .i32 rune, .bool sh, .bool al, .bool ct], .agg #[.bool app, .bool nl, .bool bk]] w (BytesE 13 rune sh al ct app nl bk w) := by
  have cV := fun W => valid_any 13 rune sh al ct W
  rw [hv] at cV
  unfold BytesE
  have hS : bytesS 13 rune sh al ct app nl bk = numberedS (modN sh al ct) 3 := rfl
  rw [hS]
  have cF := fun W (ht : Tab W) => numbered_any 13 rune sh al ct 3 W ht (by omega)
  have hB := bl_alloc (bl_alloc (Below.refl _ w) (.cells #[.int .i64 13, .int .i32 rune, .bool sh, .bool al, .bool ct] 24)) (.cells #[.bool app, .bool nl, .bool bk] 26)
  have hsz0 := numbered_size (modN sh al ct) 3 (by omega) (mod_range sh al ct)
  generalize numberedS (modN sh al ct) 3 = S at *
  have hsz : S.size ≤ maxLen := by unfold maxLen; omega
  go_enter Tryd.func18, Tryd.ntmps18
  go_wp2_with (first | (go_at_call 8; (with_reducible refine (cV _).mono ?_); rintro e w1 ⟨rfl, hb⟩; (first | obtain ⟨X, rfl⟩ := GW.of2 hb | obtain ⟨X, rfl⟩ := GW.of hb); clear hb))
  obtain ⟨W0, hW0⟩ : ∃ W0, X.world.alloc (.cells #[.int .i64 15, .int .i64 17, .int .i64 18, .int .i64 19, .int .i64 20, .int .i64 21, .int .i64 23, .int .i64 24] 3) = W0 := ⟨_, rfl⟩
  have hB0 : Below w.heap.size w W0 := hW0 ▸ bl_alloc (bl_trans hB X.grow) _
  have xk : Box W0 w.heap.size #[.int .i64 13, .int .i32 rune, .bool sh, .bool al, .bool ct] 24 := hW0 ▸ (Box.gw ((Box.new w _ _ rfl).alloc _)).alloc _
  rw [hW0]
  obtain ⟨b9, hb9⟩ : ∃ b9, X.world.heap.size = b9 := ⟨_, rfl⟩
  rw [hb9]
  clear hW0 hb9 X
  have ck := xk.cell
  have lk := xk.lt
  have hdr : Below w.heap.size w W0.drew := hB0.drew
  refine wp_region_V Gr (by kernel_rfl) ?_
  obtain ⟨W2, hW2, hB2, xk2⟩ : ∃ W2, W0.drew = W2 ∧ Below w.heap.size w W2 ∧ Box W2 _ _ _ := ⟨_, rfl, hdr, Box.drew xk⟩
  rw [hW2]
  clear hW2 hB0 xk ck lk hdr W0
  have hB0 := hB2
  have ck := xk2.cell
  have lk := xk2.lt
  refine wpAnyV_takeG (A := ?A0) 0 rfl (by kernel_rfl) (by kernel_rfl) (by kernel_rfl) (fun _ _ _ _ h => h) ?q0 ?r0
  case q0 =>
    intro Y
    try simp only [List.getElem_toArray, List.getElem_cons_zero, List.getElem_cons_succ]
    go_big_quiet_step (fail)
    refine wpQuiet_nil ?_
    rfl
  refine wpAnyV_takeG (A := ?A2) 2 rfl (by kernel_rfl) (by kernel_rfl) (by kernel_rfl) (fun _ _ _ _ h => h) ?q2 ?r2
  case q2 =>
    intro Y
    try simp only [List.getElem_toArray, List.getElem_cons_zero, List.getElem_cons_succ]
    go_big_quiet_step (fail)
    refine wpQuiet_nil ?_
    rfl
  refine wpAnyV_takeG (A := ?A3) 3 rfl (by kernel_rfl) (by kernel_rfl) (by kernel_rfl) (fun _ _ _ _ h => h) ?q3 ?r3
  case q3 =>
    intro Y
    try simp only [List.getElem_toArray, List.getElem_cons_zero, List.getElem_cons_succ]
    go_big_quiet_step (fail)
    refine wpQuiet_nil ?_
    rfl
  refine wpAnyV_one 1 (by kernel_rfl) ?_
  intro W hW
  obtain ⟨X, rfl⟩ := GW.of hW
  refine wpOp_step rfl (fun K hK => ?_)
  go_simp
  refine hK _ _ ⟨bl_alloc (Below.refl _ _) _, ?_⟩
  clear hK K hW
  try simp only [Act.put, List.getElem_toArray, List.getElem_cons_zero, List.getElem_cons_succ, List.setIfInBounds_toArray, List.set_cons_zero, List.set_cons_succ]
  have hB1 : Below w.heap.size w (X.world.alloc (.cells #[.int .i64 2, .int .i64 3, .int .i64 5, .int .i64 6] 3)) := bl_alloc (bl_trans hB0 X.grow) _
  have x1 : Box (X.world.alloc (.cells #[.int .i64 2, .int .i64 3, .int .i64 5, .int .i64 6] 3)) X.world.heap.size #[.int .i64 2, .int .i64 3, .int .i64 5, .int .i64 6] 3 := Box.new _ _ _ rfl
  generalize X.world.alloc (.cells #[.int .i64 2, .int .i64 3, .int .i64 5, .int .i64 6] 3) = W1 at *
  obtain ⟨b1, hb1⟩ : ∃ b1, X.world.heap.size = b1 := ⟨_, rfl⟩
  rw [hb1] at x1 ⊢
  clear hb1 X
  have c1 := x1.cell
  have l1 := x1.lt
  refine wpAnyV_takeG (A := ?A4) 4 rfl (by kernel_rfl) (by kernel_rfl) (by kernel_rfl) (fun _ _ _ _ h => h) ?q4 ?r4
  case q4 =>
    intro Y
    try simp only [List.getElem_toArray, List.getElem_cons_zero, List.getElem_cons_succ]
    go_big_quiet_step (fail)
    refine wpQuiet_nil ?_
    rfl
  refine wpAnyV_takeG (A := ?A5) 5 rfl (by kernel_rfl) (by kernel_rfl) (by kernel_rfl) (fun _ _ _ _ h => h) ?q5 ?r5
  case q5 =>
    intro Y
    try simp only [List.getElem_toArray, List.getElem_cons_zero, List.getElem_cons_succ]
    go_big_quiet_step (fail)
    refine wpQuiet_nil ?_
    rfl
  refine wpAnyV_takeG (A := ?A6) 6 rfl (by kernel_rfl) (by kernel_rfl) (by kernel_rfl) (fun _ _ _ _ h => h) ?q6 ?r6
  case q6 =>
    intro Y
    try simp only [List.getElem_toArray, List.getElem_cons_zero, List.getElem_cons_succ]
    go_big_quiet_step ((go_at_call 28; with_reducible exact GW.call (cF _ (ht.below (bl_trans (bl_trans hB1 Y.grow) (GW.grow _))))))
    refine wpQuiet_nil ?_
    rfl
  refine wpAnyV_takeG (A := ?A7) 7 rfl (by kernel_rfl) (by kernel_rfl) (by kernel_rfl) (fun _ _ _ _ h => h) ?q7 ?r7
  case q7 =>
    intro Y
    try simp only [List.getElem_toArray, List.getElem_cons_zero, List.getElem_cons_succ]
    go_big_quiet_step (fail)
    refine wpQuiet_nil ?_
    rfl
  refine wpAnyV_done (by kernel_rfl) ?_ _
  intro W hW
  obtain ⟨X, rfl⟩ := GW.of hW
  clear hW
  go_wp2_with (first | (refine wpList_bytes rfl _ 9 44 5 rfl Tryd.underlying9 Tryd.underlying44 Tryd.underlying5 _ rfl hsz ?_; intro v w4 hrd hfr hb4))
  go_ret2
  exact ⟨_, rfl, hrd, bl_trans (bl_trans hB1 X.grow) hb4⟩
set_option maxHeartbeats 4000000 in
theorem bytes_14 (rune : Int) (sh al ct : Bool) (app nl bk : Bool) (w : World) (ht : Tab w) (hv : validK 14 rune = true) : Calls Tryd.prog 18 #[.agg #[.int .i64 14, .int .i32 rune, .bool sh, .bool al, .bool ct], .agg #[.bool app, .bool nl, .bool bk]] w (BytesE 14 rune sh al ct app nl bk w) := by
  have cV := fun W => valid_any 14 rune sh al ct W
  rw [hv] at cV
  unfold BytesE
  have hS : bytesS 14 rune sh al ct app nl bk = numberedS (modN sh al ct) 5 := rfl
  rw [hS]
  have cF := fun W (ht : Tab W) => numbered_any 14 rune sh al ct 5 W ht (by omega)
  have hB := bl_alloc (bl_alloc (Below.refl _ w) (.cells #[.int .i64 14, .int .i32 rune, .bool sh, .bool al, .bool ct] 24)) (.cells #[.bool app, .bool nl, .bool bk] 26)
  have hsz0 := numbered_size (modN sh al ct) 5 (by omega) (mod_range sh al ct)
  generalize numberedS (modN sh al ct) 5 = S at *
  have hsz : S.size ≤ maxLen := by unfold maxLen; omega
  go_enter Tryd.func18, Tryd.ntmps18
  go_wp2_with (first | (go_at_call 8; (with_reducible refine (cV _).mono ?_); rintro e w1 ⟨rfl, hb⟩; (first | obtain ⟨X, rfl⟩ := GW.of2 hb | obtain ⟨X, rfl⟩ := GW.of hb); clear hb))
  obtain ⟨W0, hW0⟩ : ∃ W0, X.world.alloc (.cells #[.int .i64 15, .int .i64 17, .int .i64 18, .int .i64 19, .int .i64 20, .int .i64 21, .int .i64 23, .int .i64 24] 3) = W0 := ⟨_, rfl⟩
  have hB0 : Below w.heap.size w W0 := hW0 ▸ bl_alloc (bl_trans hB X.grow) _
  have xk : Box W0 w.heap.size #[.int .i64 14, .int .i32 rune, .bool sh, .bool al, .bool ct] 24 := hW0 ▸ (Box.gw ((Box.new w _ _ rfl).alloc _)).alloc _
  rw [hW0]
  obtain ⟨b9, hb9⟩ : ∃ b9, X.world.heap.size = b9 := ⟨_, rfl⟩
  rw [hb9]
  clear hW0 hb9 X
  have ck := xk.cell
  have lk := xk.lt
  have hdr : Below w.heap.size w W0.drew := hB0.drew
  refine wp_region_V Gr (by kernel_rfl) ?_
  obtain ⟨W2, hW2, hB2, xk2⟩ : ∃ W2, W0.drew = W2 ∧ Below w.heap.size w W2 ∧ Box W2 _ _ _ := ⟨_, rfl, hdr, Box.drew xk⟩
  rw [hW2]
  clear hW2 hB0 xk ck lk hdr W0
  have hB0 := hB2
  have ck := xk2.cell
  have lk := xk2.lt
  refine wpAnyV_takeG (A := ?A0) 0 rfl (by kernel_rfl) (by kernel_rfl) (by kernel_rfl) (fun _ _ _ _ h => h) ?q0 ?r0
  case q0 =>
    intro Y
    try simp only [List.getElem_toArray, List.getElem_cons_zero, List.getElem_cons_succ]
    go_big_quiet_step (fail)
    refine wpQuiet_nil ?_
    rfl
  refine wpAnyV_takeG (A := ?A2) 2 rfl (by kernel_rfl) (by kernel_rfl) (by kernel_rfl) (fun _ _ _ _ h => h) ?q2 ?r2
  case q2 =>
    intro Y
    try simp only [List.getElem_toArray, List.getElem_cons_zero, List.getElem_cons_succ]
    go_big_quiet_step (fail)
    refine wpQuiet_nil ?_
    rfl
  refine wpAnyV_takeG (A := ?A3) 3 rfl (by kernel_rfl) (by kernel_rfl) (by kernel_rfl) (fun _ _ _ _ h => h) ?q3 ?r3
  case q3 =>
    intro Y
    try simp only [List.getElem_toArray, List.getElem_cons_zero, List.getElem_cons_succ]
    go_big_quiet_step (fail)
    refine wpQuiet_nil ?_
    rfl
  refine wpAnyV_one 1 (by kernel_rfl) ?_
  intro W hW
  obtain ⟨X, rfl⟩ := GW.of hW
  refine wpOp_step rfl (fun K hK => ?_)
  go_simp
  refine hK _ _ ⟨bl_alloc (Below.refl _ _) _, ?_⟩
  clear hK K hW
  try simp only [Act.put, List.getElem_toArray, List.getElem_cons_zero, List.getElem_cons_succ, List.setIfInBounds_toArray, List.set_cons_zero, List.set_cons_succ]
  have hB1 : Below w.heap.size w (X.world.alloc (.cells #[.int .i64 2, .int .i64 3, .int .i64 5, .int .i64 6] 3)) := bl_alloc (bl_trans hB0 X.grow) _
  have x1 : Box (X.world.alloc (.cells #[.int .i64 2, .int .i64 3, .int .i64 5, .int .i64 6] 3)) X.world.heap.size #[.int .i64 2, .int .i64 3, .int .i64 5, .int .i64 6] 3 := Box.new _ _ _ rfl
  generalize X.world.alloc (.cells #[.int .i64 2, .int .i64 3, .int .i64 5, .int .i64 6] 3) = W1 at *
  obtain ⟨b1, hb1⟩ : ∃ b1, X.world.heap.size = b1 := ⟨_, rfl⟩
  rw [hb1] at x1 ⊢
  clear hb1 X
  have c1 := x1.cell
  have l1 := x1.lt
  refine wpAnyV_takeG (A := ?A4) 4 rfl (by kernel_rfl) (by kernel_rfl) (by kernel_rfl) (fun _ _ _ _ h => h) ?q4 ?r4
  case q4 =>
    intro Y
    try simp only [List.getElem_toArray, List.getElem_cons_zero, List.getElem_cons_succ]
    go_big_quiet_step (fail)
    refine wpQuiet_nil ?_
    rfl
  refine wpAnyV_takeG (A := ?A5) 5 rfl (by kernel_rfl) (by kernel_rfl) (by kernel_rfl) (fun _ _ _ _ h => h) ?q5 ?r5
  case q5 =>
    intro Y
    try simp only [List.getElem_toArray, List.getElem_cons_zero, List.getElem_cons_succ]
    go_big_quiet_step (fail)
    refine wpQuiet_nil ?_
    rfl
  refine wpAnyV_takeG (A := ?A6) 6 rfl (by kernel_rfl) (by kernel_rfl) (by kernel_rfl) (fun _ _ _ _ h => h) ?q6 ?r6
  case q6 =>
    intro Y
    try simp only [List.getElem_toArray, List.getElem_cons_zero, List.getElem_cons_succ]
    go_big_quiet_step ((go_at_call 28; with_reducible exact GW.call (cF _ (ht.below (bl_trans (bl_trans hB1 Y.grow) (GW.grow _))))))
    refine wpQuiet_nil ?_
    rfl
  refine wpAnyV_takeG (A := ?A7) 7 rfl (by kernel_rfl) (by kernel_rfl) (by kernel_rfl) (fun _ _ _ _ h => h) ?q7 ?r7
  case q7 =>
    intro Y
    try simp only [List.getElem_toArray, List.getElem_cons_zero, List.getElem_cons_succ]
    go_big_quiet_step (fail)
    refine wpQuiet_nil ?_
    rfl
  refine wpAnyV_done (by kernel_rfl) ?_ _
  intro W hW
  obtain ⟨X, rfl⟩ := GW.of hW
  clear hW
  go_wp2_with (first | (refine wpList_bytes rfl _ 9 44 5 rfl Tryd.underlying9 Tryd.underlying44 Tryd.underlying5 _ rfl hsz ?_; intro v w4 hrd hfr hb4))
  go_ret2
  exact ⟨_, rfl, hrd, bl_trans (bl_trans hB1 X.grow) hb4⟩
set_option maxHeartbeats 4000000 in
theorem bytes_15 (rune : Int) (sh al ct : Bool) (app nl bk : Bool) (w : World) (ht : Tab w) (hv : validK 15 rune = true) : Calls Tryd.prog 18 #[.agg #[.int .i64 15, .int .i32 rune, .bool sh, .bool al, .bool ct], .agg #[.bool app, .bool nl, .bool bk]] w (BytesE 15 rune sh al ct app nl bk w) := by
  have cV := fun W => valid_any 15 rune sh al ct W
  rw [hv] at cV
  unfold BytesE
  have hS : bytesS 15 rune sh al ct app nl bk = numberedS (modN sh al ct) 6 := rfl
  rw [hS]
  have cF := fun W (ht : Tab W) => numbered_any 15 rune sh al ct 6 W ht (by omega)
  have hB := bl_alloc (bl_alloc (Below.refl _ w) (.cells #[.int .i64 15, .int .i32 rune, .bool sh, .bool al, .bool ct] 24)) (.cells #[.bool app, .bool nl, .bool bk] 26)
  have hsz0 := numbered_size (modN sh al ct) 6 (by omega) (mod_range sh al ct)
  generalize numberedS (modN sh al ct) 6 = S at *
  have hsz : S.size ≤ maxLen := by unfold maxLen; omega
  go_enter Tryd.func18, Tryd.ntmps18
  go_wp2_with (first | (go_at_call 8; (with_reducible refine (cV _).mono ?_); rintro e w1 ⟨rfl, hb⟩; (first | obtain ⟨X, rfl⟩ := GW.of2 hb | obtain ⟨X, rfl⟩ := GW.of hb); clear hb))
  obtain ⟨W0, hW0⟩ : ∃ W0, X.world.alloc (.cells #[.int .i64 15, .int .i64 17, .int .i64 18, .int .i64 19, .int .i64 20, .int .i64 21, .int .i64 23, .int .i64 24] 3) = W0 := ⟨_, rfl⟩
  have hB0 : Below w.heap.size w W0 := hW0 ▸ bl_alloc (bl_trans hB X.grow) _
  have xk : Box W0 w.heap.size #[.int .i64 15, .int .i32 rune, .bool sh, .bool al, .bool ct] 24 := hW0 ▸ (Box.gw ((Box.new w _ _ rfl).alloc _)).alloc _
  rw [hW0]
  obtain ⟨b9, hb9⟩ : ∃ b9, X.world.heap.size = b9 := ⟨_, rfl⟩
  rw [hb9]
  clear hW0 hb9 X
  have ck := xk.cell
  have lk := xk.lt
  have hdr : Below w.heap.size w W0.drew := hB0.drew
  refine wp_region_V Gr (by kernel_rfl) ?_
  obtain ⟨W2, hW2, hB2, xk2⟩ : ∃ W2, W0.drew = W2 ∧ Below w.heap.size w W2 ∧ Box W2 _ _ _ := ⟨_, rfl, hdr, Box.drew xk⟩
  rw [hW2]
  clear hW2 hB0 xk ck lk hdr W0
  have hB0 := hB2
  have ck := xk2.cell
  have lk := xk2.lt
  refine wpAnyV_takeG (A := ?A0) 0 rfl (by kernel_rfl) (by kernel_rfl) (by kernel_rfl) (fun _ _ _ _ h => h) ?q0 ?r0
  case q0 =>
    intro Y
    try simp only [List.getElem_toArray, List.getElem_cons_zero, List.getElem_cons_succ]
    go_big_quiet_step (fail)
    refine wpQuiet_nil ?_
    rfl
  refine wpAnyV_takeG (A := ?A2) 2 rfl (by kernel_rfl) (by kernel_rfl) (by kernel_rfl) (fun _ _ _ _ h => h) ?q2 ?r2
  case q2 =>
    intro Y
    try simp only [List.getElem_toArray, List.getElem_cons_zero, List.getElem_cons_succ]
    go_big_quiet_step (fail)
    refine wpQuiet_nil ?_
    rfl
  refine wpAnyV_takeG (A := ?A3) 3 rfl (by kernel_rfl) (by kernel_rfl) (by kernel_rfl) (fun _ _ _ _ h => h) ?q3 ?r3
  case q3 =>
    intro Y
    try simp only [List.getElem_toArray, List.getElem_cons_zero, List.getElem_cons_succ]
    go_big_quiet_step (fail)
    refine wpQuiet_nil ?_
    rfl
  refine wpAnyV_one 1 (by kernel_rfl) ?_
  intro W hW
  obtain ⟨X, rfl⟩ := GW.of hW
  refine wpOp_step rfl (fun K hK => ?_)
  go_simp
  refine hK _ _ ⟨bl_alloc (Below.refl _ _) _, ?_⟩
  clear hK K hW
  try simp only [Act.put, List.getElem_toArray, List.getElem_cons_zero, List.getElem_cons_succ, List.setIfInBounds_toArray, List.set_cons_zero, List.set_cons_succ]
  have hB1 : Below w.heap.size w (X.world.alloc (.cells #[.int .i64 2, .int .i64 3, .int .i64 5, .int .i64 6] 3)) := bl_alloc (bl_trans hB0 X.grow) _
  have x1 : Box (X.world.alloc (.cells #[.int .i64 2, .int .i64 3, .int .i64 5, .int .i64 6] 3)) X.world.heap.size #[.int .i64 2, .int .i64 3, .int .i64 5, .int .i64 6] 3 := Box.new _ _ _ rfl
  generalize X.world.alloc (.cells #[.int .i64 2, .int .i64 3, .int .i64 5, .int .i64 6] 3) = W1 at *
  obtain ⟨b1, hb1⟩ : ∃ b1, X.world.heap.size = b1 := ⟨_, rfl⟩
  rw [hb1] at x1 ⊢
  clear hb1 X
  have c1 := x1.cell
  have l1 := x1.lt
  refine wpAnyV_takeG (A := ?A4) 4 rfl (by kernel_rfl) (by kernel_rfl) (by kernel_rfl) (fun _ _ _ _ h => h) ?q4 ?r4
  case q4 =>
    intro Y
    try simp only [List.getElem_toArray, List.getElem_cons_zero, List.getElem_cons_succ]
    go_big_quiet_step (fail)
    refine wpQuiet_nil ?_
    rfl
  refine wpAnyV_takeG (A := ?A5) 5 rfl (by kernel_rfl) (by kernel_rfl) (by kernel_rfl) (fun _ _ _ _ h => h) ?q5 ?r5
  case q5 =>
    intro Y
    try simp only [List.getElem_toArray, List.getElem_cons_zero, List.getElem_cons_succ]
    go_big_quiet_step (fail)
    refine wpQuiet_nil ?_
    rfl
  refine wpAnyV_takeG (A := ?A6) 6 rfl (by kernel_rfl) (by kernel_rfl) (by kernel_rfl) (fun _ _ _ _ h => h) ?q6 ?r6
  case q6 =>
    intro Y
    try simp only [List.getElem_toArray, List.getElem_cons_zero, List.getElem_cons_succ]
    go_big_quiet_step ((go_at_call 28; with_reducible exact GW.call (cF _ (ht.below (bl_trans (bl_trans hB1 Y.grow) (GW.grow _))))))
    refine wpQuiet_nil ?_
    rfl
  refine wpAnyV_takeG (A := ?A7) 7 rfl (by kernel_rfl) (by kernel_rfl) (by kernel_rfl) (fun _ _ _ _ h => h) ?q7 ?r7
  case q7 =>
    intro Y
    try simp only [List.getElem_toArray, List.getElem_cons_zero, List.getElem_cons_succ]
    go_big_quiet_step (fail)
    refine wpQuiet_nil ?_
    rfl
  refine wpAnyV_done (by kernel_rfl) ?_ _
  intro W hW
  obtain ⟨X, rfl⟩ := GW.of hW
  clear hW
  go_wp2_with (first | (refine wpList_bytes rfl _ 9 44 5 rfl Tryd.underlying9 Tryd.underlying44 Tryd.underlying5 _ rfl hsz ?_; intro v w4 hrd hfr hb4))
  go_ret2
  exact ⟨_, rfl, hrd, bl_trans (bl_trans hB1 X.grow) hb4⟩

end Go.Proofs.YtofjdjjbgnfngaaDoor
