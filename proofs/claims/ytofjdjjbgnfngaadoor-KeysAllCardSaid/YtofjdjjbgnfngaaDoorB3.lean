/- keys: the bytes of keys with a letter or a number. -/
import Derived.Test.YtofjdjjbgnfngaaDoorB
import Derived.Test.YtofjdjjbgnfngaaDoorLate3
import Derived.Outline
set_option linter.unusedSimpArgs false
set_option linter.unusedVariables false
set_option linter.unnecessarySimpa false
namespace Go.Proofs.YtofjdjjbgnfngaaDoor
open Go.RowKit

set_option maxHeartbeats 4000000 in
theorem bytes_16 (rune : Int) (sh al ct : Bool) (app nl bk : Bool) (w : World) (ht : Tab w) (hv : validK 16 rune = true) : Calls Tryd.prog 18 #[.agg #[.int .i64 16, .int .i32 rune, .bool sh, .bool al, .bool ct], .agg #[.bool app, .bool nl, .bool bk]] w (BytesE 16 rune sh al ct app nl bk w) := by
  have cV := fun W => valid_any 16 rune sh al ct W
  rw [hv] at cV
  unfold BytesE
  have hS : bytesS 16 rune sh al ct app nl bk = letterS (modN sh al ct) ⟨#[80]⟩ true := rfl
  rw [hS]
  have cF := fun W (ht : Tab W) => letter_any 16 rune sh al ct ⟨#[80]⟩ true W ht (by decide)
  have hB := bl_alloc (bl_alloc (Below.refl _ w) (.cells #[.int .i64 16, .int .i32 rune, .bool sh, .bool al, .bool ct] 24)) (.cells #[.bool app, .bool nl, .bool bk] 26)
  have hsz0 := letter_size (modN sh al ct) ⟨#[80]⟩ true (by decide) (mod_range sh al ct)
  generalize letterS (modN sh al ct) ⟨#[80]⟩ true = S at *
  have hsz : S.size ≤ maxLen := by unfold maxLen; omega
  go_enter Tryd.func18, Tryd.ntmps18
  go_wp2_with (first | (go_at_call 8; (with_reducible refine (cV _).mono ?_); rintro e w1 ⟨rfl, hb⟩; (first | obtain ⟨X, rfl⟩ := GW.of2 hb | obtain ⟨X, rfl⟩ := GW.of hb); clear hb))
  have hB0 : Below w.heap.size w (X.world.alloc (.cells #[.int .i64 15, .int .i64 17, .int .i64 18, .int .i64 19, .int .i64 20, .int .i64 21, .int .i64 23, .int .i64 24] 3)) := bl_alloc (bl_trans hB X.grow) _
  have xk : Box (X.world.alloc (.cells #[.int .i64 15, .int .i64 17, .int .i64 18, .int .i64 19, .int .i64 20, .int .i64 21, .int .i64 23, .int .i64 24] 3)) w.heap.size #[.int .i64 16, .int .i32 rune, .bool sh, .bool al, .bool ct] 24 := (Box.gw ((Box.new w _ _ rfl).alloc _)).alloc _
  have xi : Box (X.world.alloc (.cells #[.int .i64 15, .int .i64 17, .int .i64 18, .int .i64 19, .int .i64 20, .int .i64 21, .int .i64 23, .int .i64 24] 3)) (w.heap.size + 1) #[.bool app, .bool nl, .bool bk] 26 := (Box.gw (Box.new _ _ _ (by simp))).alloc _
  have xn : Box (X.world.alloc (.cells #[.int .i64 15, .int .i64 17, .int .i64 18, .int .i64 19, .int .i64 20, .int .i64 21, .int .i64 23, .int .i64 24] 3)) X.world.heap.size #[.int .i64 15, .int .i64 17, .int .i64 18, .int .i64 19, .int .i64 20, .int .i64 21, .int .i64 23, .int .i64 24] 3 := Box.new _ _ _ rfl
  generalize X.world.alloc (.cells #[.int .i64 15, .int .i64 17, .int .i64 18, .int .i64 19, .int .i64 20, .int .i64 21, .int .i64 23, .int .i64 24] 3) = W0 at *
  obtain ⟨b0, hb0⟩ : ∃ b0, X.world.heap.size = b0 := ⟨_, rfl⟩
  rw [hb0] at xn ⊢
  clear hb0 X
  have ck := xk.cell
  have lk := xk.lt
  have ci := xi.cell
  have li := xi.lt
  have cn := xn.cell
  have ln := xn.lt
  have hx : (⟨#[80, 81, 82, 83]⟩ : ByteArray).extract 0 1 = ⟨#[80]⟩ := by decide +kernel
  first | refine wp_grow2 (by kernel_rfl) (by kernel_rfl) ?_ | refine wp_grow (by kernel_rfl) (by kernel_rfl) ?_
  repeat (go_big_quiet_step ((go_at_call 27; with_reducible exact GW.call (cF _ (ht.below (bl_trans hB0 (GW.grow _)))))))
  refine wpQuiet_nil ?_
  rintro _ ⟨X, rfl⟩
  go_wp2_with (first | (refine wpList_bytes rfl _ 9 44 5 rfl Tryd.underlying9 Tryd.underlying44 Tryd.underlying5 _ rfl hsz ?_; intro v w4 hrd hfr hb4))
  go_ret2
  exact ⟨_, rfl, hrd, bl_trans (bl_trans hB0 X.grow) hb4⟩
set_option maxHeartbeats 4000000 in
theorem bytes_17 (rune : Int) (sh al ct : Bool) (app nl bk : Bool) (w : World) (ht : Tab w) (hv : validK 17 rune = true) : Calls Tryd.prog 18 #[.agg #[.int .i64 17, .int .i32 rune, .bool sh, .bool al, .bool ct], .agg #[.bool app, .bool nl, .bool bk]] w (BytesE 17 rune sh al ct app nl bk w) := by
  have cV := fun W => valid_any 17 rune sh al ct W
  rw [hv] at cV
  unfold BytesE
  have hS : bytesS 17 rune sh al ct app nl bk = letterS (modN sh al ct) ⟨#[81]⟩ true := rfl
  rw [hS]
  have cF := fun W (ht : Tab W) => letter_any 17 rune sh al ct ⟨#[81]⟩ true W ht (by decide)
  have hB := bl_alloc (bl_alloc (Below.refl _ w) (.cells #[.int .i64 17, .int .i32 rune, .bool sh, .bool al, .bool ct] 24)) (.cells #[.bool app, .bool nl, .bool bk] 26)
  have hsz0 := letter_size (modN sh al ct) ⟨#[81]⟩ true (by decide) (mod_range sh al ct)
  generalize letterS (modN sh al ct) ⟨#[81]⟩ true = S at *
  have hsz : S.size ≤ maxLen := by unfold maxLen; omega
  go_enter Tryd.func18, Tryd.ntmps18
  go_wp2_with (first | (go_at_call 8; (with_reducible refine (cV _).mono ?_); rintro e w1 ⟨rfl, hb⟩; (first | obtain ⟨X, rfl⟩ := GW.of2 hb | obtain ⟨X, rfl⟩ := GW.of hb); clear hb))
  have hB0 : Below w.heap.size w (X.world.alloc (.cells #[.int .i64 15, .int .i64 17, .int .i64 18, .int .i64 19, .int .i64 20, .int .i64 21, .int .i64 23, .int .i64 24] 3)) := bl_alloc (bl_trans hB X.grow) _
  have xk : Box (X.world.alloc (.cells #[.int .i64 15, .int .i64 17, .int .i64 18, .int .i64 19, .int .i64 20, .int .i64 21, .int .i64 23, .int .i64 24] 3)) w.heap.size #[.int .i64 17, .int .i32 rune, .bool sh, .bool al, .bool ct] 24 := (Box.gw ((Box.new w _ _ rfl).alloc _)).alloc _
  have xi : Box (X.world.alloc (.cells #[.int .i64 15, .int .i64 17, .int .i64 18, .int .i64 19, .int .i64 20, .int .i64 21, .int .i64 23, .int .i64 24] 3)) (w.heap.size + 1) #[.bool app, .bool nl, .bool bk] 26 := (Box.gw (Box.new _ _ _ (by simp))).alloc _
  have xn : Box (X.world.alloc (.cells #[.int .i64 15, .int .i64 17, .int .i64 18, .int .i64 19, .int .i64 20, .int .i64 21, .int .i64 23, .int .i64 24] 3)) X.world.heap.size #[.int .i64 15, .int .i64 17, .int .i64 18, .int .i64 19, .int .i64 20, .int .i64 21, .int .i64 23, .int .i64 24] 3 := Box.new _ _ _ rfl
  generalize X.world.alloc (.cells #[.int .i64 15, .int .i64 17, .int .i64 18, .int .i64 19, .int .i64 20, .int .i64 21, .int .i64 23, .int .i64 24] 3) = W0 at *
  obtain ⟨b0, hb0⟩ : ∃ b0, X.world.heap.size = b0 := ⟨_, rfl⟩
  rw [hb0] at xn ⊢
  clear hb0 X
  have ck := xk.cell
  have lk := xk.lt
  have ci := xi.cell
  have li := xi.lt
  have cn := xn.cell
  have ln := xn.lt
  have hx : (⟨#[80, 81, 82, 83]⟩ : ByteArray).extract 1 2 = ⟨#[81]⟩ := by decide +kernel
  first | refine wp_grow2 (by kernel_rfl) (by kernel_rfl) ?_ | refine wp_grow (by kernel_rfl) (by kernel_rfl) ?_
  repeat (go_big_quiet_step ((go_at_call 27; with_reducible exact GW.call (cF _ (ht.below (bl_trans hB0 (GW.grow _)))))))
  refine wpQuiet_nil ?_
  rintro _ ⟨X, rfl⟩
  go_wp2_with (first | (refine wpList_bytes rfl _ 9 44 5 rfl Tryd.underlying9 Tryd.underlying44 Tryd.underlying5 _ rfl hsz ?_; intro v w4 hrd hfr hb4))
  go_ret2
  exact ⟨_, rfl, hrd, bl_trans (bl_trans hB0 X.grow) hb4⟩
set_option maxHeartbeats 4000000 in
theorem bytes_18 (rune : Int) (sh al ct : Bool) (app nl bk : Bool) (w : World) (ht : Tab w) (hv : validK 18 rune = true) : Calls Tryd.prog 18 #[.agg #[.int .i64 18, .int .i32 rune, .bool sh, .bool al, .bool ct], .agg #[.bool app, .bool nl, .bool bk]] w (BytesE 18 rune sh al ct app nl bk w) := by
  have cV := fun W => valid_any 18 rune sh al ct W
  rw [hv] at cV
  unfold BytesE
  have hS : bytesS 18 rune sh al ct app nl bk = letterS (modN sh al ct) ⟨#[82]⟩ true := rfl
  rw [hS]
  have cF := fun W (ht : Tab W) => letter_any 18 rune sh al ct ⟨#[82]⟩ true W ht (by decide)
  have hB := bl_alloc (bl_alloc (Below.refl _ w) (.cells #[.int .i64 18, .int .i32 rune, .bool sh, .bool al, .bool ct] 24)) (.cells #[.bool app, .bool nl, .bool bk] 26)
  have hsz0 := letter_size (modN sh al ct) ⟨#[82]⟩ true (by decide) (mod_range sh al ct)
  generalize letterS (modN sh al ct) ⟨#[82]⟩ true = S at *
  have hsz : S.size ≤ maxLen := by unfold maxLen; omega
  go_enter Tryd.func18, Tryd.ntmps18
  go_wp2_with (first | (go_at_call 8; (with_reducible refine (cV _).mono ?_); rintro e w1 ⟨rfl, hb⟩; (first | obtain ⟨X, rfl⟩ := GW.of2 hb | obtain ⟨X, rfl⟩ := GW.of hb); clear hb))
  have hB0 : Below w.heap.size w (X.world.alloc (.cells #[.int .i64 15, .int .i64 17, .int .i64 18, .int .i64 19, .int .i64 20, .int .i64 21, .int .i64 23, .int .i64 24] 3)) := bl_alloc (bl_trans hB X.grow) _
  have xk : Box (X.world.alloc (.cells #[.int .i64 15, .int .i64 17, .int .i64 18, .int .i64 19, .int .i64 20, .int .i64 21, .int .i64 23, .int .i64 24] 3)) w.heap.size #[.int .i64 18, .int .i32 rune, .bool sh, .bool al, .bool ct] 24 := (Box.gw ((Box.new w _ _ rfl).alloc _)).alloc _
  have xi : Box (X.world.alloc (.cells #[.int .i64 15, .int .i64 17, .int .i64 18, .int .i64 19, .int .i64 20, .int .i64 21, .int .i64 23, .int .i64 24] 3)) (w.heap.size + 1) #[.bool app, .bool nl, .bool bk] 26 := (Box.gw (Box.new _ _ _ (by simp))).alloc _
  have xn : Box (X.world.alloc (.cells #[.int .i64 15, .int .i64 17, .int .i64 18, .int .i64 19, .int .i64 20, .int .i64 21, .int .i64 23, .int .i64 24] 3)) X.world.heap.size #[.int .i64 15, .int .i64 17, .int .i64 18, .int .i64 19, .int .i64 20, .int .i64 21, .int .i64 23, .int .i64 24] 3 := Box.new _ _ _ rfl
  generalize X.world.alloc (.cells #[.int .i64 15, .int .i64 17, .int .i64 18, .int .i64 19, .int .i64 20, .int .i64 21, .int .i64 23, .int .i64 24] 3) = W0 at *
  obtain ⟨b0, hb0⟩ : ∃ b0, X.world.heap.size = b0 := ⟨_, rfl⟩
  rw [hb0] at xn ⊢
  clear hb0 X
  have ck := xk.cell
  have lk := xk.lt
  have ci := xi.cell
  have li := xi.lt
  have cn := xn.cell
  have ln := xn.lt
  have hx : (⟨#[80, 81, 82, 83]⟩ : ByteArray).extract 2 3 = ⟨#[82]⟩ := by decide +kernel
  first | refine wp_grow2 (by kernel_rfl) (by kernel_rfl) ?_ | refine wp_grow (by kernel_rfl) (by kernel_rfl) ?_
  repeat (go_big_quiet_step ((go_at_call 27; with_reducible exact GW.call (cF _ (ht.below (bl_trans hB0 (GW.grow _)))))))
  refine wpQuiet_nil ?_
  rintro _ ⟨X, rfl⟩
  go_wp2_with (first | (refine wpList_bytes rfl _ 9 44 5 rfl Tryd.underlying9 Tryd.underlying44 Tryd.underlying5 _ rfl hsz ?_; intro v w4 hrd hfr hb4))
  go_ret2
  exact ⟨_, rfl, hrd, bl_trans (bl_trans hB0 X.grow) hb4⟩
set_option maxHeartbeats 4000000 in
theorem bytes_19 (rune : Int) (sh al ct : Bool) (app nl bk : Bool) (w : World) (ht : Tab w) (hv : validK 19 rune = true) : Calls Tryd.prog 18 #[.agg #[.int .i64 19, .int .i32 rune, .bool sh, .bool al, .bool ct], .agg #[.bool app, .bool nl, .bool bk]] w (BytesE 19 rune sh al ct app nl bk w) := by
  have cV := fun W => valid_any 19 rune sh al ct W
  rw [hv] at cV
  unfold BytesE
  have hS : bytesS 19 rune sh al ct app nl bk = letterS (modN sh al ct) ⟨#[83]⟩ true := rfl
  rw [hS]
  have cF := fun W (ht : Tab W) => letter_any 19 rune sh al ct ⟨#[83]⟩ true W ht (by decide)
  have hB := bl_alloc (bl_alloc (Below.refl _ w) (.cells #[.int .i64 19, .int .i32 rune, .bool sh, .bool al, .bool ct] 24)) (.cells #[.bool app, .bool nl, .bool bk] 26)
  have hsz0 := letter_size (modN sh al ct) ⟨#[83]⟩ true (by decide) (mod_range sh al ct)
  generalize letterS (modN sh al ct) ⟨#[83]⟩ true = S at *
  have hsz : S.size ≤ maxLen := by unfold maxLen; omega
  go_enter Tryd.func18, Tryd.ntmps18
  go_wp2_with (first | (go_at_call 8; (with_reducible refine (cV _).mono ?_); rintro e w1 ⟨rfl, hb⟩; (first | obtain ⟨X, rfl⟩ := GW.of2 hb | obtain ⟨X, rfl⟩ := GW.of hb); clear hb))
  have hB0 : Below w.heap.size w (X.world.alloc (.cells #[.int .i64 15, .int .i64 17, .int .i64 18, .int .i64 19, .int .i64 20, .int .i64 21, .int .i64 23, .int .i64 24] 3)) := bl_alloc (bl_trans hB X.grow) _
  have xk : Box (X.world.alloc (.cells #[.int .i64 15, .int .i64 17, .int .i64 18, .int .i64 19, .int .i64 20, .int .i64 21, .int .i64 23, .int .i64 24] 3)) w.heap.size #[.int .i64 19, .int .i32 rune, .bool sh, .bool al, .bool ct] 24 := (Box.gw ((Box.new w _ _ rfl).alloc _)).alloc _
  have xi : Box (X.world.alloc (.cells #[.int .i64 15, .int .i64 17, .int .i64 18, .int .i64 19, .int .i64 20, .int .i64 21, .int .i64 23, .int .i64 24] 3)) (w.heap.size + 1) #[.bool app, .bool nl, .bool bk] 26 := (Box.gw (Box.new _ _ _ (by simp))).alloc _
  have xn : Box (X.world.alloc (.cells #[.int .i64 15, .int .i64 17, .int .i64 18, .int .i64 19, .int .i64 20, .int .i64 21, .int .i64 23, .int .i64 24] 3)) X.world.heap.size #[.int .i64 15, .int .i64 17, .int .i64 18, .int .i64 19, .int .i64 20, .int .i64 21, .int .i64 23, .int .i64 24] 3 := Box.new _ _ _ rfl
  generalize X.world.alloc (.cells #[.int .i64 15, .int .i64 17, .int .i64 18, .int .i64 19, .int .i64 20, .int .i64 21, .int .i64 23, .int .i64 24] 3) = W0 at *
  obtain ⟨b0, hb0⟩ : ∃ b0, X.world.heap.size = b0 := ⟨_, rfl⟩
  rw [hb0] at xn ⊢
  clear hb0 X
  have ck := xk.cell
  have lk := xk.lt
  have ci := xi.cell
  have li := xi.lt
  have cn := xn.cell
  have ln := xn.lt
  have hx : (⟨#[80, 81, 82, 83]⟩ : ByteArray).extract 3 4 = ⟨#[83]⟩ := by decide +kernel
  first | refine wp_grow2 (by kernel_rfl) (by kernel_rfl) ?_ | refine wp_grow (by kernel_rfl) (by kernel_rfl) ?_
  repeat (go_big_quiet_step ((go_at_call 27; with_reducible exact GW.call (cF _ (ht.below (bl_trans hB0 (GW.grow _)))))))
  refine wpQuiet_nil ?_
  rintro _ ⟨X, rfl⟩
  go_wp2_with (first | (refine wpList_bytes rfl _ 9 44 5 rfl Tryd.underlying9 Tryd.underlying44 Tryd.underlying5 _ rfl hsz ?_; intro v w4 hrd hfr hb4))
  go_ret2
  exact ⟨_, rfl, hrd, bl_trans (bl_trans hB0 X.grow) hb4⟩
set_option maxHeartbeats 4000000 in
theorem bytes_20 (rune : Int) (sh al ct : Bool) (app nl bk : Bool) (w : World) (ht : Tab w) (hv : validK 20 rune = true) : Calls Tryd.prog 18 #[.agg #[.int .i64 20, .int .i32 rune, .bool sh, .bool al, .bool ct], .agg #[.bool app, .bool nl, .bool bk]] w (BytesE 20 rune sh al ct app nl bk w) := by
  have cV := fun W => valid_any 20 rune sh al ct W
  rw [hv] at cV
  unfold BytesE
  have hS : bytesS 20 rune sh al ct app nl bk = numberedS (modN sh al ct) 15 := rfl
  rw [hS]
  have cF := fun W (ht : Tab W) => numbered_any 20 rune sh al ct 15 W ht (by omega)
  have hB := bl_alloc (bl_alloc (Below.refl _ w) (.cells #[.int .i64 20, .int .i32 rune, .bool sh, .bool al, .bool ct] 24)) (.cells #[.bool app, .bool nl, .bool bk] 26)
  have hsz0 := numbered_size (modN sh al ct) 15 (by omega) (mod_range sh al ct)
  generalize numberedS (modN sh al ct) 15 = S at *
  have hsz : S.size ≤ maxLen := by unfold maxLen; omega
  go_enter Tryd.func18, Tryd.ntmps18
  go_wp2_with (first | (go_at_call 8; (with_reducible refine (cV _).mono ?_); rintro e w1 ⟨rfl, hb⟩; (first | obtain ⟨X, rfl⟩ := GW.of2 hb | obtain ⟨X, rfl⟩ := GW.of hb); clear hb))
  have hB0 : Below w.heap.size w (X.world.alloc (.cells #[.int .i64 15, .int .i64 17, .int .i64 18, .int .i64 19, .int .i64 20, .int .i64 21, .int .i64 23, .int .i64 24] 3)) := bl_alloc (bl_trans hB X.grow) _
  have xk : Box (X.world.alloc (.cells #[.int .i64 15, .int .i64 17, .int .i64 18, .int .i64 19, .int .i64 20, .int .i64 21, .int .i64 23, .int .i64 24] 3)) w.heap.size #[.int .i64 20, .int .i32 rune, .bool sh, .bool al, .bool ct] 24 := (Box.gw ((Box.new w _ _ rfl).alloc _)).alloc _
  have xi : Box (X.world.alloc (.cells #[.int .i64 15, .int .i64 17, .int .i64 18, .int .i64 19, .int .i64 20, .int .i64 21, .int .i64 23, .int .i64 24] 3)) (w.heap.size + 1) #[.bool app, .bool nl, .bool bk] 26 := (Box.gw (Box.new _ _ _ (by simp))).alloc _
  have xn : Box (X.world.alloc (.cells #[.int .i64 15, .int .i64 17, .int .i64 18, .int .i64 19, .int .i64 20, .int .i64 21, .int .i64 23, .int .i64 24] 3)) X.world.heap.size #[.int .i64 15, .int .i64 17, .int .i64 18, .int .i64 19, .int .i64 20, .int .i64 21, .int .i64 23, .int .i64 24] 3 := Box.new _ _ _ rfl
  generalize X.world.alloc (.cells #[.int .i64 15, .int .i64 17, .int .i64 18, .int .i64 19, .int .i64 20, .int .i64 21, .int .i64 23, .int .i64 24] 3) = W0 at *
  obtain ⟨b0, hb0⟩ : ∃ b0, X.world.heap.size = b0 := ⟨_, rfl⟩
  rw [hb0] at xn ⊢
  clear hb0 X
  have ck := xk.cell
  have lk := xk.lt
  have ci := xi.cell
  have li := xi.lt
  have cn := xn.cell
  have ln := xn.lt
  first | refine wp_grow2 (by kernel_rfl) (by kernel_rfl) ?_ | refine wp_grow (by kernel_rfl) (by kernel_rfl) ?_
  repeat (go_big_quiet_step ((go_at_call 28; with_reducible exact GW.call (cF _ (ht.below (bl_trans hB0 (GW.grow _)))))))
  refine wpQuiet_nil ?_
  rintro _ ⟨X, rfl⟩
  go_wp2_with (first | (refine wpList_bytes rfl _ 9 44 5 rfl Tryd.underlying9 Tryd.underlying44 Tryd.underlying5 _ rfl hsz ?_; intro v w4 hrd hfr hb4))
  go_ret2
  exact ⟨_, rfl, hrd, bl_trans (bl_trans hB0 X.grow) hb4⟩
set_option maxHeartbeats 4000000 in
theorem bytes_21 (rune : Int) (sh al ct : Bool) (app nl bk : Bool) (w : World) (ht : Tab w) (hv : validK 21 rune = true) : Calls Tryd.prog 18 #[.agg #[.int .i64 21, .int .i32 rune, .bool sh, .bool al, .bool ct], .agg #[.bool app, .bool nl, .bool bk]] w (BytesE 21 rune sh al ct app nl bk w) := by
  have cV := fun W => valid_any 21 rune sh al ct W
  rw [hv] at cV
  unfold BytesE
  have hS : bytesS 21 rune sh al ct app nl bk = numberedS (modN sh al ct) 17 := rfl
  rw [hS]
  have cF := fun W (ht : Tab W) => numbered_any 21 rune sh al ct 17 W ht (by omega)
  have hB := bl_alloc (bl_alloc (Below.refl _ w) (.cells #[.int .i64 21, .int .i32 rune, .bool sh, .bool al, .bool ct] 24)) (.cells #[.bool app, .bool nl, .bool bk] 26)
  have hsz0 := numbered_size (modN sh al ct) 17 (by omega) (mod_range sh al ct)
  generalize numberedS (modN sh al ct) 17 = S at *
  have hsz : S.size ≤ maxLen := by unfold maxLen; omega
  go_enter Tryd.func18, Tryd.ntmps18
  go_wp2_with (first | (go_at_call 8; (with_reducible refine (cV _).mono ?_); rintro e w1 ⟨rfl, hb⟩; (first | obtain ⟨X, rfl⟩ := GW.of2 hb | obtain ⟨X, rfl⟩ := GW.of hb); clear hb))
  have hB0 : Below w.heap.size w (X.world.alloc (.cells #[.int .i64 15, .int .i64 17, .int .i64 18, .int .i64 19, .int .i64 20, .int .i64 21, .int .i64 23, .int .i64 24] 3)) := bl_alloc (bl_trans hB X.grow) _
  have xk : Box (X.world.alloc (.cells #[.int .i64 15, .int .i64 17, .int .i64 18, .int .i64 19, .int .i64 20, .int .i64 21, .int .i64 23, .int .i64 24] 3)) w.heap.size #[.int .i64 21, .int .i32 rune, .bool sh, .bool al, .bool ct] 24 := (Box.gw ((Box.new w _ _ rfl).alloc _)).alloc _
  have xi : Box (X.world.alloc (.cells #[.int .i64 15, .int .i64 17, .int .i64 18, .int .i64 19, .int .i64 20, .int .i64 21, .int .i64 23, .int .i64 24] 3)) (w.heap.size + 1) #[.bool app, .bool nl, .bool bk] 26 := (Box.gw (Box.new _ _ _ (by simp))).alloc _
  have xn : Box (X.world.alloc (.cells #[.int .i64 15, .int .i64 17, .int .i64 18, .int .i64 19, .int .i64 20, .int .i64 21, .int .i64 23, .int .i64 24] 3)) X.world.heap.size #[.int .i64 15, .int .i64 17, .int .i64 18, .int .i64 19, .int .i64 20, .int .i64 21, .int .i64 23, .int .i64 24] 3 := Box.new _ _ _ rfl
  generalize X.world.alloc (.cells #[.int .i64 15, .int .i64 17, .int .i64 18, .int .i64 19, .int .i64 20, .int .i64 21, .int .i64 23, .int .i64 24] 3) = W0 at *
  obtain ⟨b0, hb0⟩ : ∃ b0, X.world.heap.size = b0 := ⟨_, rfl⟩
  rw [hb0] at xn ⊢
  clear hb0 X
  have ck := xk.cell
  have lk := xk.lt
  have ci := xi.cell
  have li := xi.lt
  have cn := xn.cell
  have ln := xn.lt
  first | refine wp_grow2 (by kernel_rfl) (by kernel_rfl) ?_ | refine wp_grow (by kernel_rfl) (by kernel_rfl) ?_
  repeat (go_big_quiet_step ((go_at_call 28; with_reducible exact GW.call (cF _ (ht.below (bl_trans hB0 (GW.grow _)))))))
  refine wpQuiet_nil ?_
  rintro _ ⟨X, rfl⟩
  go_wp2_with (first | (refine wpList_bytes rfl _ 9 44 5 rfl Tryd.underlying9 Tryd.underlying44 Tryd.underlying5 _ rfl hsz ?_; intro v w4 hrd hfr hb4))
  go_ret2
  exact ⟨_, rfl, hrd, bl_trans (bl_trans hB0 X.grow) hb4⟩
set_option maxHeartbeats 4000000 in
theorem bytes_22 (rune : Int) (sh al ct : Bool) (app nl bk : Bool) (w : World) (ht : Tab w) (hv : validK 22 rune = true) : Calls Tryd.prog 18 #[.agg #[.int .i64 22, .int .i32 rune, .bool sh, .bool al, .bool ct], .agg #[.bool app, .bool nl, .bool bk]] w (BytesE 22 rune sh al ct app nl bk w) := by
  have cV := fun W => valid_any 22 rune sh al ct W
  rw [hv] at cV
  unfold BytesE
  have hS : bytesS 22 rune sh al ct app nl bk = numberedS (modN sh al ct) 18 := rfl
  rw [hS]
  have cF := fun W (ht : Tab W) => numbered_any 22 rune sh al ct 18 W ht (by omega)
  have hB := bl_alloc (bl_alloc (Below.refl _ w) (.cells #[.int .i64 22, .int .i32 rune, .bool sh, .bool al, .bool ct] 24)) (.cells #[.bool app, .bool nl, .bool bk] 26)
  have hsz0 := numbered_size (modN sh al ct) 18 (by omega) (mod_range sh al ct)
  generalize numberedS (modN sh al ct) 18 = S at *
  have hsz : S.size ≤ maxLen := by unfold maxLen; omega
  go_enter Tryd.func18, Tryd.ntmps18
  go_wp2_with (first | (go_at_call 8; (with_reducible refine (cV _).mono ?_); rintro e w1 ⟨rfl, hb⟩; (first | obtain ⟨X, rfl⟩ := GW.of2 hb | obtain ⟨X, rfl⟩ := GW.of hb); clear hb))
  have hB0 : Below w.heap.size w (X.world.alloc (.cells #[.int .i64 15, .int .i64 17, .int .i64 18, .int .i64 19, .int .i64 20, .int .i64 21, .int .i64 23, .int .i64 24] 3)) := bl_alloc (bl_trans hB X.grow) _
  have xk : Box (X.world.alloc (.cells #[.int .i64 15, .int .i64 17, .int .i64 18, .int .i64 19, .int .i64 20, .int .i64 21, .int .i64 23, .int .i64 24] 3)) w.heap.size #[.int .i64 22, .int .i32 rune, .bool sh, .bool al, .bool ct] 24 := (Box.gw ((Box.new w _ _ rfl).alloc _)).alloc _
  have xi : Box (X.world.alloc (.cells #[.int .i64 15, .int .i64 17, .int .i64 18, .int .i64 19, .int .i64 20, .int .i64 21, .int .i64 23, .int .i64 24] 3)) (w.heap.size + 1) #[.bool app, .bool nl, .bool bk] 26 := (Box.gw (Box.new _ _ _ (by simp))).alloc _
  have xn : Box (X.world.alloc (.cells #[.int .i64 15, .int .i64 17, .int .i64 18, .int .i64 19, .int .i64 20, .int .i64 21, .int .i64 23, .int .i64 24] 3)) X.world.heap.size #[.int .i64 15, .int .i64 17, .int .i64 18, .int .i64 19, .int .i64 20, .int .i64 21, .int .i64 23, .int .i64 24] 3 := Box.new _ _ _ rfl
  generalize X.world.alloc (.cells #[.int .i64 15, .int .i64 17, .int .i64 18, .int .i64 19, .int .i64 20, .int .i64 21, .int .i64 23, .int .i64 24] 3) = W0 at *
  obtain ⟨b0, hb0⟩ : ∃ b0, X.world.heap.size = b0 := ⟨_, rfl⟩
  rw [hb0] at xn ⊢
  clear hb0 X
  have ck := xk.cell
  have lk := xk.lt
  have ci := xi.cell
  have li := xi.lt
  have cn := xn.cell
  have ln := xn.lt
  first | refine wp_grow2 (by kernel_rfl) (by kernel_rfl) ?_ | refine wp_grow (by kernel_rfl) (by kernel_rfl) ?_
  repeat (go_big_quiet_step ((go_at_call 28; with_reducible exact GW.call (cF _ (ht.below (bl_trans hB0 (GW.grow _)))))))
  refine wpQuiet_nil ?_
  rintro _ ⟨X, rfl⟩
  go_wp2_with (first | (refine wpList_bytes rfl _ 9 44 5 rfl Tryd.underlying9 Tryd.underlying44 Tryd.underlying5 _ rfl hsz ?_; intro v w4 hrd hfr hb4))
  go_ret2
  exact ⟨_, rfl, hrd, bl_trans (bl_trans hB0 X.grow) hb4⟩
set_option maxHeartbeats 4000000 in
theorem bytes_23 (rune : Int) (sh al ct : Bool) (app nl bk : Bool) (w : World) (ht : Tab w) (hv : validK 23 rune = true) : Calls Tryd.prog 18 #[.agg #[.int .i64 23, .int .i32 rune, .bool sh, .bool al, .bool ct], .agg #[.bool app, .bool nl, .bool bk]] w (BytesE 23 rune sh al ct app nl bk w) := by
  have cV := fun W => valid_any 23 rune sh al ct W
  rw [hv] at cV
  unfold BytesE
  have hS : bytesS 23 rune sh al ct app nl bk = numberedS (modN sh al ct) 19 := rfl
  rw [hS]
  have cF := fun W (ht : Tab W) => numbered_any 23 rune sh al ct 19 W ht (by omega)
  have hB := bl_alloc (bl_alloc (Below.refl _ w) (.cells #[.int .i64 23, .int .i32 rune, .bool sh, .bool al, .bool ct] 24)) (.cells #[.bool app, .bool nl, .bool bk] 26)
  have hsz0 := numbered_size (modN sh al ct) 19 (by omega) (mod_range sh al ct)
  generalize numberedS (modN sh al ct) 19 = S at *
  have hsz : S.size ≤ maxLen := by unfold maxLen; omega
  go_enter Tryd.func18, Tryd.ntmps18
  go_wp2_with (first | (go_at_call 8; (with_reducible refine (cV _).mono ?_); rintro e w1 ⟨rfl, hb⟩; (first | obtain ⟨X, rfl⟩ := GW.of2 hb | obtain ⟨X, rfl⟩ := GW.of hb); clear hb))
  have hB0 : Below w.heap.size w (X.world.alloc (.cells #[.int .i64 15, .int .i64 17, .int .i64 18, .int .i64 19, .int .i64 20, .int .i64 21, .int .i64 23, .int .i64 24] 3)) := bl_alloc (bl_trans hB X.grow) _
  have xk : Box (X.world.alloc (.cells #[.int .i64 15, .int .i64 17, .int .i64 18, .int .i64 19, .int .i64 20, .int .i64 21, .int .i64 23, .int .i64 24] 3)) w.heap.size #[.int .i64 23, .int .i32 rune, .bool sh, .bool al, .bool ct] 24 := (Box.gw ((Box.new w _ _ rfl).alloc _)).alloc _
  have xi : Box (X.world.alloc (.cells #[.int .i64 15, .int .i64 17, .int .i64 18, .int .i64 19, .int .i64 20, .int .i64 21, .int .i64 23, .int .i64 24] 3)) (w.heap.size + 1) #[.bool app, .bool nl, .bool bk] 26 := (Box.gw (Box.new _ _ _ (by simp))).alloc _
  have xn : Box (X.world.alloc (.cells #[.int .i64 15, .int .i64 17, .int .i64 18, .int .i64 19, .int .i64 20, .int .i64 21, .int .i64 23, .int .i64 24] 3)) X.world.heap.size #[.int .i64 15, .int .i64 17, .int .i64 18, .int .i64 19, .int .i64 20, .int .i64 21, .int .i64 23, .int .i64 24] 3 := Box.new _ _ _ rfl
  generalize X.world.alloc (.cells #[.int .i64 15, .int .i64 17, .int .i64 18, .int .i64 19, .int .i64 20, .int .i64 21, .int .i64 23, .int .i64 24] 3) = W0 at *
  obtain ⟨b0, hb0⟩ : ∃ b0, X.world.heap.size = b0 := ⟨_, rfl⟩
  rw [hb0] at xn ⊢
  clear hb0 X
  have ck := xk.cell
  have lk := xk.lt
  have ci := xi.cell
  have li := xi.lt
  have cn := xn.cell
  have ln := xn.lt
  first | refine wp_grow2 (by kernel_rfl) (by kernel_rfl) ?_ | refine wp_grow (by kernel_rfl) (by kernel_rfl) ?_
  repeat (go_big_quiet_step ((go_at_call 28; with_reducible exact GW.call (cF _ (ht.below (bl_trans hB0 (GW.grow _)))))))
  refine wpQuiet_nil ?_
  rintro _ ⟨X, rfl⟩
  go_wp2_with (first | (refine wpList_bytes rfl _ 9 44 5 rfl Tryd.underlying9 Tryd.underlying44 Tryd.underlying5 _ rfl hsz ?_; intro v w4 hrd hfr hb4))
  go_ret2
  exact ⟨_, rfl, hrd, bl_trans (bl_trans hB0 X.grow) hb4⟩
set_option maxHeartbeats 4000000 in
theorem bytes_24 (rune : Int) (sh al ct : Bool) (app nl bk : Bool) (w : World) (ht : Tab w) (hv : validK 24 rune = true) : Calls Tryd.prog 18 #[.agg #[.int .i64 24, .int .i32 rune, .bool sh, .bool al, .bool ct], .agg #[.bool app, .bool nl, .bool bk]] w (BytesE 24 rune sh al ct app nl bk w) := by
  have cV := fun W => valid_any 24 rune sh al ct W
  rw [hv] at cV
  unfold BytesE
  have hS : bytesS 24 rune sh al ct app nl bk = numberedS (modN sh al ct) 20 := rfl
  rw [hS]
  have cF := fun W (ht : Tab W) => numbered_any 24 rune sh al ct 20 W ht (by omega)
  have hB := bl_alloc (bl_alloc (Below.refl _ w) (.cells #[.int .i64 24, .int .i32 rune, .bool sh, .bool al, .bool ct] 24)) (.cells #[.bool app, .bool nl, .bool bk] 26)
  have hsz0 := numbered_size (modN sh al ct) 20 (by omega) (mod_range sh al ct)
  generalize numberedS (modN sh al ct) 20 = S at *
  have hsz : S.size ≤ maxLen := by unfold maxLen; omega
  go_enter Tryd.func18, Tryd.ntmps18
  go_wp2_with (first | (go_at_call 8; (with_reducible refine (cV _).mono ?_); rintro e w1 ⟨rfl, hb⟩; (first | obtain ⟨X, rfl⟩ := GW.of2 hb | obtain ⟨X, rfl⟩ := GW.of hb); clear hb))
  have hB0 : Below w.heap.size w (X.world.alloc (.cells #[.int .i64 15, .int .i64 17, .int .i64 18, .int .i64 19, .int .i64 20, .int .i64 21, .int .i64 23, .int .i64 24] 3)) := bl_alloc (bl_trans hB X.grow) _
  have xk : Box (X.world.alloc (.cells #[.int .i64 15, .int .i64 17, .int .i64 18, .int .i64 19, .int .i64 20, .int .i64 21, .int .i64 23, .int .i64 24] 3)) w.heap.size #[.int .i64 24, .int .i32 rune, .bool sh, .bool al, .bool ct] 24 := (Box.gw ((Box.new w _ _ rfl).alloc _)).alloc _
  have xi : Box (X.world.alloc (.cells #[.int .i64 15, .int .i64 17, .int .i64 18, .int .i64 19, .int .i64 20, .int .i64 21, .int .i64 23, .int .i64 24] 3)) (w.heap.size + 1) #[.bool app, .bool nl, .bool bk] 26 := (Box.gw (Box.new _ _ _ (by simp))).alloc _
  have xn : Box (X.world.alloc (.cells #[.int .i64 15, .int .i64 17, .int .i64 18, .int .i64 19, .int .i64 20, .int .i64 21, .int .i64 23, .int .i64 24] 3)) X.world.heap.size #[.int .i64 15, .int .i64 17, .int .i64 18, .int .i64 19, .int .i64 20, .int .i64 21, .int .i64 23, .int .i64 24] 3 := Box.new _ _ _ rfl
  generalize X.world.alloc (.cells #[.int .i64 15, .int .i64 17, .int .i64 18, .int .i64 19, .int .i64 20, .int .i64 21, .int .i64 23, .int .i64 24] 3) = W0 at *
  obtain ⟨b0, hb0⟩ : ∃ b0, X.world.heap.size = b0 := ⟨_, rfl⟩
  rw [hb0] at xn ⊢
  clear hb0 X
  have ck := xk.cell
  have lk := xk.lt
  have ci := xi.cell
  have li := xi.lt
  have cn := xn.cell
  have ln := xn.lt
  first | refine wp_grow2 (by kernel_rfl) (by kernel_rfl) ?_ | refine wp_grow (by kernel_rfl) (by kernel_rfl) ?_
  repeat (go_big_quiet_step ((go_at_call 28; with_reducible exact GW.call (cF _ (ht.below (bl_trans hB0 (GW.grow _)))))))
  refine wpQuiet_nil ?_
  rintro _ ⟨X, rfl⟩
  go_wp2_with (first | (refine wpList_bytes rfl _ 9 44 5 rfl Tryd.underlying9 Tryd.underlying44 Tryd.underlying5 _ rfl hsz ?_; intro v w4 hrd hfr hb4))
  go_ret2
  exact ⟨_, rfl, hrd, bl_trans (bl_trans hB0 X.grow) hb4⟩
set_option maxHeartbeats 4000000 in
theorem bytes_25 (rune : Int) (sh al ct : Bool) (app nl bk : Bool) (w : World) (ht : Tab w) (hv : validK 25 rune = true) : Calls Tryd.prog 18 #[.agg #[.int .i64 25, .int .i32 rune, .bool sh, .bool al, .bool ct], .agg #[.bool app, .bool nl, .bool bk]] w (BytesE 25 rune sh al ct app nl bk w) := by
  have cV := fun W => valid_any 25 rune sh al ct W
  rw [hv] at cV
  unfold BytesE
  have hS : bytesS 25 rune sh al ct app nl bk = numberedS (modN sh al ct) 21 := rfl
  rw [hS]
  have cF := fun W (ht : Tab W) => numbered_any 25 rune sh al ct 21 W ht (by omega)
  have hB := bl_alloc (bl_alloc (Below.refl _ w) (.cells #[.int .i64 25, .int .i32 rune, .bool sh, .bool al, .bool ct] 24)) (.cells #[.bool app, .bool nl, .bool bk] 26)
  have hsz0 := numbered_size (modN sh al ct) 21 (by omega) (mod_range sh al ct)
  generalize numberedS (modN sh al ct) 21 = S at *
  have hsz : S.size ≤ maxLen := by unfold maxLen; omega
  go_enter Tryd.func18, Tryd.ntmps18
  go_wp2_with (first | (go_at_call 8; (with_reducible refine (cV _).mono ?_); rintro e w1 ⟨rfl, hb⟩; (first | obtain ⟨X, rfl⟩ := GW.of2 hb | obtain ⟨X, rfl⟩ := GW.of hb); clear hb))
  have hB0 : Below w.heap.size w (X.world.alloc (.cells #[.int .i64 15, .int .i64 17, .int .i64 18, .int .i64 19, .int .i64 20, .int .i64 21, .int .i64 23, .int .i64 24] 3)) := bl_alloc (bl_trans hB X.grow) _
  have xk : Box (X.world.alloc (.cells #[.int .i64 15, .int .i64 17, .int .i64 18, .int .i64 19, .int .i64 20, .int .i64 21, .int .i64 23, .int .i64 24] 3)) w.heap.size #[.int .i64 25, .int .i32 rune, .bool sh, .bool al, .bool ct] 24 := (Box.gw ((Box.new w _ _ rfl).alloc _)).alloc _
  have xi : Box (X.world.alloc (.cells #[.int .i64 15, .int .i64 17, .int .i64 18, .int .i64 19, .int .i64 20, .int .i64 21, .int .i64 23, .int .i64 24] 3)) (w.heap.size + 1) #[.bool app, .bool nl, .bool bk] 26 := (Box.gw (Box.new _ _ _ (by simp))).alloc _
  have xn : Box (X.world.alloc (.cells #[.int .i64 15, .int .i64 17, .int .i64 18, .int .i64 19, .int .i64 20, .int .i64 21, .int .i64 23, .int .i64 24] 3)) X.world.heap.size #[.int .i64 15, .int .i64 17, .int .i64 18, .int .i64 19, .int .i64 20, .int .i64 21, .int .i64 23, .int .i64 24] 3 := Box.new _ _ _ rfl
  generalize X.world.alloc (.cells #[.int .i64 15, .int .i64 17, .int .i64 18, .int .i64 19, .int .i64 20, .int .i64 21, .int .i64 23, .int .i64 24] 3) = W0 at *
  obtain ⟨b0, hb0⟩ : ∃ b0, X.world.heap.size = b0 := ⟨_, rfl⟩
  rw [hb0] at xn ⊢
  clear hb0 X
  have ck := xk.cell
  have lk := xk.lt
  have ci := xi.cell
  have li := xi.lt
  have cn := xn.cell
  have ln := xn.lt
  first | refine wp_grow2 (by kernel_rfl) (by kernel_rfl) ?_ | refine wp_grow (by kernel_rfl) (by kernel_rfl) ?_
  repeat (go_big_quiet_step ((go_at_call 28; with_reducible exact GW.call (cF _ (ht.below (bl_trans hB0 (GW.grow _)))))))
  refine wpQuiet_nil ?_
  rintro _ ⟨X, rfl⟩
  go_wp2_with (first | (refine wpList_bytes rfl _ 9 44 5 rfl Tryd.underlying9 Tryd.underlying44 Tryd.underlying5 _ rfl hsz ?_; intro v w4 hrd hfr hb4))
  go_ret2
  exact ⟨_, rfl, hrd, bl_trans (bl_trans hB0 X.grow) hb4⟩
set_option maxHeartbeats 4000000 in
theorem bytes_26 (rune : Int) (sh al ct : Bool) (app nl bk : Bool) (w : World) (ht : Tab w) (hv : validK 26 rune = true) : Calls Tryd.prog 18 #[.agg #[.int .i64 26, .int .i32 rune, .bool sh, .bool al, .bool ct], .agg #[.bool app, .bool nl, .bool bk]] w (BytesE 26 rune sh al ct app nl bk w) := by
  have cV := fun W => valid_any 26 rune sh al ct W
  rw [hv] at cV
  unfold BytesE
  have hS : bytesS 26 rune sh al ct app nl bk = numberedS (modN sh al ct) 23 := rfl
  rw [hS]
  have cF := fun W (ht : Tab W) => numbered_any 26 rune sh al ct 23 W ht (by omega)
  have hB := bl_alloc (bl_alloc (Below.refl _ w) (.cells #[.int .i64 26, .int .i32 rune, .bool sh, .bool al, .bool ct] 24)) (.cells #[.bool app, .bool nl, .bool bk] 26)
  have hsz0 := numbered_size (modN sh al ct) 23 (by omega) (mod_range sh al ct)
  generalize numberedS (modN sh al ct) 23 = S at *
  have hsz : S.size ≤ maxLen := by unfold maxLen; omega
  go_enter Tryd.func18, Tryd.ntmps18
  go_wp2_with (first | (go_at_call 8; (with_reducible refine (cV _).mono ?_); rintro e w1 ⟨rfl, hb⟩; (first | obtain ⟨X, rfl⟩ := GW.of2 hb | obtain ⟨X, rfl⟩ := GW.of hb); clear hb))
  have hB0 : Below w.heap.size w (X.world.alloc (.cells #[.int .i64 15, .int .i64 17, .int .i64 18, .int .i64 19, .int .i64 20, .int .i64 21, .int .i64 23, .int .i64 24] 3)) := bl_alloc (bl_trans hB X.grow) _
  have xk : Box (X.world.alloc (.cells #[.int .i64 15, .int .i64 17, .int .i64 18, .int .i64 19, .int .i64 20, .int .i64 21, .int .i64 23, .int .i64 24] 3)) w.heap.size #[.int .i64 26, .int .i32 rune, .bool sh, .bool al, .bool ct] 24 := (Box.gw ((Box.new w _ _ rfl).alloc _)).alloc _
  have xi : Box (X.world.alloc (.cells #[.int .i64 15, .int .i64 17, .int .i64 18, .int .i64 19, .int .i64 20, .int .i64 21, .int .i64 23, .int .i64 24] 3)) (w.heap.size + 1) #[.bool app, .bool nl, .bool bk] 26 := (Box.gw (Box.new _ _ _ (by simp))).alloc _
  have xn : Box (X.world.alloc (.cells #[.int .i64 15, .int .i64 17, .int .i64 18, .int .i64 19, .int .i64 20, .int .i64 21, .int .i64 23, .int .i64 24] 3)) X.world.heap.size #[.int .i64 15, .int .i64 17, .int .i64 18, .int .i64 19, .int .i64 20, .int .i64 21, .int .i64 23, .int .i64 24] 3 := Box.new _ _ _ rfl
  generalize X.world.alloc (.cells #[.int .i64 15, .int .i64 17, .int .i64 18, .int .i64 19, .int .i64 20, .int .i64 21, .int .i64 23, .int .i64 24] 3) = W0 at *
  obtain ⟨b0, hb0⟩ : ∃ b0, X.world.heap.size = b0 := ⟨_, rfl⟩
  rw [hb0] at xn ⊢
  clear hb0 X
  have ck := xk.cell
  have lk := xk.lt
  have ci := xi.cell
  have li := xi.lt
  have cn := xn.cell
  have ln := xn.lt
  first | refine wp_grow2 (by kernel_rfl) (by kernel_rfl) ?_ | refine wp_grow (by kernel_rfl) (by kernel_rfl) ?_
  repeat (go_big_quiet_step ((go_at_call 28; with_reducible exact GW.call (cF _ (ht.below (bl_trans hB0 (GW.grow _)))))))
  refine wpQuiet_nil ?_
  rintro _ ⟨X, rfl⟩
  go_wp2_with (first | (refine wpList_bytes rfl _ 9 44 5 rfl Tryd.underlying9 Tryd.underlying44 Tryd.underlying5 _ rfl hsz ?_; intro v w4 hrd hfr hb4))
  go_ret2
  exact ⟨_, rfl, hrd, bl_trans (bl_trans hB0 X.grow) hb4⟩
set_option maxHeartbeats 4000000 in
theorem bytes_27 (rune : Int) (sh al ct : Bool) (app nl bk : Bool) (w : World) (ht : Tab w) (hv : validK 27 rune = true) : Calls Tryd.prog 18 #[.agg #[.int .i64 27, .int .i32 rune, .bool sh, .bool al, .bool ct], .agg #[.bool app, .bool nl, .bool bk]] w (BytesE 27 rune sh al ct app nl bk w) := by
  have cV := fun W => valid_any 27 rune sh al ct W
  rw [hv] at cV
  unfold BytesE
  have hS : bytesS 27 rune sh al ct app nl bk = numberedS (modN sh al ct) 24 := rfl
  rw [hS]
  have cF := fun W (ht : Tab W) => numbered_any 27 rune sh al ct 24 W ht (by omega)
  have hB := bl_alloc (bl_alloc (Below.refl _ w) (.cells #[.int .i64 27, .int .i32 rune, .bool sh, .bool al, .bool ct] 24)) (.cells #[.bool app, .bool nl, .bool bk] 26)
  have hsz0 := numbered_size (modN sh al ct) 24 (by omega) (mod_range sh al ct)
  generalize numberedS (modN sh al ct) 24 = S at *
  have hsz : S.size ≤ maxLen := by unfold maxLen; omega
  go_enter Tryd.func18, Tryd.ntmps18
  go_wp2_with (first | (go_at_call 8; (with_reducible refine (cV _).mono ?_); rintro e w1 ⟨rfl, hb⟩; (first | obtain ⟨X, rfl⟩ := GW.of2 hb | obtain ⟨X, rfl⟩ := GW.of hb); clear hb))
  have hB0 : Below w.heap.size w (X.world.alloc (.cells #[.int .i64 15, .int .i64 17, .int .i64 18, .int .i64 19, .int .i64 20, .int .i64 21, .int .i64 23, .int .i64 24] 3)) := bl_alloc (bl_trans hB X.grow) _
  have xk : Box (X.world.alloc (.cells #[.int .i64 15, .int .i64 17, .int .i64 18, .int .i64 19, .int .i64 20, .int .i64 21, .int .i64 23, .int .i64 24] 3)) w.heap.size #[.int .i64 27, .int .i32 rune, .bool sh, .bool al, .bool ct] 24 := (Box.gw ((Box.new w _ _ rfl).alloc _)).alloc _
  have xi : Box (X.world.alloc (.cells #[.int .i64 15, .int .i64 17, .int .i64 18, .int .i64 19, .int .i64 20, .int .i64 21, .int .i64 23, .int .i64 24] 3)) (w.heap.size + 1) #[.bool app, .bool nl, .bool bk] 26 := (Box.gw (Box.new _ _ _ (by simp))).alloc _
  have xn : Box (X.world.alloc (.cells #[.int .i64 15, .int .i64 17, .int .i64 18, .int .i64 19, .int .i64 20, .int .i64 21, .int .i64 23, .int .i64 24] 3)) X.world.heap.size #[.int .i64 15, .int .i64 17, .int .i64 18, .int .i64 19, .int .i64 20, .int .i64 21, .int .i64 23, .int .i64 24] 3 := Box.new _ _ _ rfl
  generalize X.world.alloc (.cells #[.int .i64 15, .int .i64 17, .int .i64 18, .int .i64 19, .int .i64 20, .int .i64 21, .int .i64 23, .int .i64 24] 3) = W0 at *
  obtain ⟨b0, hb0⟩ : ∃ b0, X.world.heap.size = b0 := ⟨_, rfl⟩
  rw [hb0] at xn ⊢
  clear hb0 X
  have ck := xk.cell
  have lk := xk.lt
  have ci := xi.cell
  have li := xi.lt
  have cn := xn.cell
  have ln := xn.lt
  first | refine wp_grow2 (by kernel_rfl) (by kernel_rfl) ?_ | refine wp_grow (by kernel_rfl) (by kernel_rfl) ?_
  repeat (go_big_quiet_step ((go_at_call 28; with_reducible exact GW.call (cF _ (ht.below (bl_trans hB0 (GW.grow _)))))))
  refine wpQuiet_nil ?_
  rintro _ ⟨X, rfl⟩
  go_wp2_with (first | (refine wpList_bytes rfl _ 9 44 5 rfl Tryd.underlying9 Tryd.underlying44 Tryd.underlying5 _ rfl hsz ?_; intro v w4 hrd hfr hb4))
  go_ret2
  exact ⟨_, rfl, hrd, bl_trans (bl_trans hB0 X.grow) hb4⟩

end Go.Proofs.YtofjdjjbgnfngaaDoor
