/- keys: the law's helpers about Bytes and Name. -/
import Derived.Test.YtofjdjjbgnfngaaDoorI
import Derived.Outline
set_option linter.unusedSimpArgs false
set_option linter.unusedVariables false
set_option linter.unnecessarySimpa false
namespace Go.Proofs.YtofjdjjbgnfngaaDoor
open Go.RowKit

theorem names_ok (code rune : Int) (sh al ct : Bool) (w : World) (ht : Tab w) (hr : -2147483648 ≤ rune ∧ rune ≤ 2147483647) (hv : validK code rune = true) : Calls Tryd.prog 11 #[.agg #[.int .i64 code, .int .i32 rune, .bool sh, .bool al, .bool ct], .string (nameS code rune sh al ct), .int .i64 0] w fun e w' => e = .returned (.bool true) ∧ Below w.heap.size w w' := by
  have cN := fun W (hb : Below w.heap.size w W) => name_ok code rune sh al ct W (ht.below hb) hr hv
  generalize nameS code rune sh al ct = nm at *
  go_enter Tryd.func11, Tryd.ntmps11
  go_wp2_with (go_at_call 17; (with_reducible refine (cN _ (bl_alloc (Below.refl _ _) _)).mono ?_); rintro e w1 ⟨rfl, hb1⟩)
  go_ret
  exact ⟨rfl, bl_trans (bl_alloc (Below.refl _ _) _) hb1⟩
theorem names_no (code rune : Int) (sh al ct : Bool) (w : World) (hv : validK code rune = false) : Calls Tryd.prog 11 #[.agg #[.int .i64 code, .int .i32 rune, .bool sh, .bool al, .bool ct], .string ⟨#[]⟩, .int .i64 2] w fun e w' => e = .returned (.bool true) ∧ Below w.heap.size w w' := by
  have cN := fun W => name_bad code rune sh al ct W hv
  go_enter Tryd.func11, Tryd.ntmps11
  go_wp2_with (go_at_call 17; (with_reducible refine (cN _).mono ?_); rintro e w1 ⟨rfl, hb1⟩)
  go_ret
  exact ⟨rfl, bl_trans (bl_alloc (Below.refl _ _) _) hb1⟩
theorem sends_no (code rune : Int) (sh al ct : Bool) (app nl bk : Bool) (w : World) (hv : validK code rune = false) : Calls Tryd.prog 10 #[.agg #[.int .i64 code, .int .i32 rune, .bool sh, .bool al, .bool ct], .agg #[.bool app, .bool nl, .bool bk], .string ⟨#[]⟩, .int .i64 2] w fun e w' => e = .returned (.bool true) ∧ Below w.heap.size w w' := by
  have cN := fun W => bytes_bad code rune sh al ct app nl bk W hv
  have kc := fun W => run_str (P := Tryd.prog) 44 9 5 Tryd.underlying44 Tryd.underlying5 Tryd.underlying9 (Rd.nil W .u8)
  rw [show strOfNums ([] : List Int) = ⟨#[]⟩ from rfl] at kc
  go_enter Tryd.func10, Tryd.ntmps10
  go_wp2_with (go_at_call 18; (with_reducible refine (cN _).mono ?_); rintro e w1 ⟨rfl, hb1⟩)
  go_ret
  exact ⟨rfl, bl_trans (bl_alloc (bl_alloc (Below.refl _ _) _) _) hb1⟩
theorem sends_ok (code rune : Int) (sh al ct : Bool) (app nl bk : Bool) (w : World) (ht : Tab w) (hr : -2147483648 ≤ rune ∧ rune ≤ 2147483647) (hv : validK code rune = true) (hi : bytesI code rune sh ct nl bk = true) : Calls Tryd.prog 10 #[.agg #[.int .i64 code, .int .i32 rune, .bool sh, .bool al, .bool ct], .agg #[.bool app, .bool nl, .bool bk], .string (bytesS code rune sh al ct app nl bk), .int .i64 0] w fun e w' => e = .returned (.bool true) ∧ Below w.heap.size w w' := by
  have cN := fun W (hb : Below w.heap.size w W) => bytes_any code rune sh al ct app nl bk W (ht.below hb) hr hv
  simp only [hi, if_true] at cN
  unfold BytesE at cN
  generalize bytesS code rune sh al ct app nl bk = S at *
  go_enter Tryd.func10, Tryd.ntmps10
  go_wp2_with (go_at_call 18; (with_reducible refine (cN _ (bl_alloc (bl_alloc (Below.refl _ _) _) _)).mono ?_); rintro e w1 ⟨v, rfl, hrd, hb1⟩; obtain ⟨pv, nv, cv, hve⟩ := hrd.shape; subst hve; have kc := run_str (P := Tryd.prog) 44 9 5 Tryd.underlying44 Tryd.underlying5 Tryd.underlying9 hrd; rw [strOf_bytesOf] at kc)
  go_ret
  exact ⟨rfl, bl_trans (bl_alloc (bl_alloc (Below.refl _ _) _) _) hb1⟩
theorem sends_none (code rune : Int) (sh al ct : Bool) (app nl bk : Bool) (w : World) (ht : Tab w) (hr : -2147483648 ≤ rune ∧ rune ≤ 2147483647) (hv : validK code rune = true) (hi : bytesI code rune sh ct nl bk = false) : Calls Tryd.prog 10 #[.agg #[.int .i64 code, .int .i32 rune, .bool sh, .bool al, .bool ct], .agg #[.bool app, .bool nl, .bool bk], .string ⟨#[]⟩, .int .i64 9] w fun e w' => e = .returned (.bool true) ∧ Below w.heap.size w w' := by
  have cN := fun W (hb : Below w.heap.size w W) => bytes_any code rune sh al ct app nl bk W (ht.below hb) hr hv
  simp only [hi, Bool.false_eq_true, if_false] at cN
  have kc := fun W => run_str (P := Tryd.prog) 44 9 5 Tryd.underlying44 Tryd.underlying5 Tryd.underlying9 (Rd.nil W .u8)
  rw [show strOfNums ([] : List Int) = ⟨#[]⟩ from rfl] at kc
  go_enter Tryd.func10, Tryd.ntmps10
  go_wp2_with (go_at_call 18; (with_reducible refine (cN _ (bl_alloc (bl_alloc (Below.refl _ _) _) _)).mono ?_); rintro e w1 ⟨rfl, hb1⟩)
  go_ret
  exact ⟨rfl, bl_trans (bl_alloc (bl_alloc (Below.refl _ _) _) _) hb1⟩

end Go.Proofs.YtofjdjjbgnfngaaDoor
