/- keys: the law's helper about ByName. -/
import Derived.Test.YtofjdjjbgnfngaaDoorJ
import Derived.Outline
set_option linter.unusedSimpArgs false
set_option linter.unusedVariables false
set_option linter.unnecessarySimpa false
namespace Go.Proofs.YtofjdjjbgnfngaaDoor
open Go.RowKit

theorem base_size (code rune : Int) (hv : validK code rune = true) : (baseS code rune).size ≤ 10 := by
  unfold validK at hv
  have hv := of_decide_eq_true hv
  unfold baseS
  split
  · split
    · decide
    · exact Nat.le_trans (enc_size rune) (by omega)
  · rename_i h1
    obtain ⟨s, _, h2, h3⟩ := nameL_get code (by omega)
    rw [h2]; exact h3
theorem name_size (code rune : Int) (sh al ct : Bool) (hv : validK code rune = true) : (nameS code rune sh al ct).size ≤ 16 := by
  have h1 := base_size code rune hv
  have h2 := preP_size ct al sh 3
  unfold nameS
  rw [ByteArray.size_append]
  omega
theorem by_ok (code rune : Int) (sh al ct : Bool) (hv : validK code rune = true) : byOk (nameS code rune sh al ct) = true := by
  obtain ⟨h1, h2, h3, h4, h5⟩ := by_name code rune sh al ct hv
  unfold byOk
  rw [h1, h2, h3, h4, h5, hv]
  simp
set_option maxHeartbeats 4000000 in
theorem named_ok (code rune : Int) (sh al ct : Bool) (w : World) (hg : Gl w) (hv : validK code rune = true) : Calls Tryd.prog 15 #[.string (nameS code rune sh al ct), .agg #[.int .i64 code, .int .i32 rune, .bool sh, .bool al, .bool ct], .int .i64 0] w fun e w' => e = .returned (.bool true) ∧ Below w.heap.size w w' := by
  have hn := name_size code rune sh al ct hv
  have cB := fun W (hb : Below w.heap.size w W) => byName_any (nameS code rune sh al ct) W (hg.below hb) (by omega)
  obtain ⟨h1, h2, h3, h4, h5⟩ := by_name code rune sh al ct hv
  unfold ByE at cB
  rw [by_ok code rune sh al ct hv, if_pos rfl, if_pos rfl, h1, h2, h3, h4, h5] at cB
  clear h1 h2 h3 h4 h5 hn
  generalize nameS code rune sh al ct = nm at *
  go_enter Tryd.func15, Tryd.ntmps15
  go_wp2_with (go_at_call 16; (with_reducible refine (cB _ (bl_alloc (Below.refl _ _) _)).mono ?_); rintro e w1 ⟨rfl, hb1⟩; have xk1 : Box w1 w.heap.size #[.int .i64 code, .int .i32 rune, .bool sh, .bool al, .bool ct] 24 := (hb1.block w.heap.size (by simp)).trans (Box.new _ _ _ rfl); have ck := xk1.cell; have lk := xk1.lt)
  go_ret
  exact ⟨rfl, bl_alloc (bl_trans (bl_alloc (Below.refl _ _) _) hb1) _⟩
theorem named_no (s : ByteArray) (w : World) (hg : Gl w) (hsz : s.size ≤ 1000) (hb : byOk s = false) : Calls Tryd.prog 15 #[.string s, .agg #[.int .i64 0, .int .i32 0, .bool false, .bool false, .bool false], .int .i64 6] w fun e w' => e = .returned (.bool true) ∧ Below w.heap.size w w' := by
  have cB := fun W (hb : Below w.heap.size w W) => byName_any s W (hg.below hb) hsz
  unfold ByE at cB
  rw [hb, if_neg (by decide), if_neg (by decide)] at cB
  go_enter Tryd.func15, Tryd.ntmps15
  go_wp2_with (go_at_call 16; (with_reducible refine (cB _ (bl_alloc (Below.refl _ _) _)).mono ?_); rintro e w1 ⟨rfl, hb1⟩; have xk1 : Box w1 w.heap.size #[.int .i64 0, .int .i32 0, .bool false, .bool false, .bool false] 24 := (hb1.block w.heap.size (by simp)).trans (Box.new _ _ _ rfl); have ck := xk1.cell; have lk := xk1.lt)
  go_ret
  exact ⟨rfl, bl_alloc (bl_trans (bl_alloc (Below.refl _ _) _) hb1) _⟩

end Go.Proofs.YtofjdjjbgnfngaaDoor
