/- Motion: the examples of the chapter. -/
import Derived.Test.YtfcogdpkelcfbaaD
namespace Go.Proofs.Ytfcogdpkelcfbaa
open Go.RowKit

theorem goes_true (rows cols top bottom : Int) (o : Bool) (m n wr wc : Int) (wp : Bool) (no : Int) (w : World) (h : goesB rows cols top bottom o m n wr wc wp no = true) :
    Calls Try.prog 14 #[.agg #[.int .i64 rows, .int .i64 cols, .int .i64 top, .int .i64 bottom, .bool o], .int .i64 m, .int .i64 n, .agg #[.int .i64 wr, .int .i64 wc, .bool wp], .int .i64 no] w fun e w' => e = .returned (.bool true) ∧ Below w.heap.size w w' := by
  have := goes_any rows cols top bottom o m n wr wc wp no w
  rwa [h] at this
theorem clamps_true (rows cols top bottom : Int) (o : Bool) (r c : Int) (p : Bool) (wr wc : Int) (wp : Bool) (no : Int) (w : World) (h : clampsB rows cols top bottom r c p wr wc wp no = true) :
    Calls Try.prog 15 #[.agg #[.int .i64 rows, .int .i64 cols, .int .i64 top, .int .i64 bottom, .bool o], .agg #[.int .i64 r, .int .i64 c, .bool p], .agg #[.int .i64 wr, .int .i64 wc, .bool wp], .int .i64 no] w fun e w' => e = .returned (.bool true) ∧ Below w.heap.size w w' := by
  have := clamps_any rows cols top bottom o r c p wr wc wp no w
  rwa [h] at this
theorem stands_true (rows cols top bottom : Int) (o : Bool) (r c : Int) (p : Bool) (m n no : Int) (w : World) (h : standsB rows cols top bottom o r c p m n no = true) :
    Calls Try.prog 20 #[.agg #[.int .i64 rows, .int .i64 cols, .int .i64 top, .int .i64 bottom, .bool o], .agg #[.int .i64 r, .int .i64 c, .bool p], .int .i64 m, .int .i64 n, .int .i64 no] w fun e w' => e = .returned (.bool true) ∧ Below w.heap.size w w' := by
  have := stands_any rows cols top bottom o r c p m n no w
  rwa [h] at this
theorem valid_true (rows cols top bottom : Int) (o : Bool) (r c : Int) (p : Bool) (w : World) (h : validB rows cols top bottom r c p = true) :
    Calls Try.prog 8 #[.agg #[.int .i64 rows, .int .i64 cols, .int .i64 top, .int .i64 bottom, .bool o], .agg #[.int .i64 r, .int .i64 c, .bool p]] w fun e w' => e = .returned (.bool true) ∧ Below w.heap.size w w' := by
  have := valid_any rows cols top bottom o r c p w
  rwa [h] at this
theorem valid_false (rows cols top bottom : Int) (o : Bool) (r c : Int) (p : Bool) (w : World) (h : validB rows cols top bottom r c p = false) :
    Calls Try.prog 8 #[.agg #[.int .i64 rows, .int .i64 cols, .int .i64 top, .int .i64 bottom, .bool o], .agg #[.int .i64 r, .int .i64 c, .bool p]] w fun e w' => e = .returned (.bool false) ∧ Below w.heap.size w w' := by
  have := valid_any rows cols top bottom o r c p w
  rwa [h] at this

theorem validRef_true (rows cols top bottom : Int) (o : Bool) (r c : Int) (p : Bool) (w : World) (h : validB rows cols top bottom r c p = true) :
    Calls Try.prog 9 #[.agg #[.int .i64 rows, .int .i64 cols, .int .i64 top, .int .i64 bottom, .bool o], .agg #[.int .i64 r, .int .i64 c, .bool p]] w fun e w' => e = .returned (.bool true) ∧ Below w.heap.size w w' := by
  have := validRef_any rows cols top bottom o r c p w
  rwa [h] at this
theorem validRef_false (rows cols top bottom : Int) (o : Bool) (r c : Int) (p : Bool) (w : World) (h : validB rows cols top bottom r c p = false) :
    Calls Try.prog 9 #[.agg #[.int .i64 rows, .int .i64 cols, .int .i64 top, .int .i64 bottom, .bool o], .agg #[.int .i64 r, .int .i64 c, .bool p]] w fun e w' => e = .returned (.bool false) ∧ Below w.heap.size w w' := by
  have := validRef_any rows cols top bottom o r c p w
  rwa [h] at this

set_option maxHeartbeats 4000000 in
theorem known_any (w : World) : Calls Try.prog 12 #[] w fun e w' => e = .returned (.bool true) ∧ Below w.heap.size w w' := by
  go_enter Try.func12, Try.ntmps12
  go_wp2_with fail
  first | refine wp_grow2 (by kernel_rfl) (by kernel_rfl) ?_ | refine wp_grow (by kernel_rfl) (by kernel_rfl) ?_
  repeat (go_big_quiet_step (first | (go_at_call 18; exact GW.call (at_any _ _ _)) | (go_at_call 10; exact GW.call (went_true _ _ _ _ _ _ _ _ _ _ _ _ _ _ _ (by decide)))))
  refine wpQuiet_nil ?_
  rintro _ ⟨X, rfl⟩
  go_wp2_with fail
  first | refine wp_grow2 (by kernel_rfl) (by kernel_rfl) ?_ | refine wp_grow (by kernel_rfl) (by kernel_rfl) ?_
  repeat (go_big_quiet_step (first | (go_at_call 18; exact GW.call (at_any _ _ _)) | (go_at_call 10; exact GW.call (went_true _ _ _ _ _ _ _ _ _ _ _ _ _ _ _ (by decide))) | (go_at_call 14; exact GW.call (goes_true _ _ _ _ _ _ _ _ _ _ _ _ (by decide)))))
  refine wpQuiet_nil ?_
  rintro _ ⟨X, rfl⟩
  go_wp2_with fail
  first | refine wp_grow2 (by kernel_rfl) (by kernel_rfl) ?_ | refine wp_grow (by kernel_rfl) (by kernel_rfl) ?_
  repeat (go_big_quiet_step (first | (go_at_call 18; exact GW.call (at_any _ _ _)) | (go_at_call 10; exact GW.call (went_true _ _ _ _ _ _ _ _ _ _ _ _ _ _ _ (by decide))) | (go_at_call 15; exact GW.call (clamps_true _ _ _ _ _ _ _ _ _ _ _ _ _ (by decide))) | (go_at_call 20; exact GW.call (stands_true _ _ _ _ _ _ _ _ _ _ _ _ (by decide))) | (go_at_call 8; exact GW.call (valid_false _ _ _ _ _ _ _ _ _ (by decide))) | (go_at_call 8; exact GW.call (valid_true _ _ _ _ _ _ _ _ _ (by decide)))))
  refine wpQuiet_nil ?_
  rintro _ ⟨X, rfl⟩
  go_wp2_with fail
  go_ret
  exact ⟨rfl, (by repeat (first | with_reducible exact Below.refl _ _ | with_reducible assumption | with_reducible exact GW.grow _ | with_reducible refine bl_alloc ?_ _ | with_reducible refine Below.drew ?_ | (with_reducible refine Below.setCell ?_ ?_ _; rotate_left; focus (simp; first | done | omega)) | with_reducible refine bl_trans ?_ (GW.grow _) | (with_reducible refine bl_trans ?_ (by assumption))))⟩

end Go.Proofs.Ytfcogdpkelcfbaa
