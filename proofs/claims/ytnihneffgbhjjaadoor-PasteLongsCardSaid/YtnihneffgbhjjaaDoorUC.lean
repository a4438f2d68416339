/- utf: the encoder. -/
import Derived.Test.YtnihneffgbhjjaaDoorUPlain
import Derived.Test.YtnihneffgbhjjaaDoorLate
set_option linter.unusedSimpArgs false
set_option linter.unusedVariables false
set_option linter.unnecessarySimpa false
namespace Go.Proofs.YtnihneffgbhjjaaDoor
open Go.RowKit

theorem el8 : (Tryd.prog.info? 5).map (fun i => (i.zero, i.size, i.bytes)) = some (some (.int .u8 0), 1, 1) := by kernel_rfl
theorem el32 : (Tryd.prog.info? 21).map (fun i => (i.zero, i.size, i.bytes)) = some (some (.int .i32 0), 1, 4) := by kernel_rfl

theorem validRef_any (r : Int) (w : World) : Calls Tryd.prog 27 #[.int .i32 r] w fun e w' => e = .returned (.bool (validR r)) ∧ w = w' := by
  go_enter Tryd.func27, Tryd.ntmps27
  go_wp2_with fail
  all_goals
    go_ret
    exact ⟨ret_bool (by rw [Bool.eq_iff_iff]; simp [validR]; omega), rfl⟩
theorem i32_and63 {x : Int} (h₀ : 0 ≤ x) (h₁ : x < 2147483648) : bits .and .i32 x 63 = x % 64 := bits_mask .i32 31 (by decide) wraps_i32 6 (by decide) x h₀ h₁
theorem enc0_len (r : Int) : (enc0 r).length ≤ 4 := by unfold enc0; (repeat' split) <;> simp
theorem enc1_len (r : Int) : (enc1 r).length ≤ 4 := by unfold enc1; split <;> exact enc0_len _
theorem encL_len (l : List Int) : (encL l).length ≤ 4 * l.length := by
  induction l with
  | nil => simp [encL]
  | cons a l ih => have := enc1_len a; simp only [encL, List.flatMap_cons, List.length_append, List.length_cons] at *; omega
theorem encL_succ (xs : List Int) (k : Nat) (h : k < xs.length) : encL (xs.take (k + 1)) = encL (xs.take k) ++ enc1 xs[k] := by
  unfold encL; rw [List.take_succ_eq_append_getElem h, List.flatMap_append, List.flatMap_singleton]

end Go.Proofs.YtnihneffgbhjjaaDoor
