/- utf: the encoder. -/
import Derived.Test.YtpkkfcfkhiaggaaUPlain
import Derived.Test.YtpkkfcfkhiaggaaLate
set_option linter.unusedSimpArgs false
set_option linter.unusedVariables false
set_option linter.unnecessarySimpa false
namespace Go.Proofs.Ytpkkfcfkhiaggaa
open Go.RowKit

theorem el8 : (Try.prog.info? 5).map (fun i => (i.zero, i.size, i.bytes)) = some (some (.int .u8 0), 1, 1) := by kernel_rfl
theorem el32 : (Try.prog.info? 21).map (fun i => (i.zero, i.size, i.bytes)) = some (some (.int .i32 0), 1, 4) := by kernel_rfl

theorem valid_any (r : Int) (w : World) : Calls Try.prog 42 #[.int .i32 r] w fun e w' => e = .returned (.bool (validR r)) ∧ w = w' := by
  go_enter Try.func42, Try.ntmps42
  go_wp2_with fail
  all_goals
    go_ret
    exact ⟨ret_bool (by rw [Bool.eq_iff_iff]; simp [validR]; omega), rfl⟩
theorem validRef_any (r : Int) (w : World) : Calls Try.prog 45 #[.int .i32 r] w fun e w' => e = .returned (.bool (validR r)) ∧ w = w' := by
  go_enter Try.func45, Try.ntmps45
  go_wp2_with fail
  all_goals
    go_ret
    exact ⟨ret_bool (by rw [Bool.eq_iff_iff]; simp [validR]; omega), rfl⟩
theorem i32_and63 {x : Int} (h₀ : 0 ≤ x) (h₁ : x < 2147483648) : bits .and .i32 x 63 = x % 64 := bits_mask .i32 31 (by decide) wraps_i32 6 (by decide) x h₀ h₁
theorem tail_any (r : Int) (w : World) (h : 0 ≤ r ∧ r ≤ 1114111) : Calls Try.prog 77 #[.int .i32 r] w fun e w' => e = .returned (.int .u8 (128 + r % 64)) ∧ w = w' := by
  go_enter Try.func77, Try.ntmps77
  go_wp2_with fail
  go_ret
  exact ⟨ret_int (by rw [i32_and63 (by omega) (by omega), show r % 64 % 256 = r % 64 by omega, u8_or128 _ (by omega) (by omega)]), rfl⟩

theorem enc0_len (r : Int) : (enc0 r).length ≤ 4 := by unfold enc0; (repeat' split) <;> simp
theorem enc1_len (r : Int) : (enc1 r).length ≤ 4 := by unfold enc1; split <;> exact enc0_len _
theorem encL_len (l : List Int) : (encL l).length ≤ 4 * l.length := by
  induction l with
  | nil => simp [encL]
  | cons a l ih => have := enc1_len a; simp only [encL, List.flatMap_cons, List.length_append, List.length_cons] at *; omega
theorem encL_succ (xs : List Int) (k : Nat) (h : k < xs.length) : encL (xs.take (k + 1)) = encL (xs.take k) ++ enc1 xs[k] := by
  unfold encL; rw [List.take_succ_eq_append_getElem h, List.flatMap_append, List.flatMap_singleton]

set_option maxRecDepth 100000 in
set_option maxHeartbeats 4000000 in
theorem encode_any (v : Value) (xs : List Int) (w : World) (h1 : Rd w .i32 v xs) (hl : xs.length ≤ 1000000) :
    Calls Try.prog 61 #[v] w (RetOwn w 5 .u8 (encL xs)) := by
  obtain ⟨p1, cap1, rfl, l1, m1, c1⟩ := h1
  unfold maxLen at m1
  go_enter Try.func61, Try.ntmps61
  go_wp2_with fail
  go_loopw [3, 8] (fun v i wr => ∃ k : Nat, k ≤ xs.length ∧ i = .int .i64 k ∧ Below w.heap.size w wr ∧ Own wr w.heap.size 5 .u8 v (encL (xs.take k))) (fun _ i _ => xs.length - (intOf i).toNat)
  case atStart => exact ⟨0, by omega, rfl, (by repeat (first | with_reducible exact Below.refl _ _ | with_reducible assumption | with_reducible exact GW.grow _ | with_reducible refine bl_alloc ?_ _ | with_reducible refine Below.drew ?_ | (with_reducible refine Below.setCell ?_ ?_ _; rotate_left; focus (simp; first | done | omega)) | with_reducible refine bl_trans ?_ (GW.grow _) | (with_reducible refine bl_trans ?_ (by assumption)))), Own.nil _ _ _ _⟩
  case round =>
    obtain ⟨k, hk, rfl, hbl, hown⟩ := hrel
    by_cases hlt : k < xs.length
    · obtain ⟨b1, o1, rfl, q1, d1⟩ := Rd.at c1 l1 hlt
      have d3 : wr.cell? ⟨b1, o1 + k, none⟩ = some (.int .i32 xs[k]) := by rw [hbl.cell (p := ⟨b1, _, none⟩) q1]; exact d1
      clear c1 d1
      have r1 : (0 : Int) ≤ (k : Int) := by omega
      have r2 : (k : Int) < (xs.length : Int) := by omega
      have hen := encL_len (xs.take k)
      have hen2 : (xs.take k).length ≤ 1000000 := by rw [List.length_take]; omega
      have hsz := hbl.size
      cases hv : validR xs[k]
      · go_wp2_with (first | (go_at_call 42; refine (valid_any _ _).mono ?_; rintro e w1 ⟨rfl, rfl⟩) | (go_at_call 77; refine (tail_any _ _ (by omega)).mono ?_; rintro e w1 ⟨rfl, rfl⟩) | (at_builtin; refine wpList_app rfl _ _ 22 5 .u8 1 rfl Try.underlying22 el8 w.heap.size _ _ (encL (xs.take k)) _ (Own.kept hown ((Below.refl _ _).alloc (Nat.le_refl _) _)) (Rd.lit1 _ _ _ _ _ (by simp)) rfl rfl (by simp [maxLen]; omega) (by simp; omega) (by simp; omega) ?_; intro v' w1 hown' hgrow _) | (at_builtin; refine wpList_app rfl _ _ 22 5 .u8 1 rfl Try.underlying22 el8 w.heap.size _ _ (encL (xs.take k)) _ (Own.kept hown ((Below.refl _ _).alloc (Nat.le_refl _) _)) (Rd.lit2 _ _ _ _ _ _ (by simp)) rfl rfl (by simp [maxLen]; omega) (by simp; omega) (by simp; omega) ?_; intro v' w1 hown' hgrow _) | (at_builtin; refine wpList_app rfl _ _ 22 5 .u8 1 rfl Try.underlying22 el8 w.heap.size _ _ (encL (xs.take k)) _ (Own.kept hown ((Below.refl _ _).alloc (Nat.le_refl _) _)) (Rd.lit3 _ _ _ _ _ _ _ (by simp)) rfl rfl (by simp [maxLen]; omega) (by simp; omega) (by simp; omega) ?_; intro v' w1 hown' hgrow _) | (at_builtin; refine wpList_app rfl _ _ 22 5 .u8 1 rfl Try.underlying22 el8 w.heap.size _ _ (encL (xs.take k)) _ (Own.kept hown ((Below.refl _ _).alloc (Nat.le_refl _) _)) (Rd.lit4 _ _ _ _ _ _ _ _ (by simp)) rfl rfl (by simp [maxLen]; omega) (by simp; omega) (by simp; omega) ?_; intro v' w1 hown' hgrow _))
        have hbel : Below w.heap.size w w1 := hbl.trans (((Below.refl _ _).alloc hbl.size _).trans hgrow)
        have ho : Own w1 w.heap.size 5 .u8 v' (encL (xs.take (k + 1))) := by
          rw [encL_succ xs k hlt]
          rw [enc1, hv]; exact hown'
        clear hown' hgrow
        go_roundw
        case rel => first | exact ⟨k + 1, by omega, by go_num, hbel, ho⟩ | ((repeat apply Exists.intro); exact ⟨⟨k + 1, by omega, by go_num, hbel, ho⟩, rfl⟩)
        case measure => simp [intOf]; omega
      have hr : 0 ≤ xs[k] ∧ xs[k] ≤ 1114111 := by simp [validR] at hv; omega
      by_cases s1 : xs[k] < 128
      · go_wp2_with (first | (go_at_call 42; refine (valid_any _ _).mono ?_; rintro e w1 ⟨rfl, rfl⟩) | (go_at_call 77; refine (tail_any _ _ (by omega)).mono ?_; rintro e w1 ⟨rfl, rfl⟩) | (at_builtin; refine wpList_app rfl _ _ 22 5 .u8 1 rfl Try.underlying22 el8 w.heap.size _ _ (encL (xs.take k)) _ (Own.kept hown ((Below.refl _ _).alloc (Nat.le_refl _) _)) (Rd.lit1 _ _ _ _ _ (by simp)) rfl rfl (by simp [maxLen]; omega) (by simp; omega) (by simp; omega) ?_; intro v' w1 hown' hgrow _) | (at_builtin; refine wpList_app rfl _ _ 22 5 .u8 1 rfl Try.underlying22 el8 w.heap.size _ _ (encL (xs.take k)) _ (Own.kept hown ((Below.refl _ _).alloc (Nat.le_refl _) _)) (Rd.lit2 _ _ _ _ _ _ (by simp)) rfl rfl (by simp [maxLen]; omega) (by simp; omega) (by simp; omega) ?_; intro v' w1 hown' hgrow _) | (at_builtin; refine wpList_app rfl _ _ 22 5 .u8 1 rfl Try.underlying22 el8 w.heap.size _ _ (encL (xs.take k)) _ (Own.kept hown ((Below.refl _ _).alloc (Nat.le_refl _) _)) (Rd.lit3 _ _ _ _ _ _ _ (by simp)) rfl rfl (by simp [maxLen]; omega) (by simp; omega) (by simp; omega) ?_; intro v' w1 hown' hgrow _) | (at_builtin; refine wpList_app rfl _ _ 22 5 .u8 1 rfl Try.underlying22 el8 w.heap.size _ _ (encL (xs.take k)) _ (Own.kept hown ((Below.refl _ _).alloc (Nat.le_refl _) _)) (Rd.lit4 _ _ _ _ _ _ _ _ (by simp)) rfl rfl (by simp [maxLen]; omega) (by simp; omega) (by simp; omega) ?_; intro v' w1 hown' hgrow _))
        have hbel : Below w.heap.size w w1 := hbl.trans (((Below.refl _ _).alloc hbl.size _).trans hgrow)
        have ho : Own w1 w.heap.size 5 .u8 v' (encL (xs.take (k + 1))) := by
          rw [encL_succ xs k hlt]
          rw [enc1, hv, if_pos rfl, enc0, if_pos (by omega)]; exact hown'
        clear hown' hgrow
        go_roundw
        case rel => first | exact ⟨k + 1, by omega, by go_num, hbel, ho⟩ | ((repeat apply Exists.intro); exact ⟨⟨k + 1, by omega, by go_num, hbel, ho⟩, rfl⟩)
        case measure => simp [intOf]; omega
      by_cases s2 : xs[k] < 2048
      · go_wp2_with (first | (go_at_call 42; refine (valid_any _ _).mono ?_; rintro e w1 ⟨rfl, rfl⟩) | (go_at_call 77; refine (tail_any _ _ (by omega)).mono ?_; rintro e w1 ⟨rfl, rfl⟩) | (at_builtin; refine wpList_app rfl _ _ 22 5 .u8 1 rfl Try.underlying22 el8 w.heap.size _ _ (encL (xs.take k)) _ (Own.kept hown ((Below.refl _ _).alloc (Nat.le_refl _) _)) (Rd.lit1 _ _ _ _ _ (by simp)) rfl rfl (by simp [maxLen]; omega) (by simp; omega) (by simp; omega) ?_; intro v' w1 hown' hgrow _) | (at_builtin; refine wpList_app rfl _ _ 22 5 .u8 1 rfl Try.underlying22 el8 w.heap.size _ _ (encL (xs.take k)) _ (Own.kept hown ((Below.refl _ _).alloc (Nat.le_refl _) _)) (Rd.lit2 _ _ _ _ _ _ (by simp)) rfl rfl (by simp [maxLen]; omega) (by simp; omega) (by simp; omega) ?_; intro v' w1 hown' hgrow _) | (at_builtin; refine wpList_app rfl _ _ 22 5 .u8 1 rfl Try.underlying22 el8 w.heap.size _ _ (encL (xs.take k)) _ (Own.kept hown ((Below.refl _ _).alloc (Nat.le_refl _) _)) (Rd.lit3 _ _ _ _ _ _ _ (by simp)) rfl rfl (by simp [maxLen]; omega) (by simp; omega) (by simp; omega) ?_; intro v' w1 hown' hgrow _) | (at_builtin; refine wpList_app rfl _ _ 22 5 .u8 1 rfl Try.underlying22 el8 w.heap.size _ _ (encL (xs.take k)) _ (Own.kept hown ((Below.refl _ _).alloc (Nat.le_refl _) _)) (Rd.lit4 _ _ _ _ _ _ _ _ (by simp)) rfl rfl (by simp [maxLen]; omega) (by simp; omega) (by simp; omega) ?_; intro v' w1 hown' hgrow _))
        have hbel : Below w.heap.size w w1 := hbl.trans (((Below.refl _ _).alloc hbl.size _).trans hgrow)
        have ho : Own w1 w.heap.size 5 .u8 v' (encL (xs.take (k + 1))) := by
          rw [encL_succ xs k hlt]
          rw [enc1, hv, if_pos rfl, enc0, if_neg (by omega), if_pos (by omega)]; exact hown'
        clear hown' hgrow
        go_roundw
        case rel => first | exact ⟨k + 1, by omega, by go_num, hbel, ho⟩ | ((repeat apply Exists.intro); exact ⟨⟨k + 1, by omega, by go_num, hbel, ho⟩, rfl⟩)
        case measure => simp [intOf]; omega
      by_cases s3 : xs[k] < 65536
      · go_wp2_with (first | (go_at_call 42; refine (valid_any _ _).mono ?_; rintro e w1 ⟨rfl, rfl⟩) | (go_at_call 77; refine (tail_any _ _ (by omega)).mono ?_; rintro e w1 ⟨rfl, rfl⟩) | (at_builtin; refine wpList_app rfl _ _ 22 5 .u8 1 rfl Try.underlying22 el8 w.heap.size _ _ (encL (xs.take k)) _ (Own.kept hown ((Below.refl _ _).alloc (Nat.le_refl _) _)) (Rd.lit1 _ _ _ _ _ (by simp)) rfl rfl (by simp [maxLen]; omega) (by simp; omega) (by simp; omega) ?_; intro v' w1 hown' hgrow _) | (at_builtin; refine wpList_app rfl _ _ 22 5 .u8 1 rfl Try.underlying22 el8 w.heap.size _ _ (encL (xs.take k)) _ (Own.kept hown ((Below.refl _ _).alloc (Nat.le_refl _) _)) (Rd.lit2 _ _ _ _ _ _ (by simp)) rfl rfl (by simp [maxLen]; omega) (by simp; omega) (by simp; omega) ?_; intro v' w1 hown' hgrow _) | (at_builtin; refine wpList_app rfl _ _ 22 5 .u8 1 rfl Try.underlying22 el8 w.heap.size _ _ (encL (xs.take k)) _ (Own.kept hown ((Below.refl _ _).alloc (Nat.le_refl _) _)) (Rd.lit3 _ _ _ _ _ _ _ (by simp)) rfl rfl (by simp [maxLen]; omega) (by simp; omega) (by simp; omega) ?_; intro v' w1 hown' hgrow _) | (at_builtin; refine wpList_app rfl _ _ 22 5 .u8 1 rfl Try.underlying22 el8 w.heap.size _ _ (encL (xs.take k)) _ (Own.kept hown ((Below.refl _ _).alloc (Nat.le_refl _) _)) (Rd.lit4 _ _ _ _ _ _ _ _ (by simp)) rfl rfl (by simp [maxLen]; omega) (by simp; omega) (by simp; omega) ?_; intro v' w1 hown' hgrow _))
        have hbel : Below w.heap.size w w1 := hbl.trans (((Below.refl _ _).alloc hbl.size _).trans hgrow)
        have ho : Own w1 w.heap.size 5 .u8 v' (encL (xs.take (k + 1))) := by
          rw [encL_succ xs k hlt]
          rw [enc1, hv, if_pos rfl, enc0, if_neg (by omega), if_neg (by omega), if_pos (by omega)]; exact hown'
        clear hown' hgrow
        go_roundw
        case rel => first | exact ⟨k + 1, by omega, by go_num, hbel, ho⟩ | ((repeat apply Exists.intro); exact ⟨⟨k + 1, by omega, by go_num, hbel, ho⟩, rfl⟩)
        case measure => simp [intOf]; omega
      · go_wp2_with (first | (go_at_call 42; refine (valid_any _ _).mono ?_; rintro e w1 ⟨rfl, rfl⟩) | (go_at_call 77; refine (tail_any _ _ (by omega)).mono ?_; rintro e w1 ⟨rfl, rfl⟩) | (at_builtin; refine wpList_app rfl _ _ 22 5 .u8 1 rfl Try.underlying22 el8 w.heap.size _ _ (encL (xs.take k)) _ (Own.kept hown ((Below.refl _ _).alloc (Nat.le_refl _) _)) (Rd.lit1 _ _ _ _ _ (by simp)) rfl rfl (by simp [maxLen]; omega) (by simp; omega) (by simp; omega) ?_; intro v' w1 hown' hgrow _) | (at_builtin; refine wpList_app rfl _ _ 22 5 .u8 1 rfl Try.underlying22 el8 w.heap.size _ _ (encL (xs.take k)) _ (Own.kept hown ((Below.refl _ _).alloc (Nat.le_refl _) _)) (Rd.lit2 _ _ _ _ _ _ (by simp)) rfl rfl (by simp [maxLen]; omega) (by simp; omega) (by simp; omega) ?_; intro v' w1 hown' hgrow _) | (at_builtin; refine wpList_app rfl _ _ 22 5 .u8 1 rfl Try.underlying22 el8 w.heap.size _ _ (encL (xs.take k)) _ (Own.kept hown ((Below.refl _ _).alloc (Nat.le_refl _) _)) (Rd.lit3 _ _ _ _ _ _ _ (by simp)) rfl rfl (by simp [maxLen]; omega) (by simp; omega) (by simp; omega) ?_; intro v' w1 hown' hgrow _) | (at_builtin; refine wpList_app rfl _ _ 22 5 .u8 1 rfl Try.underlying22 el8 w.heap.size _ _ (encL (xs.take k)) _ (Own.kept hown ((Below.refl _ _).alloc (Nat.le_refl _) _)) (Rd.lit4 _ _ _ _ _ _ _ _ (by simp)) rfl rfl (by simp [maxLen]; omega) (by simp; omega) (by simp; omega) ?_; intro v' w1 hown' hgrow _))
        have hbel : Below w.heap.size w w1 := hbl.trans (((Below.refl _ _).alloc hbl.size _).trans hgrow)
        have ho : Own w1 w.heap.size 5 .u8 v' (encL (xs.take (k + 1))) := by
          rw [encL_succ xs k hlt]
          rw [enc1, hv, if_pos rfl, enc0, if_neg (by omega), if_neg (by omega), if_neg (by omega)]; exact hown'
        clear hown' hgrow
        go_roundw
        case rel => first | exact ⟨k + 1, by omega, by go_num, hbel, ho⟩ | ((repeat apply Exists.intro); exact ⟨⟨k + 1, by omega, by go_num, hbel, ho⟩, rfl⟩)
        case measure => simp [intOf]; omega
    · go_wp2_with fail
      go_ret
      rw [List.take_of_length_le (by omega)] at hown
      exact ⟨_, rfl, hown, hbl⟩

end Go.Proofs.Ytpkkfcfkhiaggaa
