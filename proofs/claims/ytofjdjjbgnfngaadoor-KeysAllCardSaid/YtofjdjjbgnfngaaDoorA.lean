/- keys: which keys are valid; the small functions. -/
import Derived.Test.YtofjdjjbgnfngaaDoorTab
import Derived.Laws.Runes
import Derived.Outline
set_option linter.unusedSimpArgs false
set_option linter.unusedVariables false
set_option linter.unnecessarySimpa false
namespace Go.Proofs.YtofjdjjbgnfngaaDoor
open Go.RowKit

def validK (code rune : Int) : Bool := decide ((code = 1 ∧ 32 ≤ rune ∧ rune ≠ 127 ∧ rune ≤ 1114111 ∧ (rune < 55296 ∨ 57343 < rune)) ∨ (2 ≤ code ∧ code ≤ 27 ∧ rune = 0))
theorem size_mk (l : List UInt8) : (⟨l.toArray⟩ : ByteArray).size = l.length := by simp [ByteArray.size]
theorem vrune (r : Int) (w : World) : Calls Tryd.prog 20 #[.int .i32 r] w fun e w' => e = .returned (.bool (Lib.validRune r)) ∧ Below w.heap.size w w' := (Tryd.utf8_ValidRune r w).mono fun e w' ⟨he, hw⟩ => ⟨he, hw ▸ Below.refl _ _⟩
set_option maxHeartbeats 4000000 in
theorem valid_any (code rune : Int) (sh al ct : Bool) (w : World) : Calls Tryd.prog 8 #[.agg #[.int .i64 code, .int .i32 rune, .bool sh, .bool al, .bool ct]] w fun e w' => e = .returned (.bool (validK code rune)) ∧ Below w.heap.size w w' := by
  go_enter Tryd.func8, Tryd.ntmps8
  go_wp2_with (first | (go_at_call 20; (with_reducible refine (vrune _ _).mono ?_); rintro e w1 ⟨rfl, hb⟩; (first | obtain ⟨X, rfl⟩ := GW.of2 hb | obtain ⟨X, rfl⟩ := GW.of hb); clear hb))
  all_goals
    go_ret
    exact ⟨ret_bool (by rw [Bool.eq_iff_iff]; simp_all [validK, Lib.validRune] <;> omega), (by repeat (first | with_reducible exact Below.refl _ _ | with_reducible assumption | with_reducible exact GW.grow _ | with_reducible refine bl_alloc ?_ _ | with_reducible refine Below.drew ?_ | (with_reducible refine Below.setCell ?_ ?_ _; rotate_left; focus (simp; first | done | omega)) | with_reducible refine bl_trans ?_ (GW.grow _) | (with_reducible refine bl_trans ?_ (by assumption))))⟩
set_option maxHeartbeats 4000000 in
theorem rvalid_any (code rune : Int) (sh al ct : Bool) (w : World) : Calls Tryd.prog 9 #[.agg #[.int .i64 code, .int .i32 rune, .bool sh, .bool al, .bool ct]] w fun e w' => e = .returned (.bool (validK code rune)) ∧ Below w.heap.size w w' := by
  go_enter Tryd.func9, Tryd.ntmps9
  go_wp2_with fail
  all_goals
    go_ret
    exact ⟨ret_bool (by rw [Bool.eq_iff_iff]; simp_all [validK] <;> omega), (by repeat (first | with_reducible exact Below.refl _ _ | with_reducible assumption | with_reducible exact GW.grow _ | with_reducible refine bl_alloc ?_ _ | with_reducible refine Below.drew ?_ | (with_reducible refine Below.setCell ?_ ?_ _; rotate_left; focus (simp; first | done | omega)) | with_reducible refine bl_trans ?_ (GW.grow _) | (with_reducible refine bl_trans ?_ (by assumption))))⟩
def modN (sh al ct : Bool) : Int := 1 + (if sh then 1 else 0) + (if al then 2 else 0) + (if ct then 4 else 0)
theorem mod_any (code rune : Int) (sh al ct : Bool) (w : World) : Calls Tryd.prog 35 #[.agg #[.int .i64 code, .int .i32 rune, .bool sh, .bool al, .bool ct]] w fun e w' => e = .returned (.int .i64 (modN sh al ct)) ∧ Below w.heap.size w w' := by
  cases sh <;> cases al <;> cases ct
  all_goals
    go_enter Tryd.func35, Tryd.ntmps35
    go_wp2_with fail
    go_ret
    exact ⟨rfl, (by repeat (first | with_reducible exact Below.refl _ _ | with_reducible assumption | with_reducible exact GW.grow _ | with_reducible refine bl_alloc ?_ _ | with_reducible refine Below.drew ?_ | (with_reducible refine Below.setCell ?_ ?_ _; rotate_left; focus (simp; first | done | omega)) | with_reducible refine bl_trans ?_ (GW.grow _) | (with_reducible refine bl_trans ?_ (by assumption))))⟩
theorem mod_range (sh al ct : Bool) : 1 ≤ modN sh al ct ∧ modN sh al ct ≤ 8 := by cases sh <;> cases al <;> cases ct <;> decide
def numS (n : Int) : ByteArray := ⟨(Lib.itoa n).toArray⟩
theorem numS_size (n : Int) (h0 : -9223372036854775808 ≤ n) (h1 : n ≤ 9223372036854775807) : (numS n).size ≤ 21 := by
  have := Lib.itoa_length_le n h0 h1
  unfold numS; rw [size_mk]; omega
theorem itoa_s (n : Int) (w : World) (h0 : -9223372036854775808 ≤ n) (h1 : n ≤ 9223372036854775807) (ht : Tab w) : Calls Tryd.prog 33 #[.int .i64 n] w fun e w' => e = .returned (.string (numS n)) ∧ Below w.heap.size w w' := itoa_any n w h0 h1 ht
def letterS (m : Int) (c : ByteArray) (o : Bool) : ByteArray := if 1 < m then ((⟨#[27, 91, 49, 59]⟩ : ByteArray) ++ numS m) ++ c else if o = true then (⟨#[27, 79]⟩ : ByteArray) ++ c else (⟨#[27, 91]⟩ : ByteArray) ++ c
def numberedS (m n : Int) : ByteArray := if 1 < m then (((⟨#[27, 91]⟩ : ByteArray) ++ numS n) ++ ((⟨#[59]⟩ : ByteArray) ++ numS m)) ++ (⟨#[126]⟩ : ByteArray) else ((⟨#[27, 91]⟩ : ByteArray) ++ numS n) ++ (⟨#[126]⟩ : ByteArray)
set_option maxHeartbeats 4000000 in
theorem letter_any (code rune : Int) (sh al ct : Bool) (c : ByteArray) (o : Bool) (w : World) (ht : Tab w) (hc : c.size ≤ 100) : Calls Tryd.prog 27 #[.agg #[.int .i64 code, .int .i32 rune, .bool sh, .bool al, .bool ct], .string c, .bool o] w fun e w' => e = .returned (.string (letterS (modN sh al ct) c o)) ∧ Below w.heap.size w w' := by
  have cM := fun W => mod_any code rune sh al ct W
  have hm := mod_range sh al ct
  generalize modN sh al ct = m at *
  have k1 := numS_size m (by omega) (by omega)
  have c1 := fun W (ht : Tab W) => itoa_s m W (by omega) (by omega) ht
  have hB := bl_alloc (Below.refl _ w) (.cells #[.int .i64 code, .int .i32 rune, .bool sh, .bool al, .bool ct] 24)
  unfold letterS
  generalize numS m = s1 at *
  by_cases h1 : 1 < m
  · rw [if_pos h1]
    go_enter Tryd.func27, Tryd.ntmps27
    go_wp2_with (first | (go_at_call 35; (with_reducible refine (cM _).mono ?_); rintro e w1 ⟨rfl, hb⟩; (first | obtain ⟨X, rfl⟩ := GW.of2 hb | obtain ⟨X, rfl⟩ := GW.of hb); clear hb) | (go_at_call 33; (with_reducible refine (c1 _ (ht.below (bl_trans hB (GW.grow _)))).mono ?_); rintro e w1 ⟨rfl, hb⟩; (first | obtain ⟨X, rfl⟩ := GW.of2 hb | obtain ⟨X, rfl⟩ := GW.of hb); clear hb))
    go_ret
    exact ⟨rfl, (by repeat (first | with_reducible exact Below.refl _ _ | with_reducible assumption | with_reducible exact GW.grow _ | with_reducible refine bl_alloc ?_ _ | with_reducible refine Below.drew ?_ | (with_reducible refine Below.setCell ?_ ?_ _; rotate_left; focus (simp; first | done | omega)) | with_reducible refine bl_trans ?_ (GW.grow _) | (with_reducible refine bl_trans ?_ (by assumption))))⟩
  · rw [if_neg h1]
    cases o
    all_goals
      go_enter Tryd.func27, Tryd.ntmps27
      go_wp2_with (first | (go_at_call 35; (with_reducible refine (cM _).mono ?_); rintro e w1 ⟨rfl, hb⟩; (first | obtain ⟨X, rfl⟩ := GW.of2 hb | obtain ⟨X, rfl⟩ := GW.of hb); clear hb))
      go_ret
      exact ⟨rfl, (by repeat (first | with_reducible exact Below.refl _ _ | with_reducible assumption | with_reducible exact GW.grow _ | with_reducible refine bl_alloc ?_ _ | with_reducible refine Below.drew ?_ | (with_reducible refine Below.setCell ?_ ?_ _; rotate_left; focus (simp; first | done | omega)) | with_reducible refine bl_trans ?_ (GW.grow _) | (with_reducible refine bl_trans ?_ (by assumption))))⟩
set_option maxHeartbeats 4000000 in
theorem numbered_any (code rune : Int) (sh al ct : Bool) (n : Int) (w : World) (ht : Tab w) (hn : 0 ≤ n ∧ n ≤ 99) : Calls Tryd.prog 28 #[.agg #[.int .i64 code, .int .i32 rune, .bool sh, .bool al, .bool ct], .int .i64 n] w fun e w' => e = .returned (.string (numberedS (modN sh al ct) n)) ∧ Below w.heap.size w w' := by
  have cM := fun W => mod_any code rune sh al ct W
  have hm := mod_range sh al ct
  generalize modN sh al ct = m at *
  have k1 := numS_size m (by omega) (by omega)
  have c1 := fun W (ht : Tab W) => itoa_s m W (by omega) (by omega) ht
  have k2 := numS_size n (by omega) (by omega)
  have c2 := fun W (ht : Tab W) => itoa_s n W (by omega) (by omega) ht
  have hB := bl_alloc (Below.refl _ w) (.cells #[.int .i64 code, .int .i32 rune, .bool sh, .bool al, .bool ct] 24)
  unfold numberedS
  generalize numS m = s1 at *
  generalize numS n = s2 at *
  by_cases h1 : 1 < m
  · rw [if_pos h1]
    go_enter Tryd.func28, Tryd.ntmps28
    go_wp2_with (first | (go_at_call 33; (with_reducible refine (c2 _ (ht.below hB)).mono ?_); rintro e w1 ⟨rfl, hb⟩; (first | obtain ⟨X, rfl⟩ := GW.of2 hb | obtain ⟨X, rfl⟩ := GW.of hb); clear hb) | (go_at_call 35; (with_reducible refine (cM _).mono ?_); rintro e w1 ⟨rfl, hb⟩; (first | obtain ⟨X, rfl⟩ := GW.of2 hb | obtain ⟨X, rfl⟩ := GW.of hb); clear hb) | (go_at_call 33; (with_reducible refine (c1 _ (ht.below (bl_trans hB (GW.grow _)))).mono ?_); rintro e w1 ⟨rfl, hb⟩; (first | obtain ⟨X, rfl⟩ := GW.of2 hb | obtain ⟨X, rfl⟩ := GW.of hb); clear hb))
    go_ret
    exact ⟨rfl, (by repeat (first | with_reducible exact Below.refl _ _ | with_reducible assumption | with_reducible exact GW.grow _ | with_reducible refine bl_alloc ?_ _ | with_reducible refine Below.drew ?_ | (with_reducible refine Below.setCell ?_ ?_ _; rotate_left; focus (simp; first | done | omega)) | with_reducible refine bl_trans ?_ (GW.grow _) | (with_reducible refine bl_trans ?_ (by assumption))))⟩
  · rw [if_neg h1]
    go_enter Tryd.func28, Tryd.ntmps28
    go_wp2_with (first | (go_at_call 33; (with_reducible refine (c2 _ (ht.below hB)).mono ?_); rintro e w1 ⟨rfl, hb⟩; (first | obtain ⟨X, rfl⟩ := GW.of2 hb | obtain ⟨X, rfl⟩ := GW.of hb); clear hb) | (go_at_call 35; (with_reducible refine (cM _).mono ?_); rintro e w1 ⟨rfl, hb⟩; (first | obtain ⟨X, rfl⟩ := GW.of2 hb | obtain ⟨X, rfl⟩ := GW.of hb); clear hb))
    go_ret
    exact ⟨rfl, (by repeat (first | with_reducible exact Below.refl _ _ | with_reducible assumption | with_reducible exact GW.grow _ | with_reducible refine bl_alloc ?_ _ | with_reducible refine Below.drew ?_ | (with_reducible refine Below.setCell ?_ ?_ _; rotate_left; focus (simp; first | done | omega)) | with_reducible refine bl_trans ?_ (GW.grow _) | (with_reducible refine bl_trans ?_ (by assumption))))⟩
def controlN (r : Int) : Int × Bool := if 97 ≤ r ∧ r ≤ 122 then (r - 96, true) else if (65 ≤ r ∧ r ≤ 90) ∨ r = 64 ∨ (91 ≤ r ∧ r ≤ 95) then (r - 64, true) else if r = 32 then (0, true) else if r = 63 then (127, true) else (0, false)
theorem control_any (r : Int) (w : World) (hr : -2147483648 ≤ r ∧ r ≤ 2147483647) : Calls Tryd.prog 36 #[.int .i32 r] w fun e w' => e = .returned (.tuple #[.int .u8 (controlN r).1, .bool (controlN r).2]) ∧ Below w.heap.size w w' := by
  by_cases h1 : 97 ≤ r ∧ r ≤ 122
  · have e : controlN r = (r - 96, true) := if_pos h1
    rw [e]
    obtain ⟨h2, h3⟩ := h1
    have t1 : IntKind.i32.wrap (r - 97) = r - 97 := by simp [IntKind.wrap, IntKind.signed, IntKind.bits]; omega
    have t2 : IntKind.i32.wrap (r - 97 + 1) = r - 96 := by simp [IntKind.wrap, IntKind.signed, IntKind.bits]; omega
    have t3 : IntKind.u8.wrap (r - 96) = r - 96 := by simp [IntKind.wrap, IntKind.signed, IntKind.bits]; omega
    go_enter Tryd.func36, Tryd.ntmps36
    go_wp2_with fail
    go_ret2
    exact ⟨rfl, (by repeat (first | with_reducible exact Below.refl _ _ | with_reducible assumption | with_reducible exact GW.grow _ | with_reducible refine bl_alloc ?_ _ | with_reducible refine Below.drew ?_ | (with_reducible refine Below.setCell ?_ ?_ _; rotate_left; focus (simp; first | done | omega)) | with_reducible refine bl_trans ?_ (GW.grow _) | (with_reducible refine bl_trans ?_ (by assumption))))⟩
  by_cases h2 : (65 ≤ r ∧ r ≤ 90) ∨ r = 64 ∨ (91 ≤ r ∧ r ≤ 95)
  · have e : controlN r = (r - 64, true) := (if_neg h1).trans (if_pos h2)
    rw [e]
    have t1 : IntKind.i32.wrap (r - 64) = r - 64 := by simp [IntKind.wrap, IntKind.signed, IntKind.bits]; omega
    have t3 : IntKind.u8.wrap (r - 64) = r - 64 := by simp [IntKind.wrap, IntKind.signed, IntKind.bits]; omega
    have h5 : ¬ 97 ≤ r := by omega
    clear h1 e
    rcases h2 with ⟨h3, h4⟩ | rfl | ⟨h3, h4⟩
    · go_enter Tryd.func36, Tryd.ntmps36
      go_wp2_with fail
      go_ret2
      exact ⟨rfl, (by repeat (first | with_reducible exact Below.refl _ _ | with_reducible assumption | with_reducible exact GW.grow _ | with_reducible refine bl_alloc ?_ _ | with_reducible refine Below.drew ?_ | (with_reducible refine Below.setCell ?_ ?_ _; rotate_left; focus (simp; first | done | omega)) | with_reducible refine bl_trans ?_ (GW.grow _) | (with_reducible refine bl_trans ?_ (by assumption))))⟩
    · go_enter Tryd.func36, Tryd.ntmps36
      go_wp2_with fail
      go_ret2
      exact ⟨rfl, (by repeat (first | with_reducible exact Below.refl _ _ | with_reducible assumption | with_reducible exact GW.grow _ | with_reducible refine bl_alloc ?_ _ | with_reducible refine Below.drew ?_ | (with_reducible refine Below.setCell ?_ ?_ _; rotate_left; focus (simp; first | done | omega)) | with_reducible refine bl_trans ?_ (GW.grow _) | (with_reducible refine bl_trans ?_ (by assumption))))⟩
    · have h6 : ¬ r ≤ 90 := by omega
      have h7 : (r == 64) = false := by simp; omega
      have h8 : 65 ≤ r := by omega
      go_enter Tryd.func36, Tryd.ntmps36
      go_wp2_with fail
      go_ret2
      exact ⟨rfl, (by repeat (first | with_reducible exact Below.refl _ _ | with_reducible assumption | with_reducible exact GW.grow _ | with_reducible refine bl_alloc ?_ _ | with_reducible refine Below.drew ?_ | (with_reducible refine Below.setCell ?_ ?_ _; rotate_left; focus (simp; first | done | omega)) | with_reducible refine bl_trans ?_ (GW.grow _) | (with_reducible refine bl_trans ?_ (by assumption))))⟩
  by_cases h3 : r = 32
  · subst h3
    go_enter Tryd.func36, Tryd.ntmps36
    go_wp2_with fail
    go_ret2
    exact ⟨rfl, (by repeat (first | with_reducible exact Below.refl _ _ | with_reducible assumption | with_reducible exact GW.grow _ | with_reducible refine bl_alloc ?_ _ | with_reducible refine Below.drew ?_ | (with_reducible refine Below.setCell ?_ ?_ _; rotate_left; focus (simp; first | done | omega)) | with_reducible refine bl_trans ?_ (GW.grow _) | (with_reducible refine bl_trans ?_ (by assumption))))⟩
  by_cases h4 : r = 63
  · subst h4
    go_enter Tryd.func36, Tryd.ntmps36
    go_wp2_with fail
    go_ret2
    exact ⟨rfl, (by repeat (first | with_reducible exact Below.refl _ _ | with_reducible assumption | with_reducible exact GW.grow _ | with_reducible refine bl_alloc ?_ _ | with_reducible refine Below.drew ?_ | (with_reducible refine Below.setCell ?_ ?_ _; rotate_left; focus (simp; first | done | omega)) | with_reducible refine bl_trans ?_ (GW.grow _) | (with_reducible refine bl_trans ?_ (by assumption))))⟩
  · have e : controlN r = (0, false) := (if_neg h1).trans ((if_neg h2).trans ((if_neg h3).trans (if_neg h4)))
    rw [e]
    have g3 : (r == 32) = false := by simpa using h3
    have g4 : (r == 63) = false := by simpa using h4
    have g5 : (r == 64) = false := by simp; omega
    by_cases q1 : 97 ≤ r
    · have q2 : ¬ r ≤ 122 := by omega
      have q3 : 65 ≤ r := by omega
      have q4 : ¬ r ≤ 90 := by omega
      have q5 : 91 ≤ r := by omega
      have q6 : ¬ r ≤ 95 := by omega
      go_enter Tryd.func36, Tryd.ntmps36
      go_wp2_with fail
      go_ret2
      exact ⟨rfl, (by repeat (first | with_reducible exact Below.refl _ _ | with_reducible assumption | with_reducible exact GW.grow _ | with_reducible refine bl_alloc ?_ _ | with_reducible refine Below.drew ?_ | (with_reducible refine Below.setCell ?_ ?_ _; rotate_left; focus (simp; first | done | omega)) | with_reducible refine bl_trans ?_ (GW.grow _) | (with_reducible refine bl_trans ?_ (by assumption))))⟩
    · by_cases q3 : 65 ≤ r
      · have q4 : ¬ r ≤ 90 := by omega
        have q5 : 91 ≤ r := by omega
        have q6 : ¬ r ≤ 95 := by omega
        go_enter Tryd.func36, Tryd.ntmps36
        go_wp2_with fail
        go_ret2
        exact ⟨rfl, (by repeat (first | with_reducible exact Below.refl _ _ | with_reducible assumption | with_reducible exact GW.grow _ | with_reducible refine bl_alloc ?_ _ | with_reducible refine Below.drew ?_ | (with_reducible refine Below.setCell ?_ ?_ _; rotate_left; focus (simp; first | done | omega)) | with_reducible refine bl_trans ?_ (GW.grow _) | (with_reducible refine bl_trans ?_ (by assumption))))⟩
      · have q5 : ¬ 91 ≤ r := by omega
        go_enter Tryd.func36, Tryd.ntmps36
        go_wp2_with fail
        go_ret2
        exact ⟨rfl, (by repeat (first | with_reducible exact Below.refl _ _ | with_reducible assumption | with_reducible exact GW.grow _ | with_reducible refine bl_alloc ?_ _ | with_reducible refine Below.drew ?_ | (with_reducible refine Below.setCell ?_ ?_ _; rotate_left; focus (simp; first | done | omega)) | with_reducible refine bl_trans ?_ (GW.grow _) | (with_reducible refine bl_trans ?_ (by assumption))))⟩

end Go.Proofs.YtofjdjjbgnfngaaDoor
