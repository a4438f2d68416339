/- reply: the state, and what the terminal is: the program and the reference. -/
import Derived.Test.YtgaakkgelifgpaaDoorMo
import Derived.Test.YtgaakkgelifgpaaDoorDec
import Derived.Outline
set_option linter.unusedSimpArgs false
set_option linter.unusedVariables false
set_option linter.unnecessarySimpa false
namespace Go.Proofs.YtgaakkgelifgpaaDoor
open Go.RowKit

def attS (p : Int) : ByteArray := if p = 0 then ⟨#[27, 91, 63, 54, 50, 59, 50, 50, 99]⟩ else if p = 62 then ⟨#[27, 91, 62, 49, 59, 49, 48, 59, 48, 99]⟩ else ⟨#[]⟩
def attE (p : Int) : Int := if p = 0 ∨ p = 62 then 0 else 9
theorem att_any (p : Int) (w : World) : Calls Tryd.prog 21 #[.int .i32 p] w fun e w' => e = .returned (.tuple #[.string (attS p), .int .i64 (attE p)]) ∧ Below w.heap.size w w' := by
  go_enter Tryd.func21, Tryd.ntmps21
  go_wp2_with fail
  all_goals
    go_ret2
    exact ⟨by simp_all [attS, attE], (by repeat (first | with_reducible exact Below.refl _ _ | with_reducible assumption | with_reducible exact GW.grow _ | with_reducible refine bl_alloc ?_ _ | with_reducible refine Below.drew ?_ | (with_reducible refine Below.setCell ?_ ?_ _; rotate_left; focus (simp; first | done | omega)) | with_reducible refine bl_trans ?_ (GW.grow _) | (with_reducible refine bl_trans ?_ (by assumption))))⟩
theorem ratt_any (p : Int) (w : World) : Calls Tryd.prog 6 #[.int .i32 p] w fun e w' => e = .returned (.tuple #[.string (attS p), .int .i64 (attE p)]) ∧ Below w.heap.size w w' := by
  go_enter Tryd.func6, Tryd.ntmps6
  go_wp2_with fail
  all_goals
    go_ret2
    exact ⟨by simp_all [attS, attE], (by repeat (first | with_reducible exact Below.refl _ _ | with_reducible assumption | with_reducible exact GW.grow _ | with_reducible refine bl_alloc ?_ _ | with_reducible refine Below.drew ?_ | (with_reducible refine Below.setCell ?_ ?_ _; rotate_left; focus (simp; first | done | omega)) | with_reducible refine bl_trans ?_ (GW.grow _) | (with_reducible refine bl_trans ?_ (by assumption))))⟩
def numS (n : Int) : ByteArray := ⟨(Lib.itoa n).toArray⟩
theorem numS_size (n : Int) (h0 : -9223372036854775808 ≤ n) (h1 : n ≤ 9223372036854775807) : (numS n).size ≤ 21 := by
  have := Lib.itoa_length_le n h0 h1
  unfold numS; rw [size_mk]; omega
theorem itoa_s (n : Int) (w : World) (h0 : -9223372036854775808 ≤ n) (h1 : n ≤ 9223372036854775807) (ht : Tab w) : Calls Tryd.prog 34 #[.int .i64 n] w fun e w' => e = .returned (.string (numS n)) ∧ Below w.heap.size w w' := itoa_any n w h0 h1 ht
theorem dec_s (n : Int) (w : World) (h0 : 0 ≤ n) (h1 : n ≤ 1000000) : Calls Tryd.prog 23 #[.int .i64 n] w fun e w' => e = .returned (.string (numS n)) ∧ Below w.heap.size w w' := by
  obtain ⟨k, rfl⟩ : ∃ k : Nat, n = k := ⟨n.toNat, by omega⟩
  unfold numS
  rw [Lib.itoa_nonneg]
  exact decimal_any k w (by omega)
def posS (a b : Int) : ByteArray := ((((⟨#[27, 91]⟩ : ByteArray) ++ numS a) ++ (⟨#[59]⟩ : ByteArray)) ++ numS b) ++ (⟨#[82]⟩ : ByteArray)
def whereR (top r : Int) (o : Bool) : Int := max 1 ((if o then r - top else r) + 1)
def statS (n : Int) (rows cols top bottom : Int) (o : Bool) (r c : Int) (p : Bool) : ByteArray := if n = 5 then ⟨#[27, 91, 48, 110]⟩ else if n = 6 then (if Mo.validB rows cols top bottom r c p = true then posS (whereR top r o) (c + 1) else ⟨#[]⟩) else ⟨#[]⟩
def statE (n : Int) (rows cols top bottom : Int) (o : Bool) (r c : Int) (p : Bool) : Int := if n = 5 then 0 else if n = 6 then (if Mo.validB rows cols top bottom r c p = true then 0 else 2) else 9
set_option maxHeartbeats 2000000 in
theorem status_any (n : Int) (rows cols top bottom : Int) (o : Bool) (r c : Int) (p : Bool) (w : World) (ht : Tab w) : Calls Tryd.prog 16 #[.int .i64 n, .agg #[.int .i64 rows, .int .i64 cols, .int .i64 top, .int .i64 bottom, .bool o], .agg #[.int .i64 r, .int .i64 c, .bool p]] w fun e w' => e = .returned (.tuple #[.string (statS n rows cols top bottom o r c p), .int .i64 (statE n rows cols top bottom o r c p)]) ∧ Below w.heap.size w w' := by
  by_cases h5 : n = 5
  · subst h5
    go_enter Tryd.func16, Tryd.ntmps16
    go_wp2_with fail
    go_ret2
    exact ⟨rfl, (by repeat (first | with_reducible exact Below.refl _ _ | with_reducible assumption | with_reducible exact GW.grow _ | with_reducible refine bl_alloc ?_ _ | with_reducible refine Below.drew ?_ | (with_reducible refine Below.setCell ?_ ?_ _; rotate_left; focus (simp; first | done | omega)) | with_reducible refine bl_trans ?_ (GW.grow _) | (with_reducible refine bl_trans ?_ (by assumption))))⟩
  by_cases h6 : n = 6
  · subst h6
    cases hv : Mo.validB rows cols top bottom r c p
    · have e1 : statS 6 rows cols top bottom o r c p = ⟨#[]⟩ := by simp [statS, hv]
      have e2 : statE 6 rows cols top bottom o r c p = 2 := by simp [statE, hv]
      rw [e1, e2]
      go_enter Tryd.func16, Tryd.ntmps16
      go_wp2_with (first | (go_at_call 33; refine (Mo.where_err _ _ _ _ _ _ _ _ _ (by assumption)).mono ?_; rintro e w1 ⟨rfl, hb⟩; (first | obtain ⟨X, rfl⟩ := GW.of2 hb | obtain ⟨X, rfl⟩ := GW.of hb); clear hb))
      go_ret2
      exact ⟨rfl, (by repeat (first | with_reducible exact Below.refl _ _ | with_reducible assumption | with_reducible exact GW.grow _ | with_reducible refine bl_alloc ?_ _ | with_reducible refine Below.drew ?_ | (with_reducible refine Below.setCell ?_ ?_ _; rotate_left; focus (simp; first | done | omega)) | with_reducible refine bl_trans ?_ (GW.grow _) | (with_reducible refine bl_trans ?_ (by assumption))))⟩
    · have e1 : statS 6 rows cols top bottom o r c p = posS (whereR top r o) (c + 1) := by simp [statS, hv]
      have e2 : statE 6 rows cols top bottom o r c p = 0 := by simp [statE, hv]
      rw [e1, e2]
      have hf := Mo.valid_facts hv
      have cW := fun W => Mo.where_ok rows cols top bottom o r c p W hv
      have hx : (if o then r - top else r) ≤ 1000 ∧ -1000 ≤ (if o then r - top else r) := by split <;> omega
      have ha : 1 ≤ whereR top r o ∧ whereR top r o ≤ 2000 := by unfold whereR; omega
      unfold whereR at ha ⊢
      obtain ⟨x, hx0⟩ : ∃ x, (if o then r - top else r) = x := ⟨_, rfl⟩
      rw [hx0] at hx ha cW ⊢
      unfold posS
      have k1 := numS_size (max 1 (x + 1)) (by omega) (by omega)
      have k2 := numS_size (c + 1) (by omega) (by omega)
      have c1 := fun W (ht : Tab W) => itoa_s (max 1 (x + 1)) W (by omega) (by omega) ht
      have c2 := fun W (ht : Tab W) => itoa_s (c + 1) W (by omega) (by omega) ht
      generalize numS (max 1 (x + 1)) = s1 at *
      generalize numS (c + 1) = s2 at *
      have t1 : IntKind.i64.wrap (x + 1) = x + 1 := IntWalk.i64_in _ (by omega)
      have t2 : IntKind.i64.wrap (c + 1) = c + 1 := IntWalk.i64_in _ (by omega)
      go_enter Tryd.func16, Tryd.ntmps16
      go_wp2_with (first | (go_at_call 33; (with_reducible refine (cW _).mono ?_); rintro e w1 ⟨rfl, hb1⟩; have hl1 : Below w.heap.size w w1 := bl_trans (bl_alloc (bl_alloc (Below.refl _ _) _) _) hb1; have hk : Box w1 (w.heap.size + 1) _ _ := (hb1.block (w.heap.size + 1) (by simp)).trans (Box.new _ _ _ (by simp))) | (go_at_call 34; (with_reducible refine (c1 _ (ht.below hl1)).mono ?_); rintro e w2 ⟨rfl, hb2⟩; have hl2 : Below w.heap.size w w2 := bl_trans hl1 hb2) | (go_at_call 34; (with_reducible refine (c2 _ (ht.below hl2)).mono ?_); rintro e w3 ⟨rfl, hb3⟩))
      go_ret2
      exact ⟨rfl, bl_trans hl2 hb3⟩
  · have e1 : statS n rows cols top bottom o r c p = ⟨#[]⟩ := by simp [statS, h5, h6]
    have e2 : statE n rows cols top bottom o r c p = 9 := by simp [statE, h5, h6]
    rw [e1, e2]
    go_enter Tryd.func16, Tryd.ntmps16
    go_wp2_with fail
    go_ret2
    exact ⟨rfl, (by repeat (first | with_reducible exact Below.refl _ _ | with_reducible assumption | with_reducible exact GW.grow _ | with_reducible refine bl_alloc ?_ _ | with_reducible refine Below.drew ?_ | (with_reducible refine Below.setCell ?_ ?_ _; rotate_left; focus (simp; first | done | omega)) | with_reducible refine bl_trans ?_ (GW.grow _) | (with_reducible refine bl_trans ?_ (by assumption))))⟩

end Go.Proofs.YtgaakkgelifgpaaDoor
