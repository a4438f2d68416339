/- reply: Mode -/
import Derived.Test.YtgaakkgelifgpaaDoorRb
import Derived.Test.YtgaakkgelifgpaaDoorG
import Derived.Outline
set_option linter.unusedSimpArgs false
set_option linter.unusedVariables false
set_option linter.unnecessarySimpa false
namespace Go.Proofs.YtgaakkgelifgpaaDoor
open Go.RowKit

def asksM (m : Md) (p n : Int) : Bool := validM m && (decide (p = 0) || decide (p = 63)) && decide (0 ≤ n) && decide (n ≤ 9999)
def markS (p : Int) : ByteArray := if p = 63 then ⟨#[63]⟩ else ⟨#[]⟩
def modeT (p n k : Int) : ByteArray := (((((⟨#[27, 91]⟩ : ByteArray) ++ markS p) ++ numS n) ++ (⟨#[59]⟩ : ByteArray)) ++ numS k) ++ (⟨#[36, 121]⟩ : ByteArray)
def modeS (m : Md) (p n : Int) : ByteArray := if asksM m p n = true then modeT p n (getR m p n) else ⟨#[]⟩
def modeE (m : Md) (p n : Int) : Int := if asksM m p n = true then 0 else 2
theorem numS_dig (i : Nat) (h : i < 10) : numS (i : Int) = ⟨#[UInt8.ofNat (48 + i)]⟩ := by unfold numS; rw [Lib.itoa_nonneg, Lib.decDigits_one h]
theorem app_nil (s : ByteArray) : s ++ (⟨#[]⟩ : ByteArray) = s := by apply ByteArray.ext; simp
set_option maxHeartbeats 4000000 in
theorem mode_any (m : Md) (p n : Int) (w : World) (hg : Glob w) (ht : Tab w) : Calls Tryd.prog 20 #[.agg #[.bool m.aw, .bool m.ori, .bool m.ins, .bool m.vis, .bool m.app, .bool m.pas, .bool m.sgr, .int .i64 m.ptr, .int .i64 m.alt], .int .i32 p, .int .i64 n] w fun e w' => e = .returned (.tuple #[.string (modeS m p n), .int .i64 (modeE m p n)]) ∧ Below w.heap.size w w' := by
  have cG := fun W (hb : Below w.heap.size w W) => get_any m p n W (hg.below hb)
  cases hv : validM m
  · have e1 : modeS m p n = ⟨#[]⟩ := by simp [modeS, asksM, hv]
    have e2 : modeE m p n = 2 := by simp [modeE, asksM, hv]
    have e3 : getE m = 2 := by unfold getE; rw [hv]; rfl
    rw [e1, e2]
    rw [e3] at cG
    go_enter Tryd.func20, Tryd.ntmps20
    go_wp2_with (first | (go_at_call 40; (with_reducible refine (cG _ (bl_alloc (Below.refl _ _) _)).mono ?_); rintro e w1 ⟨rfl, hb1⟩))
    go_ret2
    exact ⟨rfl, bl_trans (bl_alloc (Below.refl _ _) _) hb1⟩
  · have e3 : getE m = 0 := by unfold getE; rw [hv]; rfl
    rw [e3] at cG
    by_cases hn : 0 ≤ n ∧ n ≤ 9999
    · obtain ⟨h0, h1⟩ := hn
      have h0' : ¬ n < 0 := by omega
      have h1' : ¬ 9999 < n := by omega
      by_cases hp : p = 63 ∨ p = 0
      · have e1 : modeS m p n = modeT p n (getR m p n) := by unfold modeS; rw [if_pos]; simp [asksM, hv, h0, h1]; omega
        have e2 : modeE m p n = 0 := by unfold modeE; rw [if_pos]; simp [asksM, hv, h0, h1]; omega
        rw [e1, e2]
        have hk : 0 ≤ getR m p n ∧ getR m p n ≤ 2 := by unfold getR; split <;> (try split) <;> (try split) <;> omega
        obtain ⟨k, hk0⟩ : ∃ k, getR m p n = k := ⟨_, rfl⟩
        rw [hk0] at hk cG ⊢
        unfold modeT
        have k1 := numS_size n (by omega) (by omega)
        have k2 := numS_size k (by omega) (by omega)
        have c1 := fun W (ht : Tab W) => itoa_s n W (by omega) (by omega) ht
        have c2 := fun W (ht : Tab W) => itoa_s k W (by omega) (by omega) ht
        generalize numS n = s1 at *
        generalize numS k = s2 at *
        rcases hp with rfl | rfl
        · show Calls _ _ _ _ fun e w' => e = .returned (.tuple #[.string ((((((⟨#[27, 91]⟩ : ByteArray) ++ ⟨#[63]⟩) ++ s1) ++ ⟨#[59]⟩) ++ s2) ++ ⟨#[36, 121]⟩), .int .i64 0]) ∧ Below w.heap.size w w'
          go_enter Tryd.func20, Tryd.ntmps20
          go_wp2_with (first | (go_at_call 40; (with_reducible refine (cG _ (bl_alloc (Below.refl _ _) _)).mono ?_); rintro e w1 ⟨rfl, hb1⟩; have hl1 : Below w.heap.size w w1 := bl_trans (bl_alloc (Below.refl _ _) _) hb1) | (go_at_call 34; (with_reducible refine (c1 _ (ht.below hl1)).mono ?_); rintro e w2 ⟨rfl, hb2⟩; have hl2 : Below w.heap.size w w2 := bl_trans hl1 hb2) | (go_at_call 34; (with_reducible refine (c2 _ (ht.below hl2)).mono ?_); rintro e w3 ⟨rfl, hb3⟩))
          go_ret2
          exact ⟨rfl, bl_trans hl2 hb3⟩
        · have e4 : (⟨#[27, 91]⟩ : ByteArray) ++ markS 0 = ⟨#[27, 91]⟩ := app_nil _
          rw [e4]
          go_enter Tryd.func20, Tryd.ntmps20
          go_wp2_with (first | (go_at_call 40; (with_reducible refine (cG _ (bl_alloc (Below.refl _ _) _)).mono ?_); rintro e w1 ⟨rfl, hb1⟩; have hl1 : Below w.heap.size w w1 := bl_trans (bl_alloc (Below.refl _ _) _) hb1) | (go_at_call 34; (with_reducible refine (c1 _ (ht.below hl1)).mono ?_); rintro e w2 ⟨rfl, hb2⟩; have hl2 : Below w.heap.size w w2 := bl_trans hl1 hb2) | (go_at_call 34; (with_reducible refine (c2 _ (ht.below hl2)).mono ?_); rintro e w3 ⟨rfl, hb3⟩))
          go_ret2
          exact ⟨rfl, bl_trans hl2 hb3⟩
      · have h2 : ¬ p = 63 := fun h => hp (.inl h)
        have h3 : ¬ p = 0 := fun h => hp (.inr h)
        have e1 : modeS m p n = ⟨#[]⟩ := by simp [modeS, asksM, h2, h3]
        have e2 : modeE m p n = 2 := by simp [modeE, asksM, h2, h3]
        rw [e1, e2]
        go_enter Tryd.func20, Tryd.ntmps20
        go_wp2_with (first | (go_at_call 40; (with_reducible refine (cG _ (bl_alloc (Below.refl _ _) _)).mono ?_); rintro e w1 ⟨rfl, hb1⟩))
        go_ret2
        exact ⟨rfl, bl_trans (bl_alloc (Below.refl _ _) _) hb1⟩
    · have e1 : modeS m p n = ⟨#[]⟩ := by unfold modeS; rw [if_neg]; simp [asksM]; omega
      have e2 : modeE m p n = 2 := by unfold modeE; rw [if_neg]; simp [asksM]; omega
      rw [e1, e2]
      have hn2 : n < 0 ∨ 9999 < n := by omega
      go_enter Tryd.func20, Tryd.ntmps20
      go_wp2_with (first | (go_at_call 40; (with_reducible refine (cG _ (bl_alloc (Below.refl _ _) _)).mono ?_); rintro e w1 ⟨rfl, hb1⟩))
      all_goals
        go_ret2
        exact ⟨by first | rfl | (exfalso; omega), bl_trans (bl_alloc (Below.refl _ _) _) hb1⟩

end Go.Proofs.YtgaakkgelifgpaaDoor
