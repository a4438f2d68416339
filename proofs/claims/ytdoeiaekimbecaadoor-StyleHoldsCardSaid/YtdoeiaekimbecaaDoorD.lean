/- style: a color after a group. -/
import Derived.Test.YtdoeiaekimbecaaDoorC
import Derived.Outline
set_option linter.unusedSimpArgs false
set_option linter.unusedVariables false
set_option linter.unnecessarySimpa false
namespace Go.Proofs.YtdoeiaekimbecaaDoor
open Go.RowKit

theorem ext_any (v : Value) (l : List Int) (w : World) (h : Rd w .i64 v l) (h0 : 0 < l.length) : Calls Tryd.prog 46 #[v] w (ExtE l w) := by
  by_cases h3 : l.length = 3
  · obtain ⟨a0, a1, a2, rfl⟩ : ∃ a0 a1 a2, l = [a0, a1, a2] := by
      match l, h3 with
      | [a, b, c], _ => exact ⟨a, b, c, rfl⟩
    refine (ext_3 v a0 a1 a2 w h).mono ?_
    rintro e w' ⟨c, rfl, hc, hb⟩
    refine ⟨c, _, rfl, by simp [extB], fun hi => ?_, hb⟩
    rw [hc (by simpa using hi)]; rfl
  by_cases h5 : l.length = 5
  · obtain ⟨a0, a1, a2, a3, a4, rfl⟩ : ∃ a0 a1 a2 a3 a4, l = [a0, a1, a2, a3, a4] := by
      match l, h5 with
      | [a, b, c, d, e], _ => exact ⟨a, b, c, d, e, rfl⟩
    refine (ext_5 v a0 a1 a2 a3 a4 w h).mono ?_
    rintro e w' ⟨c, rfl, hc, hb⟩
    refine ⟨c, _, rfl, by simp [extB, Bool.and_assoc], fun hi => ?_, hb⟩
    rw [hc (by simpa [and_assoc] using hi)]; rfl
  · exact ext_short v l w h h0 h3 h5
/-- A color after a group that begins with base + n. -/
def colorG (c : Co) (g : List Int) (n : Int) : Co := if 0 ≤ n ∧ n < 8 then coI n else if 60 ≤ n ∧ n < 68 then coI (n - 60 + 8) else if n = 9 then coZ else if n = 8 ∧ extB g = true then extC g else c
set_option maxHeartbeats 4000000 in
theorem colored_at (c : Co) (v : Value) (g : List Int) (base n : Int) (w : World) (h : Rd w .i64 v g) (h0 : 0 < g.length) (hb : 0 ≤ base ∧ base ≤ 100) (hn : -100 ≤ n ∧ n ≤ 9999) (hg : g.getD 0 0 = n + base) : Calls Tryd.prog 40 #[.agg c.a, v, .int .i64 base] w fun e w' => e = .returned (.agg (colorG c g n).a) ∧ Below w.heap.size w w' := by
  obtain ⟨b, off, cap, rfl, hbl, c0, _⟩ := cells01 h h0
  have cE : ∀ W, Below w.heap.size w W → Calls Tryd.prog 46 #[.slice (some ⟨b, off, none⟩) g.length cap] W (ExtE g W) := fun W hW => ext_any _ g W (h.below hW) h0
  rw [hg] at c0
  have HQ : Hid (colorG c g n = if 0 ≤ n ∧ n < 8 then coI n else if 60 ≤ n ∧ n < 68 then coI (n - 60 + 8) else if n = 9 then coZ else if n = 8 ∧ extB g = true then extC g else c) := Lib.hid rfl
  clear h hg
  generalize hq : colorG c g n = q at *
  clear hq
  obtain ⟨hb1, hb2⟩ := hb
  obtain ⟨hn1, hn2⟩ := hn
  obtain ⟨k, i, r, gg, bb⟩ := c
  by_cases h1 : 0 ≤ n ∧ n < 8
  · have HR : Hid (q = coI n) := Lib.hid (by rw [HQ.out, if_pos h1])
    obtain ⟨h1, h2⟩ := h1
    clear HQ cE
    go_enter Tryd.func40, Tryd.ntmps40
    go_wp2_with (first | (go_at_call 33; refine (index_any _ _).mono ?_; rintro e w1 ⟨rfl, hb⟩; (first | obtain ⟨X, rfl⟩ := GW.of2 hb | obtain ⟨X, rfl⟩ := GW.of hb); clear hb))
    refine ret_row (n := 5) rfl rfl Tryd.underlying24 rfl (by kernel_rfl) rfl ⟨_, by simp (maxDischargeDepth := 6) [go_sem] <;> rfl, rfl, ?_⟩
    exact ⟨by rw [HR.out]; rfl, (by repeat (first | with_reducible exact Below.refl _ _ | with_reducible assumption | with_reducible exact GW.grow _ | with_reducible refine bl_alloc ?_ _ | with_reducible refine Below.drew ?_ | (with_reducible refine Below.setCell ?_ ?_ _; rotate_left; focus (simp; first | done | omega)) | with_reducible refine bl_trans ?_ (GW.grow _) | (with_reducible refine bl_trans ?_ (by assumption))))⟩
  by_cases h2 : 60 ≤ n ∧ n < 68
  · have HR : Hid (q = coI (n - 60 + 8)) := Lib.hid (by rw [HQ.out, if_neg h1, if_pos h2])
    obtain ⟨h3, h4⟩ := h2
    clear HQ cE h1
    go_enter Tryd.func40, Tryd.ntmps40
    go_wp2_with (first | (go_at_call 33; refine (index_any _ _).mono ?_; rintro e w1 ⟨rfl, hb⟩; (first | obtain ⟨X, rfl⟩ := GW.of2 hb | obtain ⟨X, rfl⟩ := GW.of hb); clear hb))
    refine ret_row (n := 5) rfl rfl Tryd.underlying24 rfl (by kernel_rfl) rfl ⟨_, by simp (maxDischargeDepth := 6) [go_sem] <;> rfl, rfl, ?_⟩
    exact ⟨by rw [HR.out]; rfl, (by repeat (first | with_reducible exact Below.refl _ _ | with_reducible assumption | with_reducible exact GW.grow _ | with_reducible refine bl_alloc ?_ _ | with_reducible refine Below.drew ?_ | (with_reducible refine Below.setCell ?_ ?_ _; rotate_left; focus (simp; first | done | omega)) | with_reducible refine bl_trans ?_ (GW.grow _) | (with_reducible refine bl_trans ?_ (by assumption))))⟩
  by_cases h3 : n = 9
  · have HR : Hid (q = coZ) := Lib.hid (by rw [HQ.out, if_neg h1, if_neg h2, if_pos h3])
    subst h3
    clear HQ cE h1 h2
    go_enter Tryd.func40, Tryd.ntmps40
    go_wp2_with fail
    refine ret_row (n := 5) rfl rfl Tryd.underlying24 rfl (by kernel_rfl) rfl ⟨_, by simp (maxDischargeDepth := 6) [go_sem] <;> rfl, rfl, ?_⟩
    exact ⟨by rw [HR.out]; rfl, (by repeat (first | with_reducible exact Below.refl _ _ | with_reducible assumption | with_reducible exact GW.grow _ | with_reducible refine bl_alloc ?_ _ | with_reducible refine Below.drew ?_ | (with_reducible refine Below.setCell ?_ ?_ _; rotate_left; focus (simp; first | done | omega)) | with_reducible refine bl_trans ?_ (GW.grow _) | (with_reducible refine bl_trans ?_ (by assumption))))⟩
  by_cases h4 : n = 8
  · have HR : Hid (q = if extB g = true then extC g else ⟨k, i, r, gg, bb⟩) := Lib.hid (by rw [HQ.out, if_neg h1, if_neg h2, if_neg h3]; simp [h4])
    subst h4
    clear HQ h1 h2 h3
    cases hx : extB g
    · have cF : ∀ W, Below w.heap.size w W → Calls Tryd.prog 46 #[.slice (some ⟨b, off, none⟩) g.length cap] W fun e w' => ∃ c : Co, e = .returned (.tuple #[.agg c.a, .bool false]) ∧ Below W.heap.size W w' := fun W hW => (cE W hW).mono (by
        rintro e w' ⟨c, is, rfl, his, _, hb⟩
        rw [hx] at his; subst his
        exact ⟨c, rfl, hb⟩)
      rw [hx] at HR
      clear cE hx
      go_enter Tryd.func40, Tryd.ntmps40
      go_wp2_with (first | (go_at_call 46; (with_reducible refine (cF _ ?hbel).mono ?_); rotate_left; rintro e w1 ⟨cx, rfl, hb⟩; (first | obtain ⟨X, rfl⟩ := GW.of2 hb | obtain ⟨X, rfl⟩ := GW.of hb); clear hb))
      refine ret_row (n := 5) rfl rfl Tryd.underlying24 rfl (by kernel_rfl) rfl ⟨_, by simp (maxDischargeDepth := 6) [go_sem] <;> rfl, rfl, ?_⟩
      exact ⟨by rw [HR.out]; rfl, (by repeat (first | with_reducible exact Below.refl _ _ | with_reducible assumption | with_reducible exact GW.grow _ | with_reducible refine bl_alloc ?_ _ | with_reducible refine Below.drew ?_ | (with_reducible refine Below.setCell ?_ ?_ _; rotate_left; focus (simp; first | done | omega)) | with_reducible refine bl_trans ?_ (GW.grow _) | (with_reducible refine bl_trans ?_ (by assumption))))⟩
      case hbel => exact (by repeat (first | with_reducible exact Below.refl _ _ | with_reducible assumption | with_reducible exact GW.grow _ | with_reducible refine bl_alloc ?_ _ | with_reducible refine Below.drew ?_ | (with_reducible refine Below.setCell ?_ ?_ _; rotate_left; focus (simp; first | done | omega)) | with_reducible refine bl_trans ?_ (GW.grow _) | (with_reducible refine bl_trans ?_ (by assumption))))
    · have cF : ∀ W, Below w.heap.size w W → Calls Tryd.prog 46 #[.slice (some ⟨b, off, none⟩) g.length cap] W fun e w' => e = .returned (.tuple #[.agg (extC g).a, .bool true]) ∧ Below W.heap.size W w' := fun W hW => (cE W hW).mono (by
        rintro e w' ⟨c, is, rfl, his, hcx, hb⟩
        rw [hx] at his; subst his
        rw [hcx rfl]
        exact ⟨rfl, hb⟩)
      rw [hx] at HR
      clear cE hx
      generalize extC g = ex at *
      go_enter Tryd.func40, Tryd.ntmps40
      go_wp2_with (first | (go_at_call 46; (with_reducible refine (cF _ ?hbel).mono ?_); rotate_left; rintro e w1 ⟨rfl, hb⟩; (first | obtain ⟨X, rfl⟩ := GW.of2 hb | obtain ⟨X, rfl⟩ := GW.of hb); clear hb))
      refine ret_row (n := 5) rfl rfl Tryd.underlying24 rfl (by kernel_rfl) rfl ⟨_, by simp (maxDischargeDepth := 6) [go_sem] <;> rfl, rfl, ?_⟩
      exact ⟨by rw [HR.out]; rfl, (by repeat (first | with_reducible exact Below.refl _ _ | with_reducible assumption | with_reducible exact GW.grow _ | with_reducible refine bl_alloc ?_ _ | with_reducible refine Below.drew ?_ | (with_reducible refine Below.setCell ?_ ?_ _; rotate_left; focus (simp; first | done | omega)) | with_reducible refine bl_trans ?_ (GW.grow _) | (with_reducible refine bl_trans ?_ (by assumption))))⟩
      case hbel => exact (by repeat (first | with_reducible exact Below.refl _ _ | with_reducible assumption | with_reducible exact GW.grow _ | with_reducible refine bl_alloc ?_ _ | with_reducible refine Below.drew ?_ | (with_reducible refine Below.setCell ?_ ?_ _; rotate_left; focus (simp; first | done | omega)) | with_reducible refine bl_trans ?_ (GW.grow _) | (with_reducible refine bl_trans ?_ (by assumption))))
  · have HR : Hid (q = ⟨k, i, r, gg, bb⟩) := Lib.hid (by rw [HQ.out, if_neg h1, if_neg h2, if_neg h3, if_neg (fun hh => h4 hh.1)])
    have hor : n < 0 ∨ (10 ≤ n ∧ n < 60) ∨ 68 ≤ n := by omega
    have n9 : (n == 9) = false := by rw [beq_eq_false_iff_ne]; exact h3
    have n8 : (n == 8) = false := by rw [beq_eq_false_iff_ne]; exact h4
    clear HQ cE h1 h2 h3 h4
    rcases hor with h5 | ⟨h5, h6⟩ | h5
    all_goals
      go_enter Tryd.func40, Tryd.ntmps40
      go_wp2_with fail
      refine ret_row (n := 5) rfl rfl Tryd.underlying24 rfl (by kernel_rfl) rfl ⟨_, by simp (maxDischargeDepth := 6) [go_sem] <;> rfl, rfl, ?_⟩
      exact ⟨by rw [HR.out], (by repeat (first | with_reducible exact Below.refl _ _ | with_reducible assumption | with_reducible exact GW.grow _ | with_reducible refine bl_alloc ?_ _ | with_reducible refine Below.drew ?_ | (with_reducible refine Below.setCell ?_ ?_ _; rotate_left; focus (simp; first | done | omega)) | with_reducible refine bl_trans ?_ (GW.grow _) | (with_reducible refine bl_trans ?_ (by assumption))))⟩

end Go.Proofs.YtdoeiaekimbecaaDoor
