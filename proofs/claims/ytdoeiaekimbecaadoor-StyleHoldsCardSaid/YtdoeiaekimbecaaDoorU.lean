/- style: the law's own functions. Printed by mk_u.py. -/
import Derived.Test.YtdoeiaekimbecaaDoorS
import Derived.Test.YtdoeiaekimbecaaDoorR
import Derived.Outline
set_option linter.unusedSimpArgs false
set_option linter.unusedVariables false
set_option linter.unnecessarySimpa false
namespace Go.Proofs.YtdoeiaekimbecaaDoor
open Go.RowKit

theorem same_eq (v u : Value) (l : List Int) (w : World) (h : Rd w .i64 v l) (k : Rd w .i64 u l) : Calls Tryd.prog 13 #[v, u] w fun e w' => e = .returned (.bool true) ∧ Below w.heap.size w w' := by
  obtain ⟨p, cap, rfl, hlc, hcm, hcell⟩ := h
  obtain ⟨p2, cap2, rfl, hlc2, hcm2, hcell2⟩ := k
  unfold maxLen at hcm hcm2
  go_enter Tryd.func13, Tryd.ntmps13
  go_wp2_with fail
  go_loopw [5] (fun i wr => ∃ k : Nat, k ≤ l.length ∧ i = .int .i64 k ∧ Below w.heap.size w wr) (fun i _ => l.length - (intOf i).toNat)
  case atStart => exact ⟨0, by omega, rfl, Below.refl _ _⟩
  case round =>
    obtain ⟨k, hk, rfl, hbel⟩ := hrel
    by_cases hlt : k < l.length
    · obtain ⟨b, off, rfl, hbl, hc⟩ := Rd.at hcell hlc hlt
      obtain ⟨b2, off2, rfl, hbl2, hc2⟩ := Rd.at hcell2 hlc2 hlt
      have hcr : wr.cell? ⟨b, off + k, none⟩ = some (.int .i64 l[k]) := (hbel.cell (p := ⟨b, off + k, none⟩) hbl).trans hc
      have hcr2 : wr.cell? ⟨b2, off2 + k, none⟩ = some (.int .i64 l[k]) := (hbel.cell (p := ⟨b2, off2 + k, none⟩) hbl2).trans hc2
      have hbw : b < wr.heap.size := Nat.lt_of_lt_of_le hbl hbel.size
      have hbw2 : b2 < wr.heap.size := Nat.lt_of_lt_of_le hbl2 hbel.size
      have hltI : (k : Int) < (l.length : Int) := by omega
      clear hc hcell hc2 hcell2
      generalize l[k] = n at *
      go_wp2_with fail
      go_quiet (fail)
      go_wp2_with fail
      go_roundw
      case rel => first | exact ⟨k + 1, by omega, by go_num, (by repeat (first | with_reducible exact Below.refl _ _ | with_reducible assumption | with_reducible exact GW.grow _ | with_reducible refine bl_alloc ?_ _ | with_reducible refine Below.drewN ?_ _ | with_reducible refine Below.drew ?_ | (with_reducible refine Below.setCell ?_ ?_ _; rotate_left; focus (simp; first | done | omega)) | with_reducible refine bl_trans ?_ (GW.grow _) | (with_reducible refine bl_trans ?_ (by assumption))))⟩ | ((repeat apply Exists.intro); exact ⟨⟨k + 1, by omega, by go_num, (by repeat (first | with_reducible exact Below.refl _ _ | with_reducible assumption | with_reducible exact GW.grow _ | with_reducible refine bl_alloc ?_ _ | with_reducible refine Below.drewN ?_ _ | with_reducible refine Below.drew ?_ | (with_reducible refine Below.setCell ?_ ?_ _; rotate_left; focus (simp; first | done | omega)) | with_reducible refine bl_trans ?_ (GW.grow _) | (with_reducible refine bl_trans ?_ (by assumption))))⟩, rfl⟩)
      case measure => simp [intOf]; omega
    · obtain rfl : k = l.length := by omega
      go_wp2_with fail
      go_ret
      exact ⟨rfl, hbel⟩
theorem right_any (v : Value) (l : List Int) (w : World) (h : Rd w .i64 v l) : Calls Tryd.prog 10 #[v] w fun e w' => e = .returned (.bool (rightN l)) ∧ Below w.heap.size w w' := by
  obtain ⟨p, cap, rfl, hlc, hcm, hcell⟩ := h
  unfold maxLen at hcm
  go_enter Tryd.func10, Tryd.ntmps10
  go_wp2_with fail
  go_loopw [3] (fun i wr => ∃ k : Nat, k ≤ l.length ∧ i = .int .i64 k ∧ rightN (l.take k) = true ∧ Below w.heap.size w wr) (fun i _ => l.length - (intOf i).toNat)
  case atStart => exact ⟨0, by omega, rfl, rfl, Below.refl _ _⟩
  case round =>
    obtain ⟨k, hk, rfl, hr, hbel⟩ := hrel
    by_cases hlt : k < l.length
    · obtain ⟨b, off, rfl, hbl, hc⟩ := Rd.at hcell hlc hlt
      have hcr : wr.cell? ⟨b, off + k, none⟩ = some (.int .i64 l[k]) := (hbel.cell (p := ⟨b, off + k, none⟩) hbl).trans hc
      have hbw : b < wr.heap.size := Nat.lt_of_lt_of_le hbl hbel.size
      have ht := right_take l k hlt
      rw [hr, Bool.true_and] at ht
      have HT := Lib.hid ht
      have HL := Lib.hid (right_le l (k + 1))
      have hltI : (k : Int) < (l.length : Int) := by omega
      clear hc hcell hr ht
      generalize l[k] = n at *
      by_cases hn : n ≤ 9999
      · go_wp2_with fail
        go_roundw
        case rel => first | exact ⟨k + 1, by omega, by go_num, by (rw [HT.out, decide_eq_true_eq]; exact hn), hbel⟩ | ((repeat apply Exists.intro); exact ⟨⟨k + 1, by omega, by go_num, by (rw [HT.out, decide_eq_true_eq]; exact hn), hbel⟩, rfl⟩)
        case measure => simp [intOf]; omega
      · go_wp2_with fail
        go_ret
        exact ⟨by rw [HL.out (by rw [HT.out, decide_eq_false_iff_not]; omega)]; rfl, hbel⟩
    · obtain rfl : k = l.length := by omega
      rw [List.take_length] at hr
      have HR := Lib.hid hr
      clear hr
      go_wp2_with fail
      go_ret
      exact ⟨by rw [HR.out]; rfl, hbel⟩
theorem texts_ok (v : Value) (l : List Int) (w : World) (h : Rd w .i64 v l) (hr : rightN l = true) (hlen : l.length ≤ 1000) (ht : Pm.Tab w) (s : ByteArray) (hs : s = ⟨(textN l).toArray⟩) : Calls Tryd.prog 18 #[v, .string s, .int .i64 0] w fun e w' => e = .returned (.bool true) ∧ Below w.heap.size w w' := by
  have cT := text_ok v l w h hr hlen ht
  rw [← hs] at cT
  clear hs
  go_enter Tryd.func18, Tryd.ntmps18
  go_wp2_with (go_at_call 28; (with_reducible refine cT.mono ?_); rintro e w2 ⟨rfl, hb2⟩)
  go_ret
  exact ⟨rfl, hb2⟩
theorem texts_bad (v : Value) (l : List Int) (w : World) (h : Rd w .i64 v l) (hr : rightN l = false) : Calls Tryd.prog 18 #[v, .string ⟨#[]⟩, .int .i64 2] w fun e w' => e = .returned (.bool true) ∧ Below w.heap.size w w' := by
  have cT := text_bad v l w h hr
  go_enter Tryd.func18, Tryd.ntmps18
  go_wp2_with (go_at_call 28; (with_reducible refine cT.mono ?_); rintro e w2 ⟨rfl, hb2⟩)
  go_ret
  exact ⟨rfl, hb2⟩
set_option maxHeartbeats 4000000 in
set_option maxRecDepth 100000 in
theorem applies_ok (p : Pn) (v : Value) (l : List Int) (w : World) (hm : Mk w) (h : Rd w .i64 v l) (hl : l.length ≤ 1000) (hv : validP p = true) (hr : rightN l = true) (q : Pn) (hq : applyN p l = q) : Calls Tryd.prog 11 #[.agg p.a, v, .agg q.a, .int .i64 0] w fun e w' => e = .returned (.bool true) ∧ Below w.heap.size w w' := by
  have cA : ∀ W, Below w.heap.size w W → ∀ v3, Rd W .i64 v3 l → Calls Tryd.prog 20 #[.agg p.a, v3] W fun e w' => e = .returned (.tuple #[.agg q.a, .int .i64 0]) ∧ Below W.heap.size W w' := fun W hW v3 h3 => by rw [← hq]; exact apply_ok p v3 l W (hm.below hW) h3 hv hr
  have cS : ∀ W, Below w.heap.size w W → ∀ v3, Rd W .i64 v3 l → Calls Tryd.prog 13 #[v3, v] W fun e w' => e = .returned (.bool true) ∧ Below W.heap.size W w' := fun W hW v3 h3 => same_eq v3 v l W h3 (h.below hW)
  clear hq hv hr hm
  obtain ⟨p0, n0, c0, hvs⟩ := h.shape
  subst hvs
  have yA0 : Box ((w.alloc (.cells p.a 27)).alloc (.cells q.a 27)) w.heap.size p.a 27 := Box.alloc (Box.new _ _ _ rfl) _
  have yB0 : Box ((w.alloc (.cells p.a 27)).alloc (.cells q.a 27)) (w.heap.size + 1) q.a 27 := Box.new _ _ _ (by simp)
  have h0 : Below w.heap.size w ((w.alloc (.cells p.a 27)).alloc (.cells q.a 27)) := bl_alloc (bl_alloc (Below.refl _ _) _) _
  have hs0 : w.heap.size + 2 ≤ ((w.alloc (.cells p.a 27)).alloc (.cells q.a 27)).heap.size := by simp
  go_enter Tryd.func11, Tryd.ntmps11
  go_wp2_with (first | (at_builtin; refine wpList_app rfl _ _ 28 3 .i64 8 rfl Tryd.underlying28 elI (w.heap.size + 2) _ _ [] l (Own.nil _ _ _ _) (h.below h0) rfl rfl (by simp [maxLen]; omega) (by simp; omega) hs0 ?_; intro v3 w3 hown3 hb3 hgr; rw [List.nil_append] at hown3; have yA := Own.box (D := w.heap.size) (by omega) hb3 yA0; have yB := Own.box (D := w.heap.size + 1) (by omega) hb3 yB0; have ac := yA.cell; have al := yA.lt; have bc := yB.cell; have bl := yB.lt; have h3 : Below w.heap.size w w3 := Below.trans h0 (hb3.mono (by omega)); obtain ⟨p3, n3, c3, hv3⟩ := hown3.rd.shape; subst hv3) | (go_at_call 20; (with_reducible refine (cA _ h3 _ hown3.rd).mono ?_); rintro e w4 ⟨rfl, hb4⟩; have yB4 := Box.past hb4 yB; have bc4 := yB4.cell; have bl4 := yB4.lt; have h4 := bl_trans h3 hb4; have hr4 := hown3.rd.below hb4; have yN : Box (w4.alloc (.cells q.a 27)) w4.heap.size q.a 27 := Box.new _ _ _ rfl) | (go_at_call 13; (with_reducible refine (cS _ (bl_alloc h4 _) _ (hr4.below ((Below.refl _ _).alloc (Nat.le_refl _) _))).mono ?_); rintro e w5 ⟨rfl, hb5⟩))
  go_ret
  exact ⟨rfl, bl_trans (bl_alloc h4 _) hb5⟩
set_option maxHeartbeats 4000000 in
set_option maxRecDepth 100000 in
theorem applies_bad (p : Pn) (v : Value) (l : List Int) (w : World) (h : Rd w .i64 v l) (hl : l.length ≤ 1000) (hb : validP p = false ∨ rightN l = false) : Calls Tryd.prog 11 #[.agg p.a, v, .agg #[.int .i64 0, .int .u8 0, .int .u8 0, .int .u8 0, .int .u8 0, .int .i64 0, .int .u8 0, .int .u8 0, .int .u8 0, .int .u8 0, .int .u8 0], .int .i64 2] w fun e w' => e = .returned (.bool true) ∧ Below w.heap.size w w' := by
  have cA : ∀ W, Below w.heap.size w W → ∀ v3, Rd W .i64 v3 l → Calls Tryd.prog 20 #[.agg p.a, v3] W fun e w' => e = .returned (.tuple #[.agg #[.int .i64 0, .int .u8 0, .int .u8 0, .int .u8 0, .int .u8 0, .int .i64 0, .int .u8 0, .int .u8 0, .int .u8 0, .int .u8 0, .int .u8 0], .int .i64 2]) ∧ Below W.heap.size W w' := fun W hW v3 h3 => apply_bad p v3 l W h3 hb
  have cS : ∀ W, Below w.heap.size w W → ∀ v3, Rd W .i64 v3 l → Calls Tryd.prog 13 #[v3, v] W fun e w' => e = .returned (.bool true) ∧ Below W.heap.size W w' := fun W hW v3 h3 => same_eq v3 v l W h3 (h.below hW)
  clear hb
  obtain ⟨p0, n0, c0, hvs⟩ := h.shape
  subst hvs
  have yA0 : Box ((w.alloc (.cells p.a 27)).alloc (.cells #[.int .i64 0, .int .u8 0, .int .u8 0, .int .u8 0, .int .u8 0, .int .i64 0, .int .u8 0, .int .u8 0, .int .u8 0, .int .u8 0, .int .u8 0] 27)) w.heap.size p.a 27 := Box.alloc (Box.new _ _ _ rfl) _
  have yB0 : Box ((w.alloc (.cells p.a 27)).alloc (.cells #[.int .i64 0, .int .u8 0, .int .u8 0, .int .u8 0, .int .u8 0, .int .i64 0, .int .u8 0, .int .u8 0, .int .u8 0, .int .u8 0, .int .u8 0] 27)) (w.heap.size + 1) #[.int .i64 0, .int .u8 0, .int .u8 0, .int .u8 0, .int .u8 0, .int .i64 0, .int .u8 0, .int .u8 0, .int .u8 0, .int .u8 0, .int .u8 0] 27 := Box.new _ _ _ (by simp)
  have h0 : Below w.heap.size w ((w.alloc (.cells p.a 27)).alloc (.cells #[.int .i64 0, .int .u8 0, .int .u8 0, .int .u8 0, .int .u8 0, .int .i64 0, .int .u8 0, .int .u8 0, .int .u8 0, .int .u8 0, .int .u8 0] 27)) := bl_alloc (bl_alloc (Below.refl _ _) _) _
  have hs0 : w.heap.size + 2 ≤ ((w.alloc (.cells p.a 27)).alloc (.cells #[.int .i64 0, .int .u8 0, .int .u8 0, .int .u8 0, .int .u8 0, .int .i64 0, .int .u8 0, .int .u8 0, .int .u8 0, .int .u8 0, .int .u8 0] 27)).heap.size := by simp
  go_enter Tryd.func11, Tryd.ntmps11
  go_wp2_with (first | (at_builtin; refine wpList_app rfl _ _ 28 3 .i64 8 rfl Tryd.underlying28 elI (w.heap.size + 2) _ _ [] l (Own.nil _ _ _ _) (h.below h0) rfl rfl (by simp [maxLen]; omega) (by simp; omega) hs0 ?_; intro v3 w3 hown3 hb3 hgr; rw [List.nil_append] at hown3; have yA := Own.box (D := w.heap.size) (by omega) hb3 yA0; have yB := Own.box (D := w.heap.size + 1) (by omega) hb3 yB0; have ac := yA.cell; have al := yA.lt; have bc := yB.cell; have bl := yB.lt; have h3 : Below w.heap.size w w3 := Below.trans h0 (hb3.mono (by omega)); obtain ⟨p3, n3, c3, hv3⟩ := hown3.rd.shape; subst hv3) | (go_at_call 20; (with_reducible refine (cA _ h3 _ hown3.rd).mono ?_); rintro e w4 ⟨rfl, hb4⟩; have yB4 := Box.past hb4 yB; have bc4 := yB4.cell; have bl4 := yB4.lt; have h4 := bl_trans h3 hb4; have hr4 := hown3.rd.below hb4; have yN : Box (w4.alloc (.cells #[.int .i64 0, .int .u8 0, .int .u8 0, .int .u8 0, .int .u8 0, .int .i64 0, .int .u8 0, .int .u8 0, .int .u8 0, .int .u8 0, .int .u8 0] 27)) w4.heap.size #[.int .i64 0, .int .u8 0, .int .u8 0, .int .u8 0, .int .u8 0, .int .i64 0, .int .u8 0, .int .u8 0, .int .u8 0, .int .u8 0, .int .u8 0] 27 := Box.new _ _ _ rfl) | (go_at_call 13; (with_reducible refine (cS _ (bl_alloc h4 _) _ (hr4.below ((Below.refl _ _).alloc (Nat.le_refl _) _))).mono ?_); rintro e w5 ⟨rfl, hb5⟩))
  go_ret
  exact ⟨rfl, bl_trans (bl_alloc h4 _) hb5⟩

end Go.Proofs.YtdoeiaekimbecaaDoor
