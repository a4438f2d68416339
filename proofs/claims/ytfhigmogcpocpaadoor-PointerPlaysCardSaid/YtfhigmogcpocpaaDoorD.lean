/- pointer: what an event does. -/
import Derived.Test.YtfhigmogcpocpaaDoorC
import Derived.Outline
set_option linter.unusedSimpArgs false
set_option linter.unusedVariables false
set_option linter.unnecessarySimpa false
namespace Go.Proofs.YtfhigmogcpocpaaDoor
open Go.RowKit

def mdN (sh al ct : Bool) : Int := (if sh then 4 else 0) + (if al then 8 else 0) + (if ct then 16 else 0)
def partN (sh al ct : Bool) (i : Nat) : Int := if i = 0 then 0 else if i = 1 then (if sh then 4 else 0) else if i = 2 then (if sh then 4 else 0) + (if al then 8 else 0) else mdN sh al ct
def heldAt (h : Bool) (i : Int) (k b : Int) : Bool := if k = 1 ∧ b = i then true else if k = 2 ∧ b = i then false else h
def afterP (p : Pt) (k b r c : Int) : Pt := ⟨p.mode, p.exact, heldAt p.h1 1 k b, heldAt p.h2 2 k b, heldAt p.h3 3 k b, r, c, true⟩
def doS (p : Pt) (k b r c : Int) (sh al ct : Bool) : ByteArray := if (codeN p k b r c).2 = true then outS p.exact k ((codeN p k b r c).1 + mdN sh al ct) r c else ⟨#[]⟩
def DoE (D o : Nat) (p : Pt) (k b r c : Int) (sh al ct : Bool) (w : World) (e : Ending) (w' : World) : Prop := ∃ v xs, e = .returned (.tuple #[v, .int .i64 0]) ∧ Rd w' .u8 v xs ∧ strOfNums xs = doS p k b r c sh al ct ∧ PtB w' D o (afterP p k b r c) ∧ Keep D o w w'
theorem code_range (p : Pt) (k b r c : Int) (hv : validE k b r c = true) : 0 ≤ (codeN p k b r c).1 ∧ (codeN p k b r c).1 ≤ 65 := by
  unfold validE at hv
  have hv := of_decide_eq_true hv
  unfold codeN moveN
  repeat' split
  all_goals (simp only; omega)
theorem md_range (sh al ct : Bool) : 0 ≤ mdN sh al ct ∧ mdN sh al ct ≤ 28 := by cases sh <;> cases al <;> cases ct <;> decide
theorem do_bad (D o : Nat) (p : Pt) (k b r c : Int) (sh al ct : Bool) (w : World) (hv : validE k b r c = false) : Calls Tryd.prog 13 #[.pointer (some ⟨D, o, none⟩), .agg #[.int .i64 k, .int .i64 b, .int .i64 r, .int .i64 c, .bool sh, .bool al, .bool ct]] w fun e w' => e = .returned (.tuple #[.slice none 0 0, .int .i64 2]) ∧ Below w.heap.size w w' := by
  have cV := fun W => valid_any k b r c sh al ct W
  rw [hv] at cV
  go_enter Tryd.func13, Tryd.ntmps13
  go_wp2_with (first | (go_at_call 14; (with_reducible refine (cV _).mono ?_); rintro e w1 ⟨rfl, hb⟩; (first | obtain ⟨X, rfl⟩ := GW.of2 hb | obtain ⟨X, rfl⟩ := GW.of hb); clear hb))
  go_ret2
  exact ⟨rfl, (by repeat (first | with_reducible exact Below.refl _ _ | with_reducible assumption | with_reducible exact GW.grow _ | with_reducible refine bl_alloc ?_ _ | with_reducible refine Below.drew ?_ | (with_reducible refine Below.setCell ?_ ?_ _; rotate_left; focus (simp; first | done | omega)) | with_reducible refine bl_trans ?_ (GW.grow _) | (with_reducible refine bl_trans ?_ (by assumption))))⟩
theorem pt4 (W : World) (D o : Nat) (m : Int) (e x y z : Bool) (a0 a1 : Int) (t : Bool) (n : Int) (x' y' z' : Bool) (r c : Int) (h : PtB W D o ⟨m, e, x, y, z, a0, a1, t⟩) (hn : n = heldN x' y' z') : PtB ((((W.setCell ⟨D, o + 2, none⟩ (.int .u8 n)).setCell ⟨D, o + 3, none⟩ (.int .i64 r)).setCell ⟨D, o + 3 + 1, none⟩ (.int .i64 c)).setCell ⟨D, o + 5, none⟩ (.bool true)) D o ⟨m, e, x', y', z', r, c, true⟩ := by
  subst hn
  obtain ⟨cs, t, hb, q0, q1, q2, q3, q4, q5⟩ := h
  have l1 := getElem?_lt q5
  refine ⟨_, t, (((hb.set _ _).set _ _).set _ _).set _ _, ?_, ?_, ?_, ?_, ?_, ?_⟩
  all_goals (simp only [Array.getElem?_setIfInBounds, Array.size_setIfInBounds])
  · rw [if_neg (by omega), if_neg (by omega), if_neg (by omega), if_neg (by omega)]; assumption
  · rw [if_neg (by omega), if_neg (by omega), if_neg (by omega), if_neg (by omega)]; assumption
  · rw [if_neg (by omega), if_neg (by omega), if_neg (by omega), if_pos trivial, if_pos (by omega)]
  · rw [if_neg (by omega), if_neg (by omega), if_pos trivial, if_pos (by omega)]
  · first | rw [if_neg (by omega), if_pos trivial, if_pos (by omega)] | rw [if_neg (by omega), if_pos (by omega), if_pos (by omega)]
  · rw [if_pos trivial, if_pos (by omega)]
theorem pt3 (W : World) (D o : Nat) (m : Int) (e x y z : Bool) (a0 a1 : Int) (t : Bool) (r c : Int) (h : PtB W D o ⟨m, e, x, y, z, a0, a1, t⟩) : PtB (((W.setCell ⟨D, o + 3, none⟩ (.int .i64 r)).setCell ⟨D, o + 3 + 1, none⟩ (.int .i64 c)).setCell ⟨D, o + 5, none⟩ (.bool true)) D o ⟨m, e, x, y, z, r, c, true⟩ := by
  obtain ⟨cs, t, hb, q0, q1, q2, q3, q4, q5⟩ := h
  have l1 := getElem?_lt q5
  refine ⟨_, t, ((hb.set _ _).set _ _).set _ _, ?_, ?_, ?_, ?_, ?_, ?_⟩
  all_goals (simp only [Array.getElem?_setIfInBounds, Array.size_setIfInBounds])
  · rw [if_neg (by omega), if_neg (by omega), if_neg (by omega)]; assumption
  · rw [if_neg (by omega), if_neg (by omega), if_neg (by omega)]; assumption
  · rw [if_neg (by omega), if_neg (by omega), if_neg (by omega)]; assumption
  · rw [if_neg (by omega), if_neg (by omega), if_pos trivial, if_pos (by omega)]
  · first | rw [if_neg (by omega), if_pos trivial, if_pos (by omega)] | rw [if_neg (by omega), if_pos (by omega), if_pos (by omega)]
  · rw [if_pos trivial, if_pos (by omega)]
theorem bar4 (W w : World) (D o : Nat) (v1 v2 v3 v4 : Value) (h : Keep D o w W) : Keep D o w ((((W.setCell ⟨D, o + 2, none⟩ v1).setCell ⟨D, o + 3, none⟩ v2).setCell ⟨D, o + 3 + 1, none⟩ v3).setCell ⟨D, o + 5, none⟩ v4) := (((h.set _ _ (by omega)).set _ _ (by omega)).set _ _ (by omega)).set _ _ (by omega)
theorem bar3 (W w : World) (D o : Nat) (v2 v3 v4 : Value) (h : Keep D o w W) : Keep D o w (((W.setCell ⟨D, o + 3, none⟩ v2).setCell ⟨D, o + 3 + 1, none⟩ v3).setCell ⟨D, o + 5, none⟩ v4) := ((h.set _ _ (by omega)).set _ _ (by omega)).set _ _ (by omega)
theorem Below.bar {w w' : World} (D : Nat) (h : Below w.heap.size w w') : Bar D w w' := (Bar.refl D w).below h
theorem Tab.bar {w w' : World} {D : Nat} (h : Tab w) (hb : Bar D w w') (hD : 0 ≠ D) : Tab w' := by
  unfold Tab Lib.TabIs World.var? at h ⊢
  rw [gTab] at h ⊢
  simp only [Option.bind_some] at h ⊢
  have hlt : 0 < w.heap.size := by
    rcases Nat.lt_or_ge 0 w.heap.size with h' | h'
    · exact h'
    · rw [Array.getElem?_eq_none h'] at h; cases h
  rw [hb.block _ hD hlt]
  exact h
theorem or_1 (x y z : Bool) : bits .or .u8 (heldN x y z) 2 = heldN true y z := by cases x <;> cases y <;> cases z <;> decide
theorem andNot_1 (x y z : Bool) : bits .andNot .u8 (heldN x y z) 2 = heldN false y z := by cases x <;> cases y <;> cases z <;> decide
theorem or_2 (x y z : Bool) : bits .or .u8 (heldN x y z) 4 = heldN x true z := by cases x <;> cases y <;> cases z <;> decide
theorem andNot_2 (x y z : Bool) : bits .andNot .u8 (heldN x y z) 4 = heldN x false z := by cases x <;> cases y <;> cases z <;> decide
theorem or_3 (x y z : Bool) : bits .or .u8 (heldN x y z) 8 = heldN x y true := by cases x <;> cases y <;> cases z <;> decide
theorem andNot_3 (x y z : Bool) : bits .andNot .u8 (heldN x y z) 8 = heldN x y false := by cases x <;> cases y <;> cases z <;> decide

set_option maxHeartbeats 8000000 in
set_option maxRecDepth 100000 in
theorem do_ok (D o : Nat) (m : Int) (e x y z : Bool) (a0 a1 : Int) (t : Bool) (k b r c : Int) (sh al ct : Bool) (w : World) (h : PtB w D o ⟨m, e, x, y, z, a0, a1, t⟩) (ht : Tab w) (hD : 0 ≠ D) (hv : validE k b r c = true) : Calls Tryd.prog 13 #[.pointer (some ⟨D, o, none⟩), .agg #[.int .i64 k, .int .i64 b, .int .i64 r, .int .i64 c, .bool sh, .bool al, .bool ct]] w (DoE D o ⟨m, e, x, y, z, a0, a1, t⟩ k b r c sh al ct w) := by
  have hl := h.lt
  have cV := fun W => valid_any k b r c sh al ct W
  rw [hv] at cV
  have cC := fun W (hb : Below w.heap.size w W) => code_any D o ⟨m, e, x, y, z, a0, a1, t⟩ k b r c sh al ct W (h.below hb) hv
  have hcr := code_range ⟨m, e, x, y, z, a0, a1, t⟩ k b r c hv
  have hmd := md_range sh al ct
  have HS : Hid (doS ⟨m, e, x, y, z, a0, a1, t⟩ k b r c sh al ct = if (codeN ⟨m, e, x, y, z, a0, a1, t⟩ k b r c).2 = true then outS e k ((codeN ⟨m, e, x, y, z, a0, a1, t⟩ k b r c).1 + mdN sh al ct) r c else ⟨#[]⟩) := rfl
  unfold CodeE at cC
  unfold DoE
  generalize doS ⟨m, e, x, y, z, a0, a1, t⟩ k b r c sh al ct = S at *
  generalize codeN ⟨m, e, x, y, z, a0, a1, t⟩ k b r c = q at *
  obtain ⟨cd, sent⟩ := q
  simp only at hcr cC
  go_enter Tryd.func13, Tryd.ntmps13
  go_wp2_with (first | (go_at_call 14; (with_reducible refine (cV _).mono ?_); rintro e w1 ⟨rfl, hb1⟩; have hl1 : Below w.heap.size w w1 := bl_trans (bl_alloc (Below.refl _ _) _) hb1; have xe1 : Box w1 w.heap.size #[.int .i64 k, .int .i64 b, .int .i64 r, .int .i64 c, .bool sh, .bool al, .bool ct] 24 := (hb1.block _ (by simp)).trans (Box.new _ _ _ rfl); have ce1 := xe1.cell; have le1 := xe1.lt; clear hb1) | (go_at_call 24; (with_reducible refine (cC _ hl1).mono ?_); rintro e w2 ⟨rfl, hb2⟩; have hl2 : Below w.heap.size w w2 := bl_trans hl1 hb2; have xe2 : Box w2 w.heap.size #[.int .i64 k, .int .i64 b, .int .i64 r, .int .i64 c, .bool sh, .bool al, .bool ct] 24 := (hb2.block _ le1).trans xe1; have ce2 := xe2.cell; have le2 := xe2.lt; clear hb2 ce1 le1 xe1 hl1))
  have hl0 : Below w.heap.size w (w2.alloc (.cells #[.bool sh, .bool al, .bool ct] 4)) := bl_alloc hl2 _
  have xe0 : Box (w2.alloc (.cells #[.bool sh, .bool al, .bool ct] 4)) w.heap.size #[.int .i64 k, .int .i64 b, .int .i64 r, .int .i64 c, .bool sh, .bool al, .bool ct] 24 := xe2.alloc _
  have xs0 : Box (w2.alloc (.cells #[.bool sh, .bool al, .bool ct] 4)) w2.heap.size #[.bool sh, .bool al, .bool ct] 4 := Box.new _ _ _ rfl
  generalize w2.alloc (.cells #[.bool sh, .bool al, .bool ct] 4) = W0 at *
  obtain ⟨b0, hb0⟩ : ∃ b0, w2.heap.size = b0 := ⟨_, rfl⟩
  rw [hb0] at xs0 ⊢
  clear hb0 hl2 xe2 ce2 le2 cC cV
  go_loopw [31, 6] (fun i cc wr => ∃ (j : Nat), j ≤ 3 ∧ i = .int .i64 j ∧ cc = .int .i64 (cd + partN sh al ct j) ∧ Below W0.heap.size W0 wr) (fun i _ _ => 3 - (intOf i).toNat)
  case atStart => exact ⟨0, by omega, rfl, by simp [partN], Below.refl _ _⟩
  case round =>
    obtain ⟨j, hj, rfl, rfl, hbel⟩ := hrel
    have hlw := bl_trans hl0 hbel
    have xe : Box wr w.heap.size #[.int .i64 k, .int .i64 b, .int .i64 r, .int .i64 c, .bool sh, .bool al, .bool ct] 24 := (hbel.block _ xe0.lt).trans xe0
    have xs : Box wr b0 #[.bool sh, .bool al, .bool ct] 4 := (hbel.block _ xs0.lt).trans xs0
    by_cases hlt : j < 3
    · have ls := xs.lt
      have hdd : ∃ qf : Bool, wr.cell? ⟨b0, j, none⟩ = some (.bool qf) ∧ partN sh al ct (j + 1) = partN sh al ct j + (if qf then (4 : Int) * 2 ^ j else 0) := by
        rw [xs.cell]
        match j, hlt with
        | 0, _ => exact ⟨sh, rfl, by cases sh <;> rfl⟩
        | 1, _ => exact ⟨al, rfl, by cases sh <;> cases al <;> rfl⟩
        | 2, _ => exact ⟨ct, rfl, by cases sh <;> cases al <;> cases ct <;> rfl⟩
      obtain ⟨qf, d1, HP⟩ := hdd
      have HPP := Lib.hid HP
      have hpb : 0 ≤ partN sh al ct j ∧ partN sh al ct j ≤ 28 := by match j, hlt with
        | 0, _ => cases sh <;> cases al <;> cases ct <;> decide
        | 1, _ => cases sh <;> cases al <;> cases ct <;> decide
        | 2, _ => cases sh <;> cases al <;> cases ct <;> decide
      clear HP
      obtain ⟨pj, hpj⟩ : ∃ pj, partN sh al ct j = pj := ⟨_, rfl⟩
      rw [hpj] at hpb HPP ⊢
      clear hpj
      have r1 : (0 : Int) ≤ (j : Int) := by omega
      have r2 : (j : Int) < 3 := by omega
      clear HS
      cases qf
      · go_wp2_with fail
        go_roundw
        case rel => exact ⟨j + 1, by omega, by go_num, by rw [HPP.out]; simp, hbel⟩
        case measure => simp [intOf]; omega
      · have hj2 : j = 0 ∨ j = 1 ∨ j = 2 := by omega
        rcases hj2 with rfl | rfl | rfl
        · have t1 : IntKind.i64.wrap (cd + pj + 4) = cd + pj + 4 := IntWalk.i64_in _ (by omega)
          go_wp2_with fail
          go_roundw
          case rel => exact ⟨1, by omega, by go_num, by rw [show (0 : Nat) + 1 = 1 from rfl] at HPP; rw [HPP.out]; simp; omega, hbel⟩
          case measure => simp [intOf]
        · have t1 : IntKind.i64.wrap (cd + pj + 8) = cd + pj + 8 := IntWalk.i64_in _ (by omega)
          go_wp2_with fail
          go_roundw
          case rel => exact ⟨2, by omega, by go_num, by rw [show (1 : Nat) + 1 = 2 from rfl] at HPP; rw [HPP.out]; simp; omega, hbel⟩
          case measure => simp [intOf]
        · have t1 : IntKind.i64.wrap (cd + pj + 16) = cd + pj + 16 := IntWalk.i64_in _ (by omega)
          go_wp2_with fail
          go_roundw
          case rel => exact ⟨3, by omega, by go_num, by rw [show (2 : Nat) + 1 = 3 from rfl] at HPP; rw [HPP.out]; simp; omega, hbel⟩
          case measure => simp [intOf]
    · obtain rfl : j = 3 := by omega
      have e3 : partN sh al ct 3 = mdN sh al ct := rfl
      rw [e3]
      clear e3
      generalize mdN sh al ct = mdv at *
      have xd : PtB wr D o ⟨m, e, x, y, z, a0, a1, t⟩ := h.below hlw
      obtain ⟨g0, g1, g2, g3, g4, g5⟩ := xd.cells
      simp only at g0 g1 g2 g3 g4 g5
      have ld1 := xd.lt
      have fd1 := xd.free
      have ce := xe.cell
      have le := xe.lt
      have hbr : Keep D o w wr := Keep.of_below hlw
      have hne : w.heap.size ≠ D := by omega
      have cB := fun W p' (hp : PtB W D o p') (ht : Tab W) => bytes_any D o p' k b r c sh al ct (cd + mdv) W hp ht hv (by omega)
      unfold validE at hv
      have hv := of_decide_eq_true hv
      obtain ⟨hkk, hrc⟩ := hv
      clear xs xs0 xe0 hl0 hbel
      rcases hkk with ⟨hk, hb⟩ | ⟨hk, rfl⟩
      · rcases hk with rfl | rfl
        · have hb3 : b = 1 ∨ b = 2 ∨ b = 3 := by omega
          rcases hb3 with rfl | rfl | rfl
          · have ob := or_1 x y z
            have HA : Hid (afterP ⟨m, e, x, y, z, a0, a1, t⟩ 1 1 r c = ⟨m, e, true, y, z, r, c, true⟩) := rfl
            cases sent
            · have HE : Hid (S = ⟨#[]⟩) := HS.out
              clear HS
              go_wp2_with fail
              first | refine wp_grow_tail2 10 (by kernel_rfl) (by kernel_rfl) ?_ | refine wp_grow_tail 10 (by kernel_rfl) (by kernel_rfl) ?_
              simp only [List.take_succ_cons, List.take_zero, List.drop_succ_cons, List.drop_zero]
              repeat (go_big_quiet_step (fail))
              refine wpQuiet_nil ?_
              rintro _ ⟨X, rfl⟩
              go_wp2_with fail
              go_ret2
              exact ⟨_, [], rfl, Rd.nil _ _, by rw [HE.out]; rfl, by rw [HA.out]; with_reducible exact pt4 _ _ _ _ _ _ _ _ _ _ _ _ _ _ _ _ _ (xd.below X.grow) rfl, by with_reducible exact bar4 _ _ _ _ _ _ _ _ (hbr.below X.grow)⟩
            · have HE : Hid (S = outS e 1 (cd + mdv) r c) := HS.out
              clear HS
              go_wp2_with fail
              first | refine wp_grow_tail2 10 (by kernel_rfl) (by kernel_rfl) ?_ | refine wp_grow_tail 10 (by kernel_rfl) (by kernel_rfl) ?_
              simp only [List.take_succ_cons, List.take_zero, List.drop_succ_cons, List.drop_zero]
              repeat (go_big_quiet_step (fail))
              refine wpQuiet_nil ?_
              rintro _ ⟨X, rfl⟩
              go_wp2_with (first | (go_at_call 25; have hpt := pt4 X.world D o m e x y z a0 a1 t _ true y z r c (xd.below X.grow) rfl; have hba := bar4 X.world w D o (.int .u8 (heldN true y z)) (.int .i64 r) (.int .i64 c) (.bool true) (hbr.below X.grow); have htb := ht.bar hba.1 hD; (with_reducible refine (cB _ _ hpt htb).mono ?_); rintro e' w9 ⟨v, xs, rfl, hrd, hxs, hb9⟩))
              go_ret2
              exact ⟨v, xs, rfl, hrd, by rw [HE.out]; exact hxs, by rw [HA.out]; exact hpt.below hb9, hba.below hb9⟩
          · have ob := or_2 x y z
            have HA : Hid (afterP ⟨m, e, x, y, z, a0, a1, t⟩ 1 2 r c = ⟨m, e, x, true, z, r, c, true⟩) := rfl
            cases sent
            · have HE : Hid (S = ⟨#[]⟩) := HS.out
              clear HS
              go_wp2_with fail
              first | refine wp_grow_tail2 10 (by kernel_rfl) (by kernel_rfl) ?_ | refine wp_grow_tail 10 (by kernel_rfl) (by kernel_rfl) ?_
              simp only [List.take_succ_cons, List.take_zero, List.drop_succ_cons, List.drop_zero]
              repeat (go_big_quiet_step (fail))
              refine wpQuiet_nil ?_
              rintro _ ⟨X, rfl⟩
              go_wp2_with fail
              go_ret2
              exact ⟨_, [], rfl, Rd.nil _ _, by rw [HE.out]; rfl, by rw [HA.out]; with_reducible exact pt4 _ _ _ _ _ _ _ _ _ _ _ _ _ _ _ _ _ (xd.below X.grow) rfl, by with_reducible exact bar4 _ _ _ _ _ _ _ _ (hbr.below X.grow)⟩
            · have HE : Hid (S = outS e 1 (cd + mdv) r c) := HS.out
              clear HS
              go_wp2_with fail
              first | refine wp_grow_tail2 10 (by kernel_rfl) (by kernel_rfl) ?_ | refine wp_grow_tail 10 (by kernel_rfl) (by kernel_rfl) ?_
              simp only [List.take_succ_cons, List.take_zero, List.drop_succ_cons, List.drop_zero]
              repeat (go_big_quiet_step (fail))
              refine wpQuiet_nil ?_
              rintro _ ⟨X, rfl⟩
              go_wp2_with (first | (go_at_call 25; have hpt := pt4 X.world D o m e x y z a0 a1 t _ x true z r c (xd.below X.grow) rfl; have hba := bar4 X.world w D o (.int .u8 (heldN x true z)) (.int .i64 r) (.int .i64 c) (.bool true) (hbr.below X.grow); have htb := ht.bar hba.1 hD; (with_reducible refine (cB _ _ hpt htb).mono ?_); rintro e' w9 ⟨v, xs, rfl, hrd, hxs, hb9⟩))
              go_ret2
              exact ⟨v, xs, rfl, hrd, by rw [HE.out]; exact hxs, by rw [HA.out]; exact hpt.below hb9, hba.below hb9⟩
          · have ob := or_3 x y z
            have HA : Hid (afterP ⟨m, e, x, y, z, a0, a1, t⟩ 1 3 r c = ⟨m, e, x, y, true, r, c, true⟩) := rfl
            cases sent
            · have HE : Hid (S = ⟨#[]⟩) := HS.out
              clear HS
              go_wp2_with fail
              first | refine wp_grow_tail2 10 (by kernel_rfl) (by kernel_rfl) ?_ | refine wp_grow_tail 10 (by kernel_rfl) (by kernel_rfl) ?_
              simp only [List.take_succ_cons, List.take_zero, List.drop_succ_cons, List.drop_zero]
              repeat (go_big_quiet_step (fail))
              refine wpQuiet_nil ?_
              rintro _ ⟨X, rfl⟩
              go_wp2_with fail
              go_ret2
              exact ⟨_, [], rfl, Rd.nil _ _, by rw [HE.out]; rfl, by rw [HA.out]; with_reducible exact pt4 _ _ _ _ _ _ _ _ _ _ _ _ _ _ _ _ _ (xd.below X.grow) rfl, by with_reducible exact bar4 _ _ _ _ _ _ _ _ (hbr.below X.grow)⟩
            · have HE : Hid (S = outS e 1 (cd + mdv) r c) := HS.out
              clear HS
              go_wp2_with fail
              first | refine wp_grow_tail2 10 (by kernel_rfl) (by kernel_rfl) ?_ | refine wp_grow_tail 10 (by kernel_rfl) (by kernel_rfl) ?_
              simp only [List.take_succ_cons, List.take_zero, List.drop_succ_cons, List.drop_zero]
              repeat (go_big_quiet_step (fail))
              refine wpQuiet_nil ?_
              rintro _ ⟨X, rfl⟩
              go_wp2_with (first | (go_at_call 25; have hpt := pt4 X.world D o m e x y z a0 a1 t _ x y true r c (xd.below X.grow) rfl; have hba := bar4 X.world w D o (.int .u8 (heldN x y true)) (.int .i64 r) (.int .i64 c) (.bool true) (hbr.below X.grow); have htb := ht.bar hba.1 hD; (with_reducible refine (cB _ _ hpt htb).mono ?_); rintro e' w9 ⟨v, xs, rfl, hrd, hxs, hb9⟩))
              go_ret2
              exact ⟨v, xs, rfl, hrd, by rw [HE.out]; exact hxs, by rw [HA.out]; exact hpt.below hb9, hba.below hb9⟩
        · have hb3 : b = 1 ∨ b = 2 ∨ b = 3 := by omega
          rcases hb3 with rfl | rfl | rfl
          · have ob := andNot_1 x y z
            have HA : Hid (afterP ⟨m, e, x, y, z, a0, a1, t⟩ 2 1 r c = ⟨m, e, false, y, z, r, c, true⟩) := rfl
            cases sent
            · have HE : Hid (S = ⟨#[]⟩) := HS.out
              clear HS
              go_wp2_with fail
              first | refine wp_grow_tail2 10 (by kernel_rfl) (by kernel_rfl) ?_ | refine wp_grow_tail 10 (by kernel_rfl) (by kernel_rfl) ?_
              simp only [List.take_succ_cons, List.take_zero, List.drop_succ_cons, List.drop_zero]
              repeat (go_big_quiet_step (fail))
              refine wpQuiet_nil ?_
              rintro _ ⟨X, rfl⟩
              go_wp2_with fail
              go_ret2
              exact ⟨_, [], rfl, Rd.nil _ _, by rw [HE.out]; rfl, by rw [HA.out]; with_reducible exact pt4 _ _ _ _ _ _ _ _ _ _ _ _ _ _ _ _ _ (xd.below X.grow) rfl, by with_reducible exact bar4 _ _ _ _ _ _ _ _ (hbr.below X.grow)⟩
            · have HE : Hid (S = outS e 2 (cd + mdv) r c) := HS.out
              clear HS
              go_wp2_with fail
              first | refine wp_grow_tail2 10 (by kernel_rfl) (by kernel_rfl) ?_ | refine wp_grow_tail 10 (by kernel_rfl) (by kernel_rfl) ?_
              simp only [List.take_succ_cons, List.take_zero, List.drop_succ_cons, List.drop_zero]
              repeat (go_big_quiet_step (fail))
              refine wpQuiet_nil ?_
              rintro _ ⟨X, rfl⟩
              go_wp2_with (first | (go_at_call 25; have hpt := pt4 X.world D o m e x y z a0 a1 t _ false y z r c (xd.below X.grow) rfl; have hba := bar4 X.world w D o (.int .u8 (heldN false y z)) (.int .i64 r) (.int .i64 c) (.bool true) (hbr.below X.grow); have htb := ht.bar hba.1 hD; (with_reducible refine (cB _ _ hpt htb).mono ?_); rintro e' w9 ⟨v, xs, rfl, hrd, hxs, hb9⟩))
              go_ret2
              exact ⟨v, xs, rfl, hrd, by rw [HE.out]; exact hxs, by rw [HA.out]; exact hpt.below hb9, hba.below hb9⟩
          · have ob := andNot_2 x y z
            have HA : Hid (afterP ⟨m, e, x, y, z, a0, a1, t⟩ 2 2 r c = ⟨m, e, x, false, z, r, c, true⟩) := rfl
            cases sent
            · have HE : Hid (S = ⟨#[]⟩) := HS.out
              clear HS
              go_wp2_with fail
              first | refine wp_grow_tail2 10 (by kernel_rfl) (by kernel_rfl) ?_ | refine wp_grow_tail 10 (by kernel_rfl) (by kernel_rfl) ?_
              simp only [List.take_succ_cons, List.take_zero, List.drop_succ_cons, List.drop_zero]
              repeat (go_big_quiet_step (fail))
              refine wpQuiet_nil ?_
              rintro _ ⟨X, rfl⟩
              go_wp2_with fail
              go_ret2
              exact ⟨_, [], rfl, Rd.nil _ _, by rw [HE.out]; rfl, by rw [HA.out]; with_reducible exact pt4 _ _ _ _ _ _ _ _ _ _ _ _ _ _ _ _ _ (xd.below X.grow) rfl, by with_reducible exact bar4 _ _ _ _ _ _ _ _ (hbr.below X.grow)⟩
            · have HE : Hid (S = outS e 2 (cd + mdv) r c) := HS.out
              clear HS
              go_wp2_with fail
              first | refine wp_grow_tail2 10 (by kernel_rfl) (by kernel_rfl) ?_ | refine wp_grow_tail 10 (by kernel_rfl) (by kernel_rfl) ?_
              simp only [List.take_succ_cons, List.take_zero, List.drop_succ_cons, List.drop_zero]
              repeat (go_big_quiet_step (fail))
              refine wpQuiet_nil ?_
              rintro _ ⟨X, rfl⟩
              go_wp2_with (first | (go_at_call 25; have hpt := pt4 X.world D o m e x y z a0 a1 t _ x false z r c (xd.below X.grow) rfl; have hba := bar4 X.world w D o (.int .u8 (heldN x false z)) (.int .i64 r) (.int .i64 c) (.bool true) (hbr.below X.grow); have htb := ht.bar hba.1 hD; (with_reducible refine (cB _ _ hpt htb).mono ?_); rintro e' w9 ⟨v, xs, rfl, hrd, hxs, hb9⟩))
              go_ret2
              exact ⟨v, xs, rfl, hrd, by rw [HE.out]; exact hxs, by rw [HA.out]; exact hpt.below hb9, hba.below hb9⟩
          · have ob := andNot_3 x y z
            have HA : Hid (afterP ⟨m, e, x, y, z, a0, a1, t⟩ 2 3 r c = ⟨m, e, x, y, false, r, c, true⟩) := rfl
            cases sent
            · have HE : Hid (S = ⟨#[]⟩) := HS.out
              clear HS
              go_wp2_with fail
              first | refine wp_grow_tail2 10 (by kernel_rfl) (by kernel_rfl) ?_ | refine wp_grow_tail 10 (by kernel_rfl) (by kernel_rfl) ?_
              simp only [List.take_succ_cons, List.take_zero, List.drop_succ_cons, List.drop_zero]
              repeat (go_big_quiet_step (fail))
              refine wpQuiet_nil ?_
              rintro _ ⟨X, rfl⟩
              go_wp2_with fail
              go_ret2
              exact ⟨_, [], rfl, Rd.nil _ _, by rw [HE.out]; rfl, by rw [HA.out]; with_reducible exact pt4 _ _ _ _ _ _ _ _ _ _ _ _ _ _ _ _ _ (xd.below X.grow) rfl, by with_reducible exact bar4 _ _ _ _ _ _ _ _ (hbr.below X.grow)⟩
            · have HE : Hid (S = outS e 2 (cd + mdv) r c) := HS.out
              clear HS
              go_wp2_with fail
              first | refine wp_grow_tail2 10 (by kernel_rfl) (by kernel_rfl) ?_ | refine wp_grow_tail 10 (by kernel_rfl) (by kernel_rfl) ?_
              simp only [List.take_succ_cons, List.take_zero, List.drop_succ_cons, List.drop_zero]
              repeat (go_big_quiet_step (fail))
              refine wpQuiet_nil ?_
              rintro _ ⟨X, rfl⟩
              go_wp2_with (first | (go_at_call 25; have hpt := pt4 X.world D o m e x y z a0 a1 t _ x y false r c (xd.below X.grow) rfl; have hba := bar4 X.world w D o (.int .u8 (heldN x y false)) (.int .i64 r) (.int .i64 c) (.bool true) (hbr.below X.grow); have htb := ht.bar hba.1 hD; (with_reducible refine (cB _ _ hpt htb).mono ?_); rintro e' w9 ⟨v, xs, rfl, hrd, hxs, hb9⟩))
              go_ret2
              exact ⟨v, xs, rfl, hrd, by rw [HE.out]; exact hxs, by rw [HA.out]; exact hpt.below hb9, hba.below hb9⟩
      · have n1 : (k == 1) = false := by simp; omega
        have n2 : (k == 2) = false := by simp; omega
        have HA : Hid (afterP ⟨m, e, x, y, z, a0, a1, t⟩ k 0 r c = ⟨m, e, x, y, z, r, c, true⟩) := by
          unfold Hid afterP heldAt
          simp
        cases sent
        · have HE : Hid (S = ⟨#[]⟩) := HS.out
          clear HS
          go_wp2_with fail
          go_ret2
          have g1 : PtB (((wr.setCell ⟨D, o + 3, none⟩ (.int .i64 r)).setCell ⟨D, o + 3 + 1, none⟩ (.int .i64 c)).setCell ⟨D, o + 5, none⟩ (.bool true)) D o (afterP ⟨m, e, x, y, z, a0, a1, t⟩ k 0 r c) := by rw [HA.out]; exact pt3 _ _ _ _ _ _ _ _ _ _ _ _ _ xd
          have g2 := bar3 wr w D o (.int .i64 r) (.int .i64 c) (.bool true) hbr
          have g3 : strOfNums ([] : List Int) = S := by rw [HE.out]; rfl
          refine ⟨.slice none 0 0, ?_⟩
          first | exact ⟨[], rfl, Rd.nil _ _, g3, g1, g2⟩ | exact ⟨rfl, [], Rd.nil _ _, g3, g1, g2⟩
        · have HE : Hid (S = outS e k (cd + mdv) r c) := HS.out
          clear HS
          go_wp2_with (first | (go_at_call 25; have hpt := pt3 wr D o m e x y z a0 a1 t r c xd; have hba := bar3 wr w D o (.int .i64 r) (.int .i64 c) (.bool true) hbr; have htb := ht.bar hba.1 hD; (with_reducible refine (cB _ _ hpt htb).mono ?_); rintro e' w9 ⟨v, xs, rfl, hrd, hxs, hb9⟩))
          go_ret2
          exact ⟨v, xs, rfl, hrd, by rw [HE.out]; exact hxs, by rw [HA.out]; exact hpt.below hb9, hba.below hb9⟩

end Go.Proofs.YtfhigmogcpocpaaDoor
