/- paste: the law's helper parts. -/
import Derived.Test.YtnihneffgbhjjaaDoorH
import Derived.Outline
set_option linter.unusedSimpArgs false
set_option linter.unusedVariables false
set_option linter.unnecessarySimpa false
namespace Go.Proofs.YtnihneffgbhjjaaDoor
open Go.RowKit

/-- A slice value reads as a list of strings. -/
def RdS (w : World) (v : Value) (ss : List ByteArray) : Prop :=
  ∃ p cap, v = .slice p ss.length cap ∧ ss.length ≤ cap ∧ cap ≤ maxLen ∧ ((p = none ∧ cap = 0) ∨ ∃ b off, p = some ⟨b, off, none⟩ ∧ b < w.heap.size ∧ ∀ i s, ss[i]? = some s → w.cell? ⟨b, off + i, none⟩ = some (.string s))
theorem RdS.nil (w : World) : RdS w (.slice none 0 0) [] := ⟨none, 0, rfl, by simp, by simp [maxLen], .inl ⟨rfl, rfl⟩⟩
theorem RdS.below {w w' : World} {v : Value} {ss : List ByteArray} (h : RdS w v ss) (hb : Below w.heap.size w w') : RdS w' v ss := by
  obtain ⟨p, cap, rfl, h1, h2, h3⟩ := h
  refine ⟨p, cap, rfl, h1, h2, h3.imp id fun ⟨b, off, hp, hlt, hc⟩ => ⟨b, off, hp, Nat.lt_of_lt_of_le hlt hb.size, fun i x hx => ?_⟩⟩
  rw [hb.cell (p := ⟨b, off + i, none⟩) hlt]
  exact hc i x hx
theorem OwnS.rds {w : World} {B : Nat} {v : Value} {ss : List ByteArray} (h : OwnS w B v ss) : RdS w v ss := by
  by_cases hne : ss = []
  · subst hne
    rcases h.2 with ⟨rfl, _⟩ | ⟨g, cap, cur, rfl, hb, hg, hnc, hcm, hcs, ht⟩
    · exact RdS.nil w
    · exact ⟨_, cap, rfl, hnc, hcm, .inr ⟨g, 0, rfl, (Array.getElem?_eq_some_iff.1 hg).1, fun i s hs => by simp at hs⟩⟩
  · obtain ⟨g, c, rfl, _, hgl, hlc, hcm, hcell⟩ := h.cells hne
    exact ⟨_, c, rfl, hlc, hcm, .inr ⟨g, 0, rfl, hgl, fun i s hs => by rw [Nat.zero_add]; exact hcell i s hs⟩⟩
theorem RdS.at {w : World} {p : Option Addr} {cap : Nat} {ss : List ByteArray} (h : (p = none ∧ cap = 0) ∨ ∃ b off, p = some ⟨b, off, none⟩ ∧ b < w.heap.size ∧ ∀ i s, ss[i]? = some s → w.cell? ⟨b, off + i, none⟩ = some (.string s))
    (hc : ss.length ≤ cap) {i : Nat} (hi : i < ss.length) : ∃ b off, p = some ⟨b, off, none⟩ ∧ b < w.heap.size ∧ w.cell? ⟨b, off + i, none⟩ = some (.string ss[i]) := by
  rcases h with ⟨_, h⟩ | ⟨b, off, hp, hlt, hcell⟩
  · omega
  · exact ⟨b, off, hp, hlt, hcell i _ (List.getElem?_eq_getElem hi)⟩
/-- What a slice of slices gives at an index. -/
theorem OwnSS.shape {w : World} {B : Nat} {v : Value} {xss : List (List Int)} (h : OwnSS w B v xss) : ∃ p cap, v = .slice p xss.length cap ∧ xss.length ≤ maxLen ∧
    ∀ i (hi : i < xss.length), ∃ g u, p = some ⟨g, 0, none⟩ ∧ g < w.heap.size ∧ w.cell? ⟨g, i, none⟩ = some u ∧ Own w B 5 .u8 u xss[i] := by
  obtain ⟨vs, h1, h2, h3⟩ := h
  rcases h2.2 with ⟨rfl, h0⟩ | ⟨g, cap, cur, rfl, hb, hg, hnc, hcm, hcs, ht⟩
  · exact ⟨none, 0, by rw [← h1, h0], by rw [← h1, h0]; simp [maxLen], fun i hi => by omega⟩
  · refine ⟨some ⟨g, 0, none⟩, cap, by rw [h1], by omega, fun i hi => ?_⟩
    have hi' : i < vs.length := by omega
    refine ⟨g, vs[i], rfl, (Array.getElem?_eq_some_iff.1 hg).1, ?_, h3 i _ _ (List.getElem?_eq_getElem hi') (List.getElem?_eq_getElem hi)⟩
    rw [cell_of_row w g i cur 22 (0, 0) hg]
    have h4 : vs[i]? = some vs[i] := List.getElem?_eq_getElem hi'
    have h5 : (List.take (vs.length * 1) cur.toList)[i]? = some vs[i] := by rw [ht]; exact h4
    rw [Nat.mul_one, List.getElem?_take, if_pos hi'] at h5
    simpa using h5
theorem parts_nil (vb : Value) (size n : Int) (w : World) (cC : ∀ W, Below w.heap.size w W → Calls Tryd.prog 15 #[vb, .int .i64 size] W fun e w' => e = .returned (.tuple #[.slice none 0 0, .int .i64 n]) ∧ Below W.heap.size W w') :
    Calls Tryd.prog 14 #[vb, .int .i64 size, .slice none 0 0, .int .i64 n] w fun e w' => e = .returned (.bool true) ∧ Below w.heap.size w w' := by
  go_enter Tryd.func14, Tryd.ntmps14
  go_wp2_with (first | (go_at_call 15; (with_reducible refine (cC _ (Below.refl _ _)).mono ?_); rintro e w1 ⟨rfl, hb1⟩))
  go_loopw [11] (fun i wr => i = .int .i64 0 ∧ Below w1.heap.size w1 wr) (fun _ _ => 0)
  case atStart => exact ⟨rfl, Below.refl _ _⟩
  case round =>
    obtain ⟨rfl, hbel⟩ := hrel
    go_wp2_with fail
    go_ret
    exact ⟨rfl, bl_trans hb1 hbel⟩
set_option maxHeartbeats 4000000 in
theorem parts_of (vb wv : Value) (size : Int) (yss : List (List Int)) (w : World) (hw : RdS w wv (yss.map strOfNums)) (cC : ∀ W, Below w.heap.size w W → Calls Tryd.prog 15 #[vb, .int .i64 size] W (PcE yss W)) :
    Calls Tryd.prog 14 #[vb, .int .i64 size, wv, .int .i64 0] w fun e w' => e = .returned (.bool true) ∧ Below w.heap.size w w' := by
  obtain ⟨pw, cw, rfl, hw1, hw2, hw3⟩ := hw
  rw [List.length_map] at hw1 ⊢
  unfold PcE at cC
  unfold maxLen at hw2
  go_enter Tryd.func14, Tryd.ntmps14
  go_wp2_with (first | (go_at_call 15; (with_reducible refine (cC _ (Below.refl _ _)).mono ?_); rintro e w1 ⟨v, rfl, hown, hb1⟩; obtain ⟨pv, cv, hve, hlm, hat⟩ := hown.shape; subst hve; unfold maxLen at hlm; have HA := Lib.hid hat; clear hat hown))
  go_loopw [11] (fun i wr => ∃ k : Nat, k ≤ yss.length ∧ i = .int .i64 k ∧ Below w1.heap.size w1 wr) (fun i _ => yss.length - (intOf i).toNat)
  case atStart => exact ⟨0, by omega, rfl, Below.refl _ _⟩
  case round =>
    obtain ⟨k, hk, rfl, hbel⟩ := hrel
    by_cases hlt : k < yss.length
    · obtain ⟨b, off, rfl, hbl, hc⟩ := RdS.at hw3 (by rw [List.length_map]; exact hw1) (show k < (yss.map strOfNums).length by rw [List.length_map]; exact hlt)
      obtain ⟨g, u, rfl, hgl, hcu, hou⟩ := HA.out k hlt
      have hcr : wr.cell? ⟨b, off + k, none⟩ = some (.string (strOfNums yss[k])) := by
        rw [(bl_trans hb1 hbel).cell (p := ⟨b, off + k, none⟩) hbl, hc, List.getElem_map]
      have hcu2 : wr.cell? ⟨g, k, none⟩ = some u := (hbel.cell (p := ⟨g, k, none⟩) hgl).trans hcu
      have hru := (hou.kept hbel).rd
      have hbw : b < wr.heap.size := Nat.lt_of_lt_of_le hbl (bl_trans hb1 hbel).size
      have hgw : g < wr.heap.size := Nat.lt_of_lt_of_le hgl hbel.size
      have hltI : (k : Int) < (yss.length : Int) := by omega
      have kcX : ∀ X : GW wr, (convert 22 9 u).run Tryd.prog X.world = .ok (.string (strOfNums yss[k])) X.world := fun X => run_str (P := Tryd.prog) 22 9 5 Tryd.underlying22 Tryd.underlying5 Tryd.underlying9 (hru.below (GW.grow X))
      obtain ⟨pu, nu, cu, hue⟩ := hru.shape
      subst hue
      clear hc hcu hou hru hw3
      generalize strOfNums yss[k] = S at *
      go_upto_region 7 with fail
      first | refine wp_grow2 (by kernel_rfl) (by kernel_rfl) ?_ | refine wp_grow (by kernel_rfl) (by kernel_rfl) ?_
      repeat (go_big_quiet_step (fail))
      refine wpQuiet_nil ?_
      rintro _ ⟨X, rfl⟩
      go_wp2_with fail
      go_roundw
      case rel => first | exact ⟨k + 1, by omega, by go_num, bl_trans hbel (GW.grow X)⟩ | ((repeat apply Exists.intro); exact ⟨⟨k + 1, by omega, by go_num, bl_trans hbel (GW.grow X)⟩, rfl⟩)
      case measure => simp [intOf]; omega
    · obtain rfl : k = yss.length := by omega
      go_wp2_with fail
      go_ret
      exact ⟨rfl, bl_trans hb1 hbel⟩
theorem pcsL_len (size : Int) (ds : List Int) : (pcsL size ds).length ≤ ds.length := by
  unfold pcsL
  generalize ds.length = f
  induction f generalizing ds with
  | zero => simp [pcs]
  | succ f ih =>
    match ds with
    | [] => simp [pcs]
    | r :: rs => unfold pcs; rw [List.length_cons]; have := ih (fit size 0 (r :: rs)).2; omega
theorem parts_ok (vb wv : Value) (size : Int) (l : List Int) (w : World) (hg : Gl w) (hb : Rd w .u8 vb l) (hl : ∀ x ∈ l, Byte x) (hlen : l.length ≤ 1048576) (hs : 4 ≤ size) (hs2 : size ≤ 9223372036854775807) (hw : RdS w wv ((pcsL size (clnD l)).map fun p => strOfNums (encL p))) :
    Calls Tryd.prog 14 #[vb, .int .i64 size, wv, .int .i64 0] w fun e w' => e = .returned (.bool true) ∧ Below w.heap.size w w' :=
  parts_of vb wv size ((pcsL size (clnD l)).map encL) w (by rw [List.map_map]; exact hw) fun W h => pieces_ok vb size l W (hg.below h) (hb.below h) hl hlen hs hs2
theorem parts_arg (vb : Value) (size : Int) (l : List Int) (w : World) (hb : Rd w .u8 vb l) (hl : ∀ x ∈ l, Byte x) (hlen : l.length ≤ 1048576) (hs : size < 4) :
    Calls Tryd.prog 14 #[vb, .int .i64 size, .slice none 0 0, .int .i64 2] w fun e w' => e = .returned (.bool true) ∧ Below w.heap.size w w' :=
  parts_nil vb size 2 w fun W h => pieces_arg vb size l W (hb.below h) hl hlen hs
theorem parts_no (vb : Value) (size : Int) (l : List Int) (w : World) (hb : Rd w .u8 vb l) (hlen : 1048576 < l.length) :
    Calls Tryd.prog 14 #[vb, .int .i64 size, .slice none 0 0, .int .i64 5] w fun e w' => e = .returned (.bool true) ∧ Below w.heap.size w w' :=
  parts_nil vb size 5 w fun W h => pieces_no vb size l W (hb.below h) hlen

end Go.Proofs.YtnihneffgbhjjaaDoor
