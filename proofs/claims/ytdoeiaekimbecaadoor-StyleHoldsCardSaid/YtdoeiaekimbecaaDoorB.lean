/- style: valid pens, checked numbers, groups. -/
import Derived.Test.YtdoeiaekimbecaaDoorA
import Derived.Outline
set_option linter.unusedSimpArgs false
set_option linter.unusedVariables false
set_option linter.unnecessarySimpa false
namespace Go.Proofs.YtdoeiaekimbecaaDoor
open Go.RowKit

structure Pn where
  f : Co
  b : Co
  x : Int
deriving DecidableEq
abbrev Pn.a (p : Pn) : Array Value := #[.int .i64 p.f.k, .int .u8 p.f.i, .int .u8 p.f.r, .int .u8 p.f.g, .int .u8 p.f.b, .int .i64 p.b.k, .int .u8 p.b.i, .int .u8 p.b.r, .int .u8 p.b.g, .int .u8 p.b.b, .int .u8 p.x]
def validP (p : Pn) : Bool := validC p.f && validC p.b
theorem valid_any (p : Pn) (w : World) : Calls Tryd.prog 9 #[.agg p.a] w fun e w' => e = .returned (.bool (validP p)) ∧ Below w.heap.size w w' := by
  have cF := fun W => validC_any p.f W
  have cB := fun W => validC_any p.b W
  unfold validP
  cases hf : validC p.f
  · rw [hf] at cF
    go_enter Tryd.func9, Tryd.ntmps9
    go_wp2_with (first | (go_at_call 22; (with_reducible refine (cF _).mono ?_); rintro e w1 ⟨rfl, hb1⟩))
    go_ret
    exact ⟨rfl, bl_trans (bl_alloc (Below.refl _ _) _) hb1⟩
  · rw [hf] at cF
    have HV : Hid ((true && validC p.b) = validC p.b) := Lib.hid rfl
    have cF2 := fun (W : World) (h : Below w.heap.size w W) => cF W
    have hx0 : Box (w.alloc (.cells p.a 27)) w.heap.size p.a 27 := Box.new _ _ _ rfl
    generalize validC p.b = vb at *
    go_enter Tryd.func9, Tryd.ntmps9
    go_wp2_with (first | (go_at_call 22; (with_reducible refine (cF _).mono ?_); rintro e w1 ⟨rfl, hb1⟩; have hx1 : Box w1 w.heap.size p.a 27 := (hb1.block _ hx0.lt).trans hx0; have hc1 := hx1.cell; have hl1 := hx1.lt; clear cF) | (go_at_call 22; (with_reducible refine (cB _).mono ?_); rintro e w2 ⟨rfl, hb2⟩))
    go_ret
    exact ⟨rfl, bl_trans (bl_trans (bl_alloc (Below.refl _ _) _) hb1) hb2⟩
/-- No number is greater than 9999. -/
def rightN (l : List Int) : Bool := l.all fun n => decide (n ≤ 9999)
theorem right_take (l : List Int) (k : Nat) (h : k < l.length) : rightN (l.take (k + 1)) = (rightN (l.take k) && decide (l[k] ≤ 9999)) := by
  unfold rightN
  rw [List.take_succ_eq_append_getElem h, List.all_append]
  simp
theorem right_le (l : List Int) (k : Nat) (h : rightN (l.take k) = false) : rightN l = false := by
  cases hl : rightN l
  · rfl
  · rw [← h]
    unfold rightN at hl ⊢
    rw [List.all_eq_true] at hl
    symm
    rw [List.all_eq_true]
    exact fun x hx => hl x (List.mem_of_mem_take hx)
def chkN (b : Bool) : Int := if b then 0 else 2
theorem check_any (v : Value) (l : List Int) (w : World) (h : Rd w .i64 v l) : Calls Tryd.prog 30 #[v] w fun e w' => e = .returned (.int .i64 (chkN (rightN l))) ∧ Below w.heap.size w w' := by
  obtain ⟨p, cap, rfl, hlc, hcm, hcell⟩ := h
  unfold maxLen at hcm
  go_enter Tryd.func30, Tryd.ntmps30
  go_wp2_with fail
  go_loopw [7] (fun i wr => ∃ k : Nat, k ≤ l.length ∧ i = .int .i64 k ∧ rightN (l.take k) = true ∧ Below w.heap.size w wr) (fun i _ => l.length - (intOf i).toNat)
  case atStart => exact ⟨0, by omega, rfl, rfl, Below.refl _ _⟩
  case round =>
    obtain ⟨k, hk, rfl, hr, hbel⟩ := hrel
    by_cases hlt : k < l.length
    · obtain ⟨b, off, rfl, hbl, hc⟩ := Rd.at hcell hlc hlt
      have hcr : wr.cell? ⟨b, off + k, none⟩ = some (.int .i64 l[k]) := (hbel.cell (p := ⟨b, off + k, none⟩) hbl).trans hc
      have hbw : b < wr.heap.size := Nat.lt_of_lt_of_le hbl hbel.size
      have ht := right_take l k hlt
      rw [hr, Bool.true_and] at ht
      have HT := Lib.hid ht
      have HL := Lib.hid (right_le l (k + 1))
      have hltI : (k : Int) < (l.length : Int) := by omega
      clear hc hcell hr ht
      generalize l[k] = n at *
      by_cases hn : n ≤ 9999
      · go_wp2_with fail
        go_roundw
        case rel => first | exact ⟨k + 1, by omega, by go_num, by (rw [HT.out, decide_eq_true_eq]; exact hn), hbel⟩ | ((repeat apply Exists.intro); exact ⟨⟨k + 1, by omega, by go_num, by (rw [HT.out, decide_eq_true_eq]; exact hn), hbel⟩, rfl⟩)
        case measure => simp [intOf]; omega
      · go_wp2_with fail
        go_ret
        exact ⟨by rw [HL.out (by rw [HT.out, decide_eq_false_iff_not]; omega)]; rfl, hbel⟩
    · obtain rfl : k = l.length := by omega
      rw [List.take_length] at hr
      have HR := Lib.hid hr
      clear hr
      go_wp2_with fail
      go_ret
      exact ⟨by rw [HR.out]; rfl, hbel⟩
/-- How many numbers the first group has. -/
def groupN (l : List Int) : Nat := if (l.getD 0 0 = 38 ∨ l.getD 0 0 = 48) ∧ 2 ≤ l.length then (if l.getD 1 0 = 5 then min 3 l.length else if l.getD 1 0 = 2 then min 5 l.length else 1) else 1
theorem group_pos (l : List Int) (h : l ≠ []) : 1 ≤ groupN l ∧ groupN l ≤ l.length := by
  have := List.length_pos_iff.2 h
  unfold groupN
  repeat' split
  all_goals omega
theorem cells01 {w : World} {v : Value} {l : List Int} (h : Rd w .i64 v l) (h0 : 0 < l.length) : ∃ b off cap, v = .slice (some ⟨b, off, none⟩) l.length cap ∧ b < w.heap.size ∧ w.cell? ⟨b, off, none⟩ = some (.int .i64 (l.getD 0 0)) ∧ (2 ≤ l.length → w.cell? ⟨b, off + 1, none⟩ = some (.int .i64 (l.getD 1 0))) := by
  obtain ⟨p, cap, rfl, h1, h2, h3⟩ := h
  rcases h3 with ⟨_, h⟩ | ⟨b, off, rfl, hlt, hc⟩
  · omega
  · refine ⟨b, off, cap, rfl, hlt, ?_, fun h2 => ?_⟩
    · have := hc 0 _ (List.getElem?_eq_getElem h0)
      rw [Nat.add_zero] at this
      rw [this, List.getD_eq_getElem?_getD, List.getElem?_eq_getElem h0]; rfl
    · have h1 : 1 < l.length := by omega
      have := hc 1 _ (List.getElem?_eq_getElem h1)
      rw [this, List.getD_eq_getElem?_getD, List.getElem?_eq_getElem h1]; rfl
set_option maxHeartbeats 1000000 in
theorem group_any (v : Value) (l : List Int) (w : World) (h : Rd w .i64 v l) (h0 : 0 < l.length) : Calls Tryd.prog 31 #[v] w fun e w' => e = .returned (.int .i64 (groupN l)) ∧ Below w.heap.size w w' := by
  obtain ⟨b, off, cap, rfl, hbl, c0, c1⟩ := cells01 h h0
  have HG : Hid (groupN l = if (l.getD 0 0 = 38 ∨ l.getD 0 0 = 48) ∧ 2 ≤ l.length then (if l.getD 1 0 = 5 then min 3 l.length else if l.getD 1 0 = 2 then min 5 l.length else 1) else 1) := Lib.hid rfl
  have hll : l.length ≤ 9223372036854775807 := by obtain ⟨_, _, hv, q1, q2, _⟩ := h; unfold maxLen at q2; omega
  have HLL := Lib.hid hll
  clear h hll
  generalize l.getD 0 0 = x at *
  generalize l.getD 1 0 = y at *
  generalize groupN l = gn at *
  by_cases hx : x = 38 ∨ x = 48
  · by_cases h2 : 2 ≤ l.length
    · have c1' := c1 h2
      rw [if_pos ⟨hx, h2⟩] at HG
      clear c1
      have hy : y = 5 ∨ y = 2 ∨ (y ≠ 5 ∧ y ≠ 2) := by omega
      rcases hx with rfl | rfl
      all_goals
        rcases hy with rfl | rfl | ⟨hy5, hy2⟩
        · rw [if_pos rfl] at HG
          go_enter Tryd.func31, Tryd.ntmps31
          go_wp2_with fail
          go_ret
          exact ⟨ret_int (by rw [HG.out]; omega), Below.refl _ _⟩
        · rw [if_neg (by decide), if_pos rfl] at HG
          go_enter Tryd.func31, Tryd.ntmps31
          go_wp2_with fail
          go_ret
          exact ⟨ret_int (by rw [HG.out]; omega), Below.refl _ _⟩
        · rw [if_neg hy5, if_neg hy2] at HG
          have n5 : (y == 5) = false := by (rw [beq_eq_false_iff_ne]; exact hy5)
          have n2 : (y == 2) = false := by (rw [beq_eq_false_iff_ne]; exact hy2)
          clear hy5 hy2
          go_enter Tryd.func31, Tryd.ntmps31
          go_wp2_with fail
          go_ret
          exact ⟨ret_int (by rw [HG.out]; rfl), Below.refl _ _⟩
    · rw [if_neg (fun h => h2 h.2)] at HG
      have h3 : (l.length : Int) < 2 := by omega
      clear c1
      rcases hx with rfl | rfl
      all_goals
        go_enter Tryd.func31, Tryd.ntmps31
        go_wp2_with fail
        go_ret
        exact ⟨ret_int (by rw [HG.out]; rfl), Below.refl _ _⟩
  · rw [if_neg (fun h => hx h.1)] at HG
    have n1 : (x != 38) = true := by rw [bne_iff_ne]; omega
    have n2 : (x != 48) = true := by rw [bne_iff_ne]; omega
    clear hx c1
    go_enter Tryd.func31, Tryd.ntmps31
    go_wp2_with fail
    go_ret
    exact ⟨ret_int (by rw [HG.out]; rfl), Below.refl _ _⟩

end Go.Proofs.YtdoeiaekimbecaaDoor
