/- style: the door: what the listed variables give, and the start that meets the condition; pens that came in. Printed by mk_w.py. -/
import Derived.Test.YtdoeiaekimbecaaDoorV
import Derived.Test.YtdoeiaekimbecaaDoorLift
import Derived.Test.YtdoeiaekimbecaaDoorOpen
import Derived.LaidMore
import Derived.OpenShut
import Derived.Stop.Joined
import Derived.Lib.LaidTab
import Derived.ChangeSame
set_option linter.unusedSimpArgs false
set_option linter.unusedVariables false
set_option linter.unnecessarySimpa false
namespace Go.Proofs.YtdoeiaekimbecaaDoor
open Go.ChangeShapes Go.WideShapes Go.ChangeAt Go.RowKit

abbrev laid4 : List (String × DataW Unit) := [("math/bits.deBruijn32tab", Rows.laid_math_bits_deBruijn32tab), ("math/bits.deBruijn64tab", Rows.laid_math_bits_deBruijn64tab), ("internal/strconv.uint64pow10", Rows.laid_internal_strconv_uint64pow10), ("scrollback/style.marks", Rows.laid_scrollback_style_marks)]
theorem tabType : (Tryd.prog.globals[1]?).map (·.type) = some 90 := by kernel_rfl
theorem tabData_eq : (Rows.laid_internal_strconv_uint64pow10 : DataW Unit) = Lib.tabData .u64 Lib.pow10Tab := by kernel_rfl
theorem gMar : Tryd.prog.globalNamed "scrollback/style.marks" = some 0 := by kernel_rfl
theorem marType : (Tryd.prog.globals[0]?).map (·.type) = some 62 := by kernel_rfl
set_option maxRecDepth 100000 in
set_option maxHeartbeats 2000000 in
theorem mark_cells {H : Type} {enc : TypeId × Value → H} {w : World} {base : Nat} {sp : Nat → Bool} {held : Bool} {fuel : Nat} {cs : List Value} {p : List MemPlace}
    (h : DataW.trod enc Tryd.prog w base sp held fuel 62 cs = some (Rows.laid_scrollback_style_marks, p)) : cs = marksA.toList := by
  obtain ⟨xs, m1, rfl, hx, hlen, hn, hel⟩ := DataW.trod_array Tryd.underlying62 h
  have hx1 : Rows.laid_scrollback_style_marks = DataW.agg (xs.map (·.1)) := congrArg Prod.fst hx
  have hc : Tryd.prog.cellsOf 61 = 2 := by kernel_rfl
  have hc68 : Tryd.prog.cellsOf 62 = 16 := by kernel_rfl
  have hc21 : Tryd.prog.cellsOf 25 = 1 := by kernel_rfl
  have hc3 : Tryd.prog.cellsOf 3 = 1 := by kernel_rfl
  have hx2 := DataW.agg.inj hx1
  rw [hc68] at hlen
  have key : ∀ j, j < 8 → cs[2 * j]? = some (.int .u8 (mF j)) ∧ cs[2 * j + 1]? = some (.int .i64 (mN j)) := by
    intro j hj
    have h0 := hel j hj
    obtain ⟨x, hxj, hxd⟩ : ∃ x, xs[j]? = some x ∧ x.1 = (.agg [.lit (.int .u8 (mF j)), .lit (.int .i64 (mN j))] : DataW H) := by
      have e := congrArg (·[j]?) hx2
      simp only [List.getElem?_map] at e
      have hL : ([.agg [.lit (.int .u8 1), .lit (.int .i64 1)], .agg [.lit (.int .u8 2), .lit (.int .i64 2)], .agg [.lit (.int .u8 4), .lit (.int .i64 3)], .agg [.lit (.int .u8 8), .lit (.int .i64 4)], .agg [.lit (.int .u8 16), .lit (.int .i64 5)], .agg [.lit (.int .u8 32), .lit (.int .i64 7)], .agg [.lit (.int .u8 64), .lit (.int .i64 8)], .agg [.lit (.int .u8 128), .lit (.int .i64 9)]] : List (DataW H))[j]? = some (.agg [.lit (.int .u8 (mF j)), .lit (.int .i64 (mN j))]) := by
        match j, hj with
        | 0, _ => rfl
        | 1, _ => rfl
        | 2, _ => rfl
        | 3, _ => rfl
        | 4, _ => rfl
        | 5, _ => rfl
        | 6, _ => rfl
        | 7, _ => rfl
      have e2 := hL.symm.trans e
      obtain ⟨x, h1, h2⟩ := Option.map_eq_some_iff.1 e2.symm
      exact ⟨x, h1, h2⟩
    rw [hxj] at h0
    rw [hc] at h0
    obtain ⟨y0, y1, n, e, hl, f0, f1⟩ := trod_struct2 Tryd.underlying61 h0
    obtain ⟨n0, g1, g2, _⟩ := DataW.trod_int Tryd.underlying25 f0
    obtain ⟨n1, g3, g4, _⟩ := DataW.trod_int Tryd.underlying3 f1
    have e1 : x.1 = .agg [y0.1, y1.1] := congrArg Prod.fst e
    rw [hxd, g2, g4] at e1
    simp at e1
    obtain ⟨rfl, rfl⟩ := e1
    simp only [hc21, hc3] at g1 g3
    constructor
    · have := congrArg (·[0]?) g1
      simpa [List.getElem?_take, List.getElem?_drop, Nat.mul_comm] using this
    · have := congrArg (·[0]?) g3
      simpa [List.getElem?_take, List.getElem?_drop, Nat.mul_comm] using this
  apply List.ext_getElem?
  intro i
  by_cases hi : i < 16
  · rcases Nat.mod_two_eq_zero_or_one i with h2 | h2
    · obtain ⟨j, rfl⟩ : ∃ j, i = 2 * j := ⟨i / 2, by omega⟩
      rw [(key j (by omega)).1]
      have hj : j < 8 := by omega
      match j, hj with
      | 0, _ => rfl
      | 1, _ => rfl
      | 2, _ => rfl
      | 3, _ => rfl
      | 4, _ => rfl
      | 5, _ => rfl
      | 6, _ => rfl
      | 7, _ => rfl
    · obtain ⟨j, rfl⟩ : ∃ j, i = 2 * j + 1 := ⟨i / 2, by omega⟩
      rw [(key j (by omega)).2]
      have hj : j < 8 := by omega
      match j, hj with
      | 0, _ => rfl
      | 1, _ => rfl
      | 2, _ => rfl
      | 3, _ => rfl
      | 4, _ => rfl
      | 5, _ => rfl
      | 6, _ => rfl
      | 7, _ => rfl
  · rw [List.getElem?_eq_none (by omega), List.getElem?_eq_none (by show 16 ≤ i; omega)]
structure Gl (w : World) : Prop where
  m : Mk w
  t : Pm.Tab w
theorem Gl.below {w w' : World} (h : Gl w) (hb : Below w.heap.size w w') : Gl w' := ⟨h.m.below hb, h.t.below hb⟩
theorem gl_of_laid {W : World} (h : laidMetH Tryd.prog laid4 W) : Gl W := by
  rw [MakeChecks.laidMetH_plain _ _ _ (by kernel_rfl)] at h
  obtain ⟨ps, ⟨g0, t0, cs0, f0, p0, q0, hg0, ht0, hv0, hd0, ⟨g1, t1, cs1, f1, p1, q1, hg1, ht1, hv1, hd1, ⟨g2, t2, cs2, f2, p2, q2, hg2, ht2, hv2, hd2, ⟨g3, t3, cs3, f3, p3, q3, hg3, ht3, hv3, hd3, _, _⟩, _⟩, _⟩, _⟩, _, _⟩ := h
  obtain rfl := Option.some.inj (Pm.gTab.symm.trans hg2)
  obtain rfl := Option.some.inj (tabType.symm.trans ht2)
  obtain rfl := Option.some.inj (gMar.symm.trans hg3)
  obtain rfl := Option.some.inj (marType.symm.trans ht3)
  rw [tabData_eq] at hd2
  have e2 := Lib.cells_of_tab Tryd.underlying90 Tryd.underlying83 (by kernel_rfl) (by kernel_rfl) hd2
  have e5 := mark_cells hd3
  refine ⟨?_, ?_⟩
  · unfold Mk
    unfold World.var? at hv3
    rw [hg3, Option.bind_some] at hv3
    split at hv3
    · rename_i cs t fr hh
      have e6 := Option.some.inj hv3
      subst e6
      exact ⟨t, fr, by rw [hh]; congr 2; exact Array.toList_inj.1 e5⟩
    · cases hv3
  · unfold Pm.Tab Lib.TabIs
    rw [hv2, ← e2]
theorem door_met (os : Os) (args : Array Value) : laidMetH Tryd.prog laid4 ((World.doorLaid Tryd.prog 400 os).forCall (fun _ _ => 0) ⟨#[], args, []⟩).memory :=
  laidMetH_of_parts3 (fuel := 8) (laidMet_of_run' 8 (by kernel_rfl) (by kernel_rfl)) (by kernel_rfl) (by kernel_rfl)
theorem cellsK : Tryd.prog.cellsOf 22 = 1 := by kernel_rfl
theorem cells8 : Tryd.prog.cellsOf 5 = 1 := by kernel_rfl
theorem cellsFl : Tryd.prog.cellsOf 25 = 1 := by kernel_rfl
theorem cellsCo : Tryd.prog.cellsOf 24 = 5 := by kernel_rfl
theorem cellsPn : Tryd.prog.cellsOf 27 = 11 := by kernel_rfl
theorem len_some {α : Type} {xs : List α} {n i : Nat} (h : xs.length = n) (hi : i < n) : (xs[i]?).isSome = true := by simp [h, hi]
theorem five {l : List Value} (h : l.length = 5) : ∃ a b c d e, l = [a, b, c, d, e] := by
  match l, h with
  | [a, b, c, d, e], _ => exact ⟨a, b, c, d, e, rfl⟩
theorem wf_u8 {n : Int} (h : (Lit.int .u8 n).wf = true) : 0 ≤ n ∧ n ≤ 255 := by
  have := wf_byte h
  unfold Byte at this
  omega
section
variable {H : Type} {enc : TypeId × Value → H} {W : World} {base b0 : Nat} {spare : Nat → Bool} {held : Bool} {r : Reach}
/-- A color in a pen that came in. -/
theorem field_color {fuel : Nat} {cs : List Value} {x : Option (DataW H × List MemPlace)} (h : DataW.trod enc Tryd.prog W base spare held fuel 24 cs = x) (hx : x.isSome = true) (hl : cs.length = 5) :
    ∃ c : Co, cs = c.a.toList ∧ wfC c := by
  obtain ⟨y, rfl⟩ := Option.isSome_iff_exists.1 hx
  obtain ⟨c0, c1, c2, c3, c4, rfl⟩ := five hl
  obtain ⟨xs, n, _, _, _, hlen, hg⟩ := DataW.trod_struct Tryd.underlying24 h
  have h0 := hg 0 _ rfl
  have h1 := hg 1 _ rfl
  have h2 := hg 2 _ rfl
  have h3 := hg 3 _ rfl
  have h4 := hg 4 _ rfl
  simp [cellsK, cells8] at h0 h1 h2 h3 h4
  obtain ⟨k, rfl, _⟩ := field_int Tryd.underlying22 h0 (len_some hlen (by decide))
  obtain ⟨i, rfl, w1⟩ := field_int Tryd.underlying5 h1 (len_some hlen (by decide))
  obtain ⟨r, rfl, w2⟩ := field_int Tryd.underlying5 h2 (len_some hlen (by decide))
  obtain ⟨g, rfl, w3⟩ := field_int Tryd.underlying5 h3 (len_some hlen (by decide))
  obtain ⟨b, rfl, w4⟩ := field_int Tryd.underlying5 h4 (len_some hlen (by decide))
  exact ⟨⟨k, i, r, g, b⟩, rfl, wf_u8 w1, wf_u8 w2, wf_u8 w3, wf_u8 w4⟩
theorem eleven {l : List Value} (h : l.length = 11) : ∃ a b c d e f g i j k m, l = [a, b, c, d, e, f, g, i, j, k, m] := by
  match l, h with
  | [a, b, c, d, e, f, g, i, j, k, m], _ => exact ⟨a, b, c, d, e, f, g, i, j, k, m, rfl⟩
theorem open_pen {v : Value} {d : DataW H} {p : List MemPlace} (hv : Value.okWide Tryd.prog W r b0 27 v) (h : DataW.Trod enc Tryd.prog W base spare held 27 v d p) : ∃ q : Pn, v = .agg q.a ∧ wfP q := by
  obtain ⟨⟨cs⟩, rfl, hsz⟩ := okWide_struct Tryd.underlying27 hv
  obtain ⟨a0, a1, a2, a3, a4, b0, b1, b2, b3, b4, x0, rfl⟩ := eleven (l := cs) (by rw [cellsPn] at hsz; simpa using hsz)
  obtain ⟨fuel, hf⟩ := h
  obtain ⟨xs, n, _, _, _, hlen, hg⟩ := DataW.trod_struct Tryd.underlying27 hf
  have h0 := hg 0 _ rfl
  have h1 := hg 1 _ rfl
  have h2 := hg 2 _ rfl
  simp [Value.cells, cellsCo, cellsFl] at h0 h1 h2
  obtain ⟨f, ef, wf⟩ := field_color h0 (len_some hlen (by decide)) rfl
  obtain ⟨b, eb, wb⟩ := field_color h1 (len_some hlen (by decide)) rfl
  obtain ⟨x, rfl, wx⟩ := field_int Tryd.underlying25 h2 (len_some hlen (by decide))
  simp only [Co.a, List.cons.injEq, and_true] at ef eb
  obtain ⟨rfl, rfl, rfl, rfl, rfl⟩ := ef
  obtain ⟨rfl, rfl, rfl, rfl, rfl⟩ := eb
  exact ⟨⟨f, b, x⟩, rfl, wf, wb, wf_u8 wx⟩
end

end Go.Proofs.YtdoeiaekimbecaaDoor
