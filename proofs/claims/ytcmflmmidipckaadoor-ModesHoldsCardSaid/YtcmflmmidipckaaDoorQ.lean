/- modes: the door: what the listed variables give, and the start that meets the condition; modes that came in. -/
import Derived.Test.YtcmflmmidipckaaDoorO
import Derived.Test.YtcmflmmidipckaaDoorLift
import Derived.Test.YtcmflmmidipckaaDoorOpen
import Derived.LaidMore
import Derived.OpenShut
import Derived.Stop.Joined
import Derived.Lib.LaidTab
import Derived.ChangeSame
set_option linter.unusedSimpArgs false
set_option linter.unusedVariables false
set_option linter.unnecessarySimpa false
namespace Go.Proofs.YtcmflmmidipckaaDoor
open Go.ChangeShapes Go.WideShapes Go.ChangeAt Go.RowKit

abbrev laid6 : List (String × DataW Unit) := [("math/bits.deBruijn32tab", Rows.laid_math_bits_deBruijn32tab), ("math/bits.deBruijn64tab", Rows.laid_math_bits_deBruijn64tab), ("internal/strconv.uint64pow10", Rows.laid_internal_strconv_uint64pow10), ("scrollback/modes.pointers", Rows.laid_scrollback_modes_pointers), ("scrollback/modes.screens", Rows.laid_scrollback_modes_screens), ("scrollback/modes.order", Rows.laid_scrollback_modes_order)]
theorem tabType : (Tryd.prog.globals[3]?).map (·.type) = some 91 := by kernel_rfl
theorem tabData_eq : (Rows.laid_internal_strconv_uint64pow10 : DataW Unit) = Lib.tabData .u64 Lib.pow10Tab := by kernel_rfl
theorem gPtr : Tryd.prog.globalNamed "scrollback/modes.pointers" = some 0 := by kernel_rfl
theorem gScr : Tryd.prog.globalNamed "scrollback/modes.screens" = some 1 := by kernel_rfl
theorem gOrd : Tryd.prog.globalNamed "scrollback/modes.order" = some 2 := by kernel_rfl
theorem ptrType : (Tryd.prog.globals[0]?).map (·.type) = some 50 := by kernel_rfl
theorem scrType : (Tryd.prog.globals[1]?).map (·.type) = some 50 := by kernel_rfl
theorem ordType : (Tryd.prog.globals[2]?).map (·.type) = some 68 := by kernel_rfl
theorem ptrData_eq : (Rows.laid_scrollback_modes_pointers : DataW Unit) = Lib.tabData .i64 ptrL := by kernel_rfl
theorem scrData_eq : (Rows.laid_scrollback_modes_screens : DataW Unit) = Lib.tabData .i64 altL := by kernel_rfl
set_option maxRecDepth 100000 in
set_option maxHeartbeats 2000000 in
theorem ord_cells {H : Type} {enc : TypeId × Value → H} {w : World} {base : Nat} {sp : Nat → Bool} {held : Bool} {fuel : Nat} {cs : List Value} {p : List MemPlace}
    (h : DataW.trod enc Tryd.prog w base sp held fuel 68 cs = some (Rows.laid_scrollback_modes_order, p)) : cs = ordC.toList := by
  obtain ⟨xs, m1, rfl, hx, hlen, hn, hel⟩ := DataW.trod_array Tryd.underlying68 h
  have hx1 : Rows.laid_scrollback_modes_order = DataW.agg (xs.map (·.1)) := congrArg Prod.fst hx
  have hc : Tryd.prog.cellsOf 67 = 2 := by kernel_rfl
  have hc68 : Tryd.prog.cellsOf 68 = 26 := by kernel_rfl
  have hc21 : Tryd.prog.cellsOf 21 = 1 := by kernel_rfl
  have hc3 : Tryd.prog.cellsOf 3 = 1 := by kernel_rfl
  have hx2 := DataW.agg.inj hx1
  rw [hc68] at hlen
  have key : ∀ j, j < 13 → cs[2 * j]? = some (.int .i32 (ordAt j).1) ∧ cs[2 * j + 1]? = some (.int .i64 (ordAt j).2) := by
    intro j hj
    have h0 := hel j hj
    obtain ⟨x, hxj, hxd⟩ : ∃ x, xs[j]? = some x ∧ x.1 = (.agg [.lit (.int .i32 (ordAt j).1), .lit (.int .i64 (ordAt j).2)] : DataW H) := by
      have e := congrArg (·[j]?) hx2
      simp only [List.getElem?_map] at e
      have hL : ([.agg [.lit (.int .i32 0), .lit (.int .i64 4)], .agg [.lit (.int .i32 63), .lit (.int .i64 1)], .agg [.lit (.int .i32 63), .lit (.int .i64 6)], .agg [.lit (.int .i32 63), .lit (.int .i64 7)], .agg [.lit (.int .i32 63), .lit (.int .i64 25)], .agg [.lit (.int .i32 63), .lit (.int .i64 1000)], .agg [.lit (.int .i32 63), .lit (.int .i64 1002)], .agg [.lit (.int .i32 63), .lit (.int .i64 1003)], .agg [.lit (.int .i32 63), .lit (.int .i64 1006)], .agg [.lit (.int .i32 63), .lit (.int .i64 2004)], .agg [.lit (.int .i32 63), .lit (.int .i64 47)], .agg [.lit (.int .i32 63), .lit (.int .i64 1047)], .agg [.lit (.int .i32 63), .lit (.int .i64 1049)]] : List (DataW H))[j]? = some (.agg [.lit (.int .i32 (ordAt j).1), .lit (.int .i64 (ordAt j).2)]) := by
        match j, hj with
        | 0, _ => rfl
        | 1, _ => rfl
        | 2, _ => rfl
        | 3, _ => rfl
        | 4, _ => rfl
        | 5, _ => rfl
        | 6, _ => rfl
        | 7, _ => rfl
        | 8, _ => rfl
        | 9, _ => rfl
        | 10, _ => rfl
        | 11, _ => rfl
        | 12, _ => rfl
      have e2 := hL.symm.trans e
      obtain ⟨x, h1, h2⟩ := Option.map_eq_some_iff.1 e2.symm
      exact ⟨x, h1, h2⟩
    rw [hxj] at h0
    rw [hc] at h0
    obtain ⟨y0, y1, n, e, hl, f0, f1⟩ := trod_struct2 Tryd.underlying67 h0
    obtain ⟨n0, g1, g2, _⟩ := DataW.trod_int Tryd.underlying21 f0
    obtain ⟨n1, g3, g4, _⟩ := DataW.trod_int Tryd.underlying3 f1
    have e1 : x.1 = .agg [y0.1, y1.1] := congrArg Prod.fst e
    rw [hxd, g2, g4] at e1
    simp at e1
    obtain ⟨rfl, rfl⟩ := e1
    simp only [hc21, hc3] at g1 g3
    constructor
    · have := congrArg (·[0]?) g1
      simpa [List.getElem?_take, List.getElem?_drop, Nat.mul_comm] using this
    · have := congrArg (·[0]?) g3
      simpa [List.getElem?_take, List.getElem?_drop, Nat.mul_comm] using this
  apply List.ext_getElem?
  intro i
  by_cases hi : i < 26
  · rcases Nat.mod_two_eq_zero_or_one i with h2 | h2
    · obtain ⟨j, rfl⟩ : ∃ j, i = 2 * j := ⟨i / 2, by omega⟩
      rw [(key j (by omega)).1]
      have hj : j < 13 := by omega
      match j, hj with
      | 0, _ => rfl
      | 1, _ => rfl
      | 2, _ => rfl
      | 3, _ => rfl
      | 4, _ => rfl
      | 5, _ => rfl
      | 6, _ => rfl
      | 7, _ => rfl
      | 8, _ => rfl
      | 9, _ => rfl
      | 10, _ => rfl
      | 11, _ => rfl
      | 12, _ => rfl
    · obtain ⟨j, rfl⟩ : ∃ j, i = 2 * j + 1 := ⟨i / 2, by omega⟩
      rw [(key j (by omega)).2]
      have hj : j < 13 := by omega
      match j, hj with
      | 0, _ => rfl
      | 1, _ => rfl
      | 2, _ => rfl
      | 3, _ => rfl
      | 4, _ => rfl
      | 5, _ => rfl
      | 6, _ => rfl
      | 7, _ => rfl
      | 8, _ => rfl
      | 9, _ => rfl
      | 10, _ => rfl
      | 11, _ => rfl
      | 12, _ => rfl
  · rw [List.getElem?_eq_none (by omega), List.getElem?_eq_none (by show 26 ≤ i; omega)]
theorem gl_of_laid {W : World} (h : laidMetH Tryd.prog laid6 W) : Gl W := by
  rw [MakeChecks.laidMetH_plain _ _ _ (by kernel_rfl)] at h
  obtain ⟨ps, ⟨g0, t0, cs0, f0, p0, q0, hg0, ht0, hv0, hd0, ⟨g1, t1, cs1, f1, p1, q1, hg1, ht1, hv1, hd1, ⟨g2, t2, cs2, f2, p2, q2, hg2, ht2, hv2, hd2, ⟨g3, t3, cs3, f3, p3, q3, hg3, ht3, hv3, hd3, ⟨g4, t4, cs4, f4, p4, q4, hg4, ht4, hv4, hd4, ⟨g5, t5, cs5, f5, p5, q5, hg5, ht5, hv5, hd5, _, _⟩, _⟩, _⟩, _⟩, _⟩, _⟩, _, _⟩ := h
  obtain rfl := Option.some.inj (gTab.symm.trans hg2)
  obtain rfl := Option.some.inj (tabType.symm.trans ht2)
  obtain rfl := Option.some.inj (gPtr.symm.trans hg3)
  obtain rfl := Option.some.inj (ptrType.symm.trans ht3)
  obtain rfl := Option.some.inj (gScr.symm.trans hg4)
  obtain rfl := Option.some.inj (scrType.symm.trans ht4)
  obtain rfl := Option.some.inj (gOrd.symm.trans hg5)
  obtain rfl := Option.some.inj (ordType.symm.trans ht5)
  rw [tabData_eq] at hd2
  rw [ptrData_eq] at hd3
  rw [scrData_eq] at hd4
  have e2 := Lib.cells_of_tab Tryd.underlying91 Tryd.underlying84 (by kernel_rfl) (by kernel_rfl) hd2
  have e3 := Lib.cells_of_tab Tryd.underlying50 Tryd.underlying3 (by kernel_rfl) (by kernel_rfl) hd3
  have e4 := Lib.cells_of_tab Tryd.underlying50 Tryd.underlying3 (by kernel_rfl) (by kernel_rfl) hd4
  have e5 := ord_cells hd5
  have lt : ∀ {n : String} {g : Nat} {cs : Array Value}, Tryd.prog.globalNamed n = some g → W.var? Tryd.prog n = some cs → g < W.heap.size := by
    intro n g cs h1 h2
    unfold World.var? at h2
    rw [h1, Option.bind_some] at h2
    rcases Nat.lt_or_ge g W.heap.size with h' | h'
    · exact h'
    · rw [Array.getElem?_eq_none h'] at h2; cases h2
  refine ⟨⟨fun j hj => ?_, fun j hj => ?_, lt hg3 hv3, lt hg4 hv4⟩, ?_, ?_⟩
  · have := World.var?_cell hg3 hv3 j
    rw [this]
    obtain ⟨l⟩ := cs3
    simp only at e3
    subst e3
    match j, hj with
    | 0, _ => rfl
    | 1, _ => rfl
    | 2, _ => rfl
  · have := World.var?_cell hg4 hv4 j
    rw [this]
    obtain ⟨l⟩ := cs4
    simp only at e4
    subst e4
    match j, hj with
    | 0, _ => rfl
    | 1, _ => rfl
    | 2, _ => rfl
  · unfold GlobO
    unfold World.var? at hv5
    rw [hg5, Option.bind_some] at hv5
    split at hv5
    · rename_i cs t fr hh
      have e6 := Option.some.inj hv5
      subst e6
      exact ⟨t, fr, by rw [hh]; congr 2; exact Array.toList_inj.1 e5⟩
    · cases hv5
  · unfold Tab Lib.TabIs
    rw [hv2, ← e2]
theorem door_met (os : Os) (args : Array Value) : laidMetH Tryd.prog laid6 ((World.doorLaid Tryd.prog 400 os).forCall (fun _ _ => 0) ⟨#[], args, []⟩).memory :=
  laidMetH_of_parts3 (fuel := 8) (laidMet_of_run' 8 (by kernel_rfl) (by kernel_rfl)) (by kernel_rfl) (by kernel_rfl)
theorem cells3 : Tryd.prog.cellsOf 3 = 1 := by kernel_rfl
theorem cells4 : Tryd.prog.cellsOf 4 = 1 := by kernel_rfl
theorem cellsM : Tryd.prog.cellsOf 23 = 9 := by kernel_rfl
theorem len_some {α : Type} {xs : List α} {n i : Nat} (h : xs.length = n) (hi : i < n) : (xs[i]?).isSome = true := by simp [h, hi]
theorem nine {l : List Value} (h : l.length = 9) : ∃ a b c d e f g i j, l = [a, b, c, d, e, f, g, i, j] := by
  match l, h with
  | [a, b, c, d, e, f, g, i, j], _ => exact ⟨a, b, c, d, e, f, g, i, j, rfl⟩
theorem open_modes {H : Type} {enc : TypeId × Value → H} {W : World} {base b0 : Nat} {spare : Nat → Bool} {held : Bool} {r : Reach} {v : Value} {d : DataW H} {p : List MemPlace} (hv : Value.okWide Tryd.prog W r b0 23 v) (h : DataW.Trod enc Tryd.prog W base spare held 23 v d p) :
    ∃ m : Md, v = .agg #[.bool m.aw, .bool m.ori, .bool m.ins, .bool m.vis, .bool m.app, .bool m.pas, .bool m.sgr, .int .i64 m.ptr, .int .i64 m.alt] := by
  obtain ⟨⟨cs⟩, rfl, hsz⟩ := okWide_struct Tryd.underlying23 hv
  obtain ⟨c0, c1, c2, c3, c4, c5, c6, c7, c8, rfl⟩ := nine (l := cs) (by rw [cellsM] at hsz; simpa using hsz)
  obtain ⟨fuel, hf⟩ := h
  obtain ⟨xs, n, _, _, _, hlen, hg⟩ := DataW.trod_struct Tryd.underlying23 hf
  have h0 := hg 0 _ rfl
  have h1 := hg 1 _ rfl
  have h2 := hg 2 _ rfl
  have h3 := hg 3 _ rfl
  have h4 := hg 4 _ rfl
  have h5 := hg 5 _ rfl
  have h6 := hg 6 _ rfl
  have h7 := hg 7 _ rfl
  have h8 := hg 8 _ rfl
  simp [Value.cells, cells3, cells4] at h0 h1 h2 h3 h4 h5 h6 h7 h8
  obtain ⟨q0, rfl⟩ := field_bool Tryd.underlying4 h0 (len_some hlen (by decide))
  obtain ⟨q1, rfl⟩ := field_bool Tryd.underlying4 h1 (len_some hlen (by decide))
  obtain ⟨q2, rfl⟩ := field_bool Tryd.underlying4 h2 (len_some hlen (by decide))
  obtain ⟨q3, rfl⟩ := field_bool Tryd.underlying4 h3 (len_some hlen (by decide))
  obtain ⟨q4, rfl⟩ := field_bool Tryd.underlying4 h4 (len_some hlen (by decide))
  obtain ⟨q5, rfl⟩ := field_bool Tryd.underlying4 h5 (len_some hlen (by decide))
  obtain ⟨q6, rfl⟩ := field_bool Tryd.underlying4 h6 (len_some hlen (by decide))
  obtain ⟨q7, rfl, _⟩ := field_int Tryd.underlying3 h7 (len_some hlen (by decide))
  obtain ⟨q8, rfl, _⟩ := field_int Tryd.underlying3 h8 (len_some hlen (by decide))
  exact ⟨⟨q0, q1, q2, q3, q4, q5, q6, q7, q8⟩, rfl⟩

end Go.Proofs.YtcmflmmidipckaaDoor
