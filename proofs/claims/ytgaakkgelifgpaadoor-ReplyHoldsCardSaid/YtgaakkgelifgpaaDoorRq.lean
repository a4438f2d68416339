/- reply: what is laid, and what comes in. -/
import Derived.Test.YtgaakkgelifgpaaDoorRg
import Derived.Test.YtgaakkgelifgpaaDoorOpen
import Derived.LaidMore
import Derived.OpenShut
import Derived.Stop.Joined
import Derived.Lib.LaidTab
import Derived.ChangeSame
set_option linter.unusedSimpArgs false
set_option linter.unusedVariables false
set_option linter.unnecessarySimpa false
namespace Go.Proofs.YtgaakkgelifgpaaDoor
open Go.ChangeShapes Go.WideShapes Go.ChangeAt Go.RowKit

abbrev laid5 : List (String × DataW Unit) := [("math/bits.deBruijn32tab", Rows.laid_math_bits_deBruijn32tab), ("math/bits.deBruijn64tab", Rows.laid_math_bits_deBruijn64tab), ("internal/strconv.uint64pow10", Rows.laid_internal_strconv_uint64pow10), ("scrollback/modes.pointers", Rows.laid_scrollback_modes_pointers), ("scrollback/modes.screens", Rows.laid_scrollback_modes_screens)]
theorem tabType : (Tryd.prog.globals[2]?).map (·.type) = some 93 := by kernel_rfl
theorem tabData_eq : (Rows.laid_internal_strconv_uint64pow10 : DataW Unit) = Lib.tabData .u64 Lib.pow10Tab := by kernel_rfl
theorem gPtr : Tryd.prog.globalNamed "scrollback/modes.pointers" = some 0 := by kernel_rfl
theorem gScr : Tryd.prog.globalNamed "scrollback/modes.screens" = some 1 := by kernel_rfl
theorem ptrType : (Tryd.prog.globals[0]?).map (·.type) = some 78 := by kernel_rfl
theorem scrType : (Tryd.prog.globals[1]?).map (·.type) = some 78 := by kernel_rfl
theorem ptrData_eq : (Rows.laid_scrollback_modes_pointers : DataW Unit) = Lib.tabData .i64 ptrL := by kernel_rfl
theorem scrData_eq : (Rows.laid_scrollback_modes_screens : DataW Unit) = Lib.tabData .i64 altL := by kernel_rfl
structure Gl (w : World) : Prop where
  g : Glob w
  t : Tab w
theorem Gl.below {w w' : World} (h : Gl w) (hb : Below w.heap.size w w') : Gl w' := ⟨h.g.below hb, h.t.below hb⟩
theorem gl_of_laid {W : World} (h : laidMetH Tryd.prog laid5 W) : Gl W := by
  rw [MakeChecks.laidMetH_plain _ _ _ (by kernel_rfl)] at h
  obtain ⟨ps, ⟨g0, t0, cs0, f0, p0, q0, hg0, ht0, hv0, hd0, ⟨g1, t1, cs1, f1, p1, q1, hg1, ht1, hv1, hd1, ⟨g2, t2, cs2, f2, p2, q2, hg2, ht2, hv2, hd2, ⟨g3, t3, cs3, f3, p3, q3, hg3, ht3, hv3, hd3, ⟨g4, t4, cs4, f4, p4, q4, hg4, ht4, hv4, hd4, _, _⟩, _⟩, _⟩, _⟩, _⟩, _, _⟩ := h
  obtain rfl := Option.some.inj (gTab.symm.trans hg2)
  obtain rfl := Option.some.inj (tabType.symm.trans ht2)
  obtain rfl := Option.some.inj (gPtr.symm.trans hg3)
  obtain rfl := Option.some.inj (ptrType.symm.trans ht3)
  obtain rfl := Option.some.inj (gScr.symm.trans hg4)
  obtain rfl := Option.some.inj (scrType.symm.trans ht4)
  rw [tabData_eq] at hd2
  rw [ptrData_eq] at hd3
  rw [scrData_eq] at hd4
  have e2 := Lib.cells_of_tab Tryd.underlying93 Tryd.underlying86 (by kernel_rfl) (by kernel_rfl) hd2
  have e3 := Lib.cells_of_tab Tryd.underlying78 Tryd.underlying3 (by kernel_rfl) (by kernel_rfl) hd3
  have e4 := Lib.cells_of_tab Tryd.underlying78 Tryd.underlying3 (by kernel_rfl) (by kernel_rfl) hd4
  have lt : ∀ {n : String} {g : Nat} {cs : Array Value}, Tryd.prog.globalNamed n = some g → W.var? Tryd.prog n = some cs → g < W.heap.size := by
    intro n g cs h1 h2
    unfold World.var? at h2
    rw [h1, Option.bind_some] at h2
    rcases Nat.lt_or_ge g W.heap.size with h' | h'
    · exact h'
    · rw [Array.getElem?_eq_none h'] at h2; cases h2
  refine ⟨⟨fun j hj => ?_, fun j hj => ?_, lt hg3 hv3, lt hg4 hv4⟩, ?_⟩
  · have := World.var?_cell hg3 hv3 j
    rw [this]
    obtain ⟨l⟩ := cs3
    simp only at e3
    subst e3
    match j, hj with
    | 0, _ => rfl
    | 1, _ => rfl
    | 2, _ => rfl
  · have := World.var?_cell hg4 hv4 j
    rw [this]
    obtain ⟨l⟩ := cs4
    simp only at e4
    subst e4
    match j, hj with
    | 0, _ => rfl
    | 1, _ => rfl
    | 2, _ => rfl
  · unfold Tab Lib.TabIs
    rw [hv2, ← e2]
theorem door_met (os : Os) (args : Array Value) : laidMetH Tryd.prog laid5 ((World.doorLaid Tryd.prog 400 os).forCall (fun _ _ => 0) ⟨#[], args, []⟩).memory :=
  laidMetH_of_parts3 (fuel := 8) (laidMet_of_run' 8 (by kernel_rfl) (by kernel_rfl)) (by kernel_rfl) (by kernel_rfl)
theorem cells3 : Tryd.prog.cellsOf 3 = 1 := by kernel_rfl
theorem cells4 : Tryd.prog.cellsOf 4 = 1 := by kernel_rfl
theorem cellsRegion : Tryd.prog.cellsOf 23 = 2 := by kernel_rfl
theorem cellsArea : Tryd.prog.cellsOf 25 = 5 := by kernel_rfl
theorem cellsCursor : Tryd.prog.cellsOf 27 = 3 := by kernel_rfl

section
variable {H : Type} {enc : TypeId × Value → H} {W : World} {base b0 : Nat} {spare : Nat → Bool} {held : Bool} {r : Reach}

theorem five {l : List Value} (h : l.length = 5) : ∃ a b c d e, l = [a, b, c, d, e] := by
  match l, h with
  | [a, b, c, d, e], _ => exact ⟨a, b, c, d, e, rfl⟩
theorem three {l : List Value} (h : l.length = 3) : ∃ a b c, l = [a, b, c] := by
  match l, h with
  | [a, b, c], _ => exact ⟨a, b, c, rfl⟩
theorem len_some {α : Type} {xs : List α} {n i : Nat} (h : xs.length = n) (hi : i < n) : (xs[i]?).isSome = true := by simp [h, hi]

theorem open_cursor {v : Value} {d : DataW H} {p : List MemPlace} (hv : Value.okWide Tryd.prog W r b0 27 v) (h : DataW.Trod enc Tryd.prog W base spare held 27 v d p) :
    ∃ (a b : Int) (q : Bool), v = .agg #[.int .i64 a, .int .i64 b, .bool q] := by
  obtain ⟨⟨cs⟩, rfl, hsz⟩ := okWide_struct Tryd.underlying27 hv
  obtain ⟨c0, c1, c2, rfl⟩ := three (l := cs) (by rw [cellsCursor] at hsz; simpa using hsz)
  obtain ⟨fuel, hf⟩ := h
  obtain ⟨xs, n, _, _, _, hlen, hg⟩ := DataW.trod_struct Tryd.underlying27 hf
  have h0 := hg 0 _ rfl
  have h1 := hg 1 _ rfl
  have h2 := hg 2 _ rfl
  simp [Value.cells, cells3, cells4] at h0 h1 h2
  obtain ⟨a, rfl, _⟩ := field_int Tryd.underlying3 h0 (len_some hlen (by decide))
  obtain ⟨b, rfl, _⟩ := field_int Tryd.underlying3 h1 (len_some hlen (by decide))
  obtain ⟨q, rfl⟩ := field_bool Tryd.underlying4 h2 (len_some hlen (by decide))
  exact ⟨a, b, q, rfl⟩

theorem open_area {v : Value} {d : DataW H} {p : List MemPlace} (hv : Value.okWide Tryd.prog W r b0 25 v) (h : DataW.Trod enc Tryd.prog W base spare held 25 v d p) :
    ∃ (rows cols top bottom : Int) (o : Bool), v = .agg #[.int .i64 rows, .int .i64 cols, .int .i64 top, .int .i64 bottom, .bool o] := by
  obtain ⟨⟨cs⟩, rfl, hsz⟩ := okWide_struct Tryd.underlying25 hv
  obtain ⟨c0, c1, c2, c3, c4, rfl⟩ := five (l := cs) (by rw [cellsArea] at hsz; simpa using hsz)
  obtain ⟨fuel, hf⟩ := h
  obtain ⟨xs, n, _, _, _, hlen, hg⟩ := DataW.trod_struct Tryd.underlying25 hf
  have h0 := hg 0 _ rfl
  have h1 := hg 1 _ rfl
  have h2 := hg 2 _ rfl
  have h3 := hg 3 _ rfl
  simp [Value.cells, cells3, cells4, cellsRegion] at h0 h1 h2 h3
  obtain ⟨a, rfl, _⟩ := field_int Tryd.underlying3 h0 (len_some hlen (by decide))
  obtain ⟨b, rfl, _⟩ := field_int Tryd.underlying3 h1 (len_some hlen (by decide))
  obtain ⟨q, rfl⟩ := field_bool Tryd.underlying4 h3 (len_some hlen (by decide))
  obtain ⟨y, hy⟩ := Option.isSome_iff_exists.1 (len_some hlen (show 2 < 4 by decide))
  rw [hy] at h2
  obtain ⟨ys, m, _, _, _, hlen2, hg2⟩ := DataW.trod_struct Tryd.underlying23 h2
  have k0 := hg2 0 _ rfl
  have k1 := hg2 1 _ rfl
  simp [cells3] at k0 k1
  obtain ⟨e, rfl, _⟩ := field_int Tryd.underlying3 k0 (len_some hlen2 (by decide))
  obtain ⟨g, rfl, _⟩ := field_int Tryd.underlying3 k1 (len_some hlen2 (by decide))
  exact ⟨a, b, e, g, q, rfl⟩
end

theorem cellsM : Tryd.prog.cellsOf 38 = 9 := by kernel_rfl
theorem nine {l : List Value} (h : l.length = 9) : ∃ a b c d e f g i j, l = [a, b, c, d, e, f, g, i, j] := by
  match l, h with
  | [a, b, c, d, e, f, g, i, j], _ => exact ⟨a, b, c, d, e, f, g, i, j, rfl⟩
theorem open_modes {H : Type} {enc : TypeId × Value → H} {W : World} {base b0 : Nat} {spare : Nat → Bool} {held : Bool} {r : Reach} {v : Value} {d : DataW H} {p : List MemPlace} (hv : Value.okWide Tryd.prog W r b0 38 v) (h : DataW.Trod enc Tryd.prog W base spare held 38 v d p) :
    ∃ m : Md, v = .agg #[.bool m.aw, .bool m.ori, .bool m.ins, .bool m.vis, .bool m.app, .bool m.pas, .bool m.sgr, .int .i64 m.ptr, .int .i64 m.alt] := by
  obtain ⟨⟨cs⟩, rfl, hsz⟩ := okWide_struct Tryd.underlying38 hv
  obtain ⟨c0, c1, c2, c3, c4, c5, c6, c7, c8, rfl⟩ := nine (l := cs) (by rw [cellsM] at hsz; simpa using hsz)
  obtain ⟨fuel, hf⟩ := h
  obtain ⟨xs, n, _, _, _, hlen, hg⟩ := DataW.trod_struct Tryd.underlying38 hf
  have h0 := hg 0 _ rfl
  have h1 := hg 1 _ rfl
  have h2 := hg 2 _ rfl
  have h3 := hg 3 _ rfl
  have h4 := hg 4 _ rfl
  have h5 := hg 5 _ rfl
  have h6 := hg 6 _ rfl
  have h7 := hg 7 _ rfl
  have h8 := hg 8 _ rfl
  simp [Value.cells, cells3, cells4] at h0 h1 h2 h3 h4 h5 h6 h7 h8
  obtain ⟨q0, rfl⟩ := field_bool Tryd.underlying4 h0 (len_some hlen (by decide))
  obtain ⟨q1, rfl⟩ := field_bool Tryd.underlying4 h1 (len_some hlen (by decide))
  obtain ⟨q2, rfl⟩ := field_bool Tryd.underlying4 h2 (len_some hlen (by decide))
  obtain ⟨q3, rfl⟩ := field_bool Tryd.underlying4 h3 (len_some hlen (by decide))
  obtain ⟨q4, rfl⟩ := field_bool Tryd.underlying4 h4 (len_some hlen (by decide))
  obtain ⟨q5, rfl⟩ := field_bool Tryd.underlying4 h5 (len_some hlen (by decide))
  obtain ⟨q6, rfl⟩ := field_bool Tryd.underlying4 h6 (len_some hlen (by decide))
  obtain ⟨q7, rfl, _⟩ := field_int Tryd.underlying3 h7 (len_some hlen (by decide))
  obtain ⟨q8, rfl, _⟩ := field_int Tryd.underlying3 h8 (len_some hlen (by decide))
  exact ⟨⟨q0, q1, q2, q3, q4, q5, q6, q7, q8⟩, rfl⟩

end Go.Proofs.YtgaakkgelifgpaaDoor
