/- keys: the door: what the listed variables give, what comes in. -/
import Derived.Test.YtofjdjjbgnfngaaDoorL
import Derived.Test.YtofjdjjbgnfngaaDoorOpen
import Derived.Test.YtofjdjjbgnfngaaDoorLift
import Derived.LaidMore
import Derived.OpenShut
import Derived.Stop.Joined
import Derived.Lib.LaidTab
import Derived.Lib.LaidU8T
import Derived.Lay
import Derived.ChangeSame
set_option linter.unusedSimpArgs false
set_option linter.unusedVariables false
set_option linter.unnecessarySimpa false
namespace Go.Proofs.YtofjdjjbgnfngaaDoor
open Go.ChangeShapes Go.WideShapes Go.ChangeAt Go.RowKit

abbrev laid5 : List (String × DataW Unit) := [("math/bits.deBruijn32tab", Rows.laid_math_bits_deBruijn32tab), ("math/bits.deBruijn64tab", Rows.laid_math_bits_deBruijn64tab), ("internal/strconv.uint64pow10", Rows.laid_internal_strconv_uint64pow10), ("unicode/utf8.acceptRanges", Rows.laid_unicode_utf8_acceptRanges), ("unicode/utf8.first", Rows.laid_unicode_utf8_first)]
theorem tabType : (Tryd.prog.globals[2]?).map (·.type) = some 85 := by kernel_rfl
theorem tabData_eq : (Rows.laid_internal_strconv_uint64pow10 : DataW Unit) = Lib.tabData .u64 Lib.pow10Tab := by kernel_rfl
theorem firstData_eq : (Rows.laid_unicode_utf8_first : DataW Unit) = Lib.firstData := by kernel_rfl
theorem acceptData_eq : (Rows.laid_unicode_utf8_acceptRanges : DataW Unit) = Lib.acceptData := by kernel_rfl
theorem gl_of_laid {W : World} (h : laidMetH Tryd.prog laid5 W) : Gl W := by
  rw [MakeChecks.laidMetH_plain _ _ _ (by kernel_rfl)] at h
  obtain ⟨ps, ⟨g0, t0, cs0, f0, p0, q0, hg0, ht0, hv0, hd0, ⟨g1, t1, cs1, f1, p1, q1, hg1, ht1, hv1, hd1, ⟨g2, t2, cs2, f2, p2, q2, hg2, ht2, hv2, hd2, ⟨g3, t3, cs3, f3, p3, q3, hg3, ht3, hv3, hd3, ⟨g4, t4, cs4, f4, p4, q4, hg4, ht4, hv4, hd4, _, _⟩, _⟩, _⟩, _⟩, _⟩, _, _⟩ := h
  rw [firstData_eq] at hd4
  rw [acceptData_eq] at hd3
  refine ⟨?_, ?_⟩
  · obtain rfl := Option.some.inj (gTab.symm.trans hg2)
    obtain rfl := Option.some.inj (tabType.symm.trans ht2)
    rw [tabData_eq] at hd2
    unfold Tab Lib.TabIs
    rw [hv2, ← Lib.cells_of_tab Tryd.underlying85 Tryd.underlying78 (by kernel_rfl) (by kernel_rfl) hd2]
  · exact utf8Tabs_of_readsT (U8Types.of260 Tryd.lays260) ⟨by kernel_rfl, by kernel_rfl, by kernel_rfl, by kernel_rfl, by kernel_rfl, by kernel_rfl, by kernel_rfl⟩
      ⟨g4, t4, cs4, f4, p4, hg4, ht4, hv4, hd4⟩ ⟨g3, t3, cs3, f3, p3, hg3, ht3, hv3, hd3⟩
theorem door_met (os : Os) (args : Array Value) : laidMetH Tryd.prog laid5 ((World.laidAll Tryd.prog os laid5).forCall (fun _ _ => 0) ⟨#[], args, []⟩).memory := by
  rw [MakeChecks.laidMetH_plain _ _ _ (by kernel_rfl)]
  exact laidMet_laidAll _ (by kernel_rfl) (by kernel_rfl)
theorem cellsC : Tryd.prog.cellsOf 22 = 1 := by kernel_rfl
theorem cellsR : Tryd.prog.cellsOf 21 = 1 := by kernel_rfl
theorem cellsB : Tryd.prog.cellsOf 4 = 1 := by kernel_rfl
theorem cellsK : Tryd.prog.cellsOf 24 = 5 := by kernel_rfl
theorem cellsIn : Tryd.prog.cellsOf 26 = 3 := by kernel_rfl

section
variable {H : Type} {enc : TypeId × Value → H} {W : World} {base b0 : Nat} {spare : Nat → Bool} {held : Bool} {r : Reach}

theorem five {l : List Value} (h : l.length = 5) : ∃ a b c d e, l = [a, b, c, d, e] := by
  match l, h with
  | [a, b, c, d, e], _ => exact ⟨a, b, c, d, e, rfl⟩
theorem three {l : List Value} (h : l.length = 3) : ∃ a b c, l = [a, b, c] := by
  match l, h with
  | [a, b, c], _ => exact ⟨a, b, c, rfl⟩
theorem len_some {α : Type} {xs : List α} {n i : Nat} (h : xs.length = n) (hi : i < n) : (xs[i]?).isSome = true := by simp [h, hi]
/-- A key that came in. -/
theorem open_key {v : Value} {d : DataW H} {p : List MemPlace} (hv : Value.okWide Tryd.prog W r b0 24 v) (h : DataW.Trod enc Tryd.prog W base spare held 24 v d p) :
    ∃ (code rune : Int) (sh al ct : Bool), v = .agg #[.int .i64 code, .int .i32 rune, .bool sh, .bool al, .bool ct] ∧ (Lit.int .i32 rune).wf = true := by
  obtain ⟨⟨cs⟩, rfl, hsz⟩ := okWide_struct Tryd.underlying24 hv
  obtain ⟨c0, c1, c2, c3, c4, rfl⟩ := five (l := cs) (by rw [cellsK] at hsz; simpa using hsz)
  obtain ⟨fuel, hf⟩ := h
  obtain ⟨xs, n, _, _, _, hlen, hg⟩ := DataW.trod_struct Tryd.underlying24 hf
  have h0 := hg 0 _ rfl
  have h1 := hg 1 _ rfl
  have h2 := hg 2 _ rfl
  have h3 := hg 3 _ rfl
  have h4 := hg 4 _ rfl
  simp [Value.cells, cellsC, cellsR, cellsB] at h0 h1 h2 h3 h4
  obtain ⟨code, rfl, _⟩ := field_int Tryd.underlying22 h0 (len_some hlen (by decide))
  obtain ⟨rune, rfl, hr⟩ := field_int Tryd.underlying21 h1 (len_some hlen (by decide))
  obtain ⟨sh, rfl⟩ := field_bool Tryd.underlying4 h2 (len_some hlen (by decide))
  obtain ⟨al, rfl⟩ := field_bool Tryd.underlying4 h3 (len_some hlen (by decide))
  obtain ⟨ct, rfl⟩ := field_bool Tryd.underlying4 h4 (len_some hlen (by decide))
  exact ⟨code, rune, sh, al, ct, rfl, hr⟩
theorem open_input {v : Value} {d : DataW H} {p : List MemPlace} (hv : Value.okWide Tryd.prog W r b0 26 v) (h : DataW.Trod enc Tryd.prog W base spare held 26 v d p) :
    ∃ (app nl bk : Bool), v = .agg #[.bool app, .bool nl, .bool bk] := by
  obtain ⟨⟨cs⟩, rfl, hsz⟩ := okWide_struct Tryd.underlying26 hv
  obtain ⟨c0, c1, c2, rfl⟩ := three (l := cs) (by rw [cellsIn] at hsz; simpa using hsz)
  obtain ⟨fuel, hf⟩ := h
  obtain ⟨xs, n, _, _, _, hlen, hg⟩ := DataW.trod_struct Tryd.underlying26 hf
  have h0 := hg 0 _ rfl
  have h1 := hg 1 _ rfl
  have h2 := hg 2 _ rfl
  simp [Value.cells, cellsB] at h0 h1 h2
  obtain ⟨a, rfl⟩ := field_bool Tryd.underlying4 h0 (len_some hlen (by decide))
  obtain ⟨b, rfl⟩ := field_bool Tryd.underlying4 h1 (len_some hlen (by decide))
  obtain ⟨c, rfl⟩ := field_bool Tryd.underlying4 h2 (len_some hlen (by decide))
  exact ⟨a, b, c, rfl⟩
end

end Go.Proofs.YtofjdjjbgnfngaaDoor
