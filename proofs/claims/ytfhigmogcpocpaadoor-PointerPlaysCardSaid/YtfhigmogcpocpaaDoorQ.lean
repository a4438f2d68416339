/- pointer: the door: what the listed variables give, and the start that meets the condition. -/
import Derived.Test.YtfhigmogcpocpaaDoorF
import Derived.Test.YtfhigmogcpocpaaDoorOpen
import Derived.Test.YtfhigmogcpocpaaDoorLift
import Derived.LaidMore
import Derived.OpenShut
import Derived.Stop.Joined
import Derived.Lib.LaidTab
import Derived.ChangeSame
set_option linter.unusedSimpArgs false
set_option linter.unusedVariables false
set_option linter.unnecessarySimpa false
namespace Go.Proofs.YtfhigmogcpocpaaDoor
open Go.ChangeShapes Go.WideShapes Go.ChangeAt Go.RowKit

/-- The variables that the rows list. -/
abbrev laid3 : List (String × DataW Unit) := [("math/bits.deBruijn32tab", Rows.laid_math_bits_deBruijn32tab), ("math/bits.deBruijn64tab", Rows.laid_math_bits_deBruijn64tab), ("internal/strconv.uint64pow10", Rows.laid_internal_strconv_uint64pow10)]
theorem tabType : (Tryd.prog.globals[0]?).map (·.type) = some 73 := by kernel_rfl
theorem tabData_eq : (Rows.laid_internal_strconv_uint64pow10 : DataW Unit) = Lib.tabData .u64 Lib.pow10Tab := by kernel_rfl
theorem tab_of_laid {W : World} (h : laidMetH Tryd.prog laid3 W) : Tab W := by
  rw [MakeChecks.laidMetH_plain _ _ _ (by kernel_rfl)] at h
  obtain ⟨ps, ⟨g0, t0, cs0, f0, p0, q0, hg0, ht0, hv0, hd0, ⟨g1, t1, cs1, f1, p1, q1, hg1, ht1, hv1, hd1, ⟨g2, t2, cs2, f2, p2, q2, hg2, ht2, hv2, hd2, _, _⟩, _⟩, _⟩, _, _⟩ := h
  obtain rfl := Option.some.inj (gTab.symm.trans hg2)
  obtain rfl := Option.some.inj (tabType.symm.trans ht2)
  rw [tabData_eq] at hd2
  unfold Tab Lib.TabIs
  rw [hv2, ← Lib.cells_of_tab Tryd.underlying73 Tryd.underlying66 (by kernel_rfl) (by kernel_rfl) hd2]
/-- The door's own heap meets the condition. -/
theorem door_met (os : Os) (args : Array Value) : laidMetH Tryd.prog laid3 ((World.doorLaid Tryd.prog 400 os).forCall (fun _ _ => 0) ⟨#[], args, []⟩).memory :=
  laidMetH_of_parts3 (fuel := 8) (laidMet_of_run' 8 (by kernel_rfl) (by kernel_rfl)) (by kernel_rfl) (by kernel_rfl)

theorem cellsInt : Tryd.prog.cellsOf 3 = 1 := by kernel_rfl
theorem cellsBool : Tryd.prog.cellsOf 4 = 1 := by kernel_rfl
theorem cellsKind : Tryd.prog.cellsOf 22 = 1 := by kernel_rfl
theorem cellsEv : Tryd.prog.cellsOf 24 = 7 := by kernel_rfl
theorem cellsAct : Tryd.prog.cellsOf 52 = 10 := by kernel_rfl
theorem len_some {α : Type} {xs : List α} {n i : Nat} (h : xs.length = n) (hi : i < n) : (xs[i]?).isSome = true := by simp [h, hi]
theorem lst_seven {l : List Value} (h : l.length = 7) : ∃ c0 c1 c2 c3 c4 c5 c6, l = [c0, c1, c2, c3, c4, c5, c6] := by
  match l, h with
  | [c0, c1, c2, c3, c4, c5, c6], _ => exact ⟨c0, c1, c2, c3, c4, c5, c6, rfl⟩
theorem lst_ten {l : List Value} (h : l.length = 10) : ∃ c0 c1 c2 c3 c4 c5 c6 c7 c8 c9, l = [c0, c1, c2, c3, c4, c5, c6, c7, c8, c9] := by
  match l, h with
  | [c0, c1, c2, c3, c4, c5, c6, c7, c8, c9], _ => exact ⟨c0, c1, c2, c3, c4, c5, c6, c7, c8, c9, rfl⟩
/-- The cells of an event. -/
theorem ev_cells {H : Type} {enc : TypeId × Value → H} {W : World} {base : Nat} {spare : Nat → Bool} {held : Bool} {fuel : Nat} {cs : List Value} {x : DataW H × List MemPlace} (hl : cs.length = 7) (h : DataW.trod enc Tryd.prog W base spare held fuel 24 cs = some x) :
    ∃ k b r c sh al ct, cs = [.int .i64 k, .int .i64 b, .int .i64 r, .int .i64 c, .bool sh, .bool al, .bool ct] ∧ (Lit.int .i64 b).wf = true := by
  obtain ⟨c0, c1, c2, c3, c4, c5, c6, rfl⟩ := lst_seven hl
  obtain ⟨xs, n, _, _, _, hlen, hg⟩ := DataW.trod_struct Tryd.underlying24 h
  have h0 := hg 0 _ rfl
  have h1 := hg 1 _ rfl
  have h2 := hg 2 _ rfl
  have h3 := hg 3 _ rfl
  have h4 := hg 4 _ rfl
  have h5 := hg 5 _ rfl
  have h6 := hg 6 _ rfl
  simp [cellsInt, cellsBool, cellsKind] at h0 h1 h2 h3 h4 h5 h6
  obtain ⟨k, rfl, _⟩ := field_int Tryd.underlying22 h0 (len_some hlen (by decide))
  obtain ⟨b, rfl, hb⟩ := field_int Tryd.underlying3 h1 (len_some hlen (by decide))
  obtain ⟨r, rfl, _⟩ := field_int Tryd.underlying3 h2 (len_some hlen (by decide))
  obtain ⟨c, rfl, _⟩ := field_int Tryd.underlying3 h3 (len_some hlen (by decide))
  obtain ⟨q4, rfl⟩ := field_bool Tryd.underlying4 h4 (len_some hlen (by decide))
  obtain ⟨q5, rfl⟩ := field_bool Tryd.underlying4 h5 (len_some hlen (by decide))
  obtain ⟨q6, rfl⟩ := field_bool Tryd.underlying4 h6 (len_some hlen (by decide))
  exact ⟨k, b, r, c, q4, q5, q6, rfl, hb⟩
theorem act_cells {H : Type} {enc : TypeId × Value → H} {W : World} {base : Nat} {spare : Nat → Bool} {held : Bool} {fuel : Nat} {cs : List Value} {x : DataW H × List MemPlace} (hl : cs.length = 10) (h : DataW.trod enc Tryd.prog W base spare held fuel 52 cs = some x) :
    ∃ wh k b r c sh al ct m e, cs = [.int .i64 wh, .int .i64 k, .int .i64 b, .int .i64 r, .int .i64 c, .bool sh, .bool al, .bool ct, .int .i64 m, .bool e] := by
  obtain ⟨c0, c1, c2, c3, c4, c5, c6, c7, c8, c9, rfl⟩ := lst_ten hl
  obtain ⟨xs, n, _, _, _, hlen, hg⟩ := DataW.trod_struct Tryd.underlying52 h
  have h0 := hg 0 _ rfl
  have h1 := hg 1 _ rfl
  have h2 := hg 2 _ rfl
  have h3 := hg 3 _ rfl
  simp [cellsInt, cellsBool, cellsEv] at h0 h1 h2 h3
  obtain ⟨wh, rfl, _⟩ := field_int Tryd.underlying3 h0 (len_some hlen (by decide))
  obtain ⟨m, rfl, _⟩ := field_int Tryd.underlying3 h2 (len_some hlen (by decide))
  obtain ⟨e, rfl⟩ := field_bool Tryd.underlying4 h3 (len_some hlen (by decide))
  obtain ⟨y, hy⟩ := Option.isSome_iff_exists.1 (len_some hlen (show 1 < 4 by decide))
  rw [hy] at h1
  obtain ⟨k, b, r, c, q4, q5, q6, e1, _⟩ := ev_cells rfl h1
  simp at e1
  obtain ⟨rfl, rfl, rfl, rfl, rfl, rfl, rfl⟩ := e1
  exact ⟨wh, k, b, r, c, q4, q5, q6, m, e, rfl⟩
theorem open_act {H : Type} {enc : TypeId × Value → H} {W : World} {base b0 : Nat} {spare : Nat → Bool} {held : Bool} {r : Reach} {v : Value} {d : DataW H} {p : List MemPlace} (hv : Value.okWide Tryd.prog W r b0 52 v) (h : DataW.Trod enc Tryd.prog W base spare held 52 v d p) :
    ∃ wh k b r c sh al ct m e, v = .agg #[.int .i64 wh, .int .i64 k, .int .i64 b, .int .i64 r, .int .i64 c, .bool sh, .bool al, .bool ct, .int .i64 m, .bool e] := by
  obtain ⟨⟨cs⟩, rfl, hsz⟩ := okWide_struct Tryd.underlying52 hv
  obtain ⟨fuel, hf⟩ := h
  obtain ⟨wh, k, b, r, c, sh, al, ct, m, e, he⟩ := act_cells (cs := cs) (by rw [cellsAct] at hsz; simpa using hsz) hf
  exact ⟨wh, k, b, r, c, sh, al, ct, m, e, by rw [he]⟩

end Go.Proofs.YtfhigmogcpocpaaDoor
