/- Motion: the arguments opened: an area, a cursor. -/
import Derived.Test.YtfcogdpkelcfbaaLift
namespace Go.Proofs.Ytfcogdpkelcfbaa
open Go.ChangeShapes Go.WideShapes Go.ChangeAt Go.RowKit

theorem cells3 : Try.prog.cellsOf 3 = 1 := by kernel_rfl
theorem cells4 : Try.prog.cellsOf 4 = 1 := by kernel_rfl
theorem cellsRegion : Try.prog.cellsOf 23 = 2 := by kernel_rfl
theorem cellsArea : Try.prog.cellsOf 25 = 5 := by kernel_rfl
theorem cellsCursor : Try.prog.cellsOf 27 = 3 := by kernel_rfl

section
variable {H : Type} {enc : TypeId × Value → H} {W : World} {base b0 : Nat} {spare : Nat → Bool} {held : Bool} {r : Reach}

theorem five {l : List Value} (h : l.length = 5) : ∃ a b c d e, l = [a, b, c, d, e] := by
  match l, h with
  | [a, b, c, d, e], _ => exact ⟨a, b, c, d, e, rfl⟩
theorem three {l : List Value} (h : l.length = 3) : ∃ a b c, l = [a, b, c] := by
  match l, h with
  | [a, b, c], _ => exact ⟨a, b, c, rfl⟩
theorem len_some {α : Type} {xs : List α} {n i : Nat} (h : xs.length = n) (hi : i < n) : (xs[i]?).isSome = true := by simp [h, hi]

theorem open_cursor {v : Value} {d : DataW H} {p : List MemPlace} (hv : Value.okWide Try.prog W r b0 27 v) (h : DataW.Trod enc Try.prog W base spare held 27 v d p) :
    ∃ (a b : Int) (q : Bool), v = .agg #[.int .i64 a, .int .i64 b, .bool q] := by
  obtain ⟨⟨cs⟩, rfl, hsz⟩ := okWide_struct Try.underlying27 hv
  obtain ⟨c0, c1, c2, rfl⟩ := three (l := cs) (by rw [cellsCursor] at hsz; simpa using hsz)
  obtain ⟨fuel, hf⟩ := h
  obtain ⟨xs, n, _, _, _, hlen, hg⟩ := DataW.trod_struct Try.underlying27 hf
  have h0 := hg 0 _ rfl
  have h1 := hg 1 _ rfl
  have h2 := hg 2 _ rfl
  simp [Value.cells, cells3, cells4] at h0 h1 h2
  obtain ⟨a, rfl, _⟩ := field_int Try.underlying3 h0 (len_some hlen (by decide))
  obtain ⟨b, rfl, _⟩ := field_int Try.underlying3 h1 (len_some hlen (by decide))
  obtain ⟨q, rfl⟩ := field_bool Try.underlying4 h2 (len_some hlen (by decide))
  exact ⟨a, b, q, rfl⟩

theorem open_area {v : Value} {d : DataW H} {p : List MemPlace} (hv : Value.okWide Try.prog W r b0 25 v) (h : DataW.Trod enc Try.prog W base spare held 25 v d p) :
    ∃ (rows cols top bottom : Int) (o : Bool), v = .agg #[.int .i64 rows, .int .i64 cols, .int .i64 top, .int .i64 bottom, .bool o] := by
  obtain ⟨⟨cs⟩, rfl, hsz⟩ := okWide_struct Try.underlying25 hv
  obtain ⟨c0, c1, c2, c3, c4, rfl⟩ := five (l := cs) (by rw [cellsArea] at hsz; simpa using hsz)
  obtain ⟨fuel, hf⟩ := h
  obtain ⟨xs, n, _, _, _, hlen, hg⟩ := DataW.trod_struct Try.underlying25 hf
  have h0 := hg 0 _ rfl
  have h1 := hg 1 _ rfl
  have h2 := hg 2 _ rfl
  have h3 := hg 3 _ rfl
  simp [Value.cells, cells3, cells4, cellsRegion] at h0 h1 h2 h3
  obtain ⟨a, rfl, _⟩ := field_int Try.underlying3 h0 (len_some hlen (by decide))
  obtain ⟨b, rfl, _⟩ := field_int Try.underlying3 h1 (len_some hlen (by decide))
  obtain ⟨q, rfl⟩ := field_bool Try.underlying4 h3 (len_some hlen (by decide))
  obtain ⟨y, hy⟩ := Option.isSome_iff_exists.1 (len_some hlen (show 2 < 4 by decide))
  rw [hy] at h2
  obtain ⟨ys, m, _, _, _, hlen2, hg2⟩ := DataW.trod_struct Try.underlying23 h2
  have k0 := hg2 0 _ rfl
  have k1 := hg2 1 _ rfl
  simp [cells3] at k0 k1
  obtain ⟨e, rfl, _⟩ := field_int Try.underlying3 k0 (len_some hlen2 (by decide))
  obtain ⟨g, rfl, _⟩ := field_int Try.underlying3 k1 (len_some hlen2 (by decide))
  exact ⟨a, b, e, g, q, rfl⟩
end

end Go.Proofs.Ytfcogdpkelcfbaa
