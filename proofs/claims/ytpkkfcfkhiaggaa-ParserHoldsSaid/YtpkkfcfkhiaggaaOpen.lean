/- What comes in: slices of numbers, numbers, strings, as the walks read them. -/
import Derived.Test.YtpkkfcfkhiaggaaSl
import Derived.Test.YtpkkfcfkhiaggaaLift
import Derived.ChangeSlices
set_option linter.unusedSimpArgs false
set_option linter.unusedVariables false
set_option linter.unnecessarySimpa false
set_option maxRecDepth 100000
namespace Go.Proofs.Ytpkkfcfkhiaggaa
open Go.ChangeShapes Go.WideShapes Go.ChangeAt Go.RowKit

/-- A slice of numbers that came in, as the walks read it. -/
theorem open_rd {H : Type} {enc : TypeId × Value → H} {W : World} {b0 : Nat} {r : Reach} {v : Value} {d : DataW H} {p : List MemPlace} {t e : TypeId} {k : IntKind} (ht : Try.prog.underlying t = some (.slice e)) (he : Try.prog.underlying e = some (.int k)) (hc : Try.prog.cellsOf e = 1)
    (hv : Value.okWide Try.prog W r b0 t v) (h : DataW.Trod enc Try.prog W 0 (fun _ => true) true t v d p) : ∃ xs, Rd W k v xs ∧ ∀ n ∈ xs, (Lit.int k n).wf = true := by
  obtain ⟨fuel, hf⟩ := h
  obtain ⟨qv, lv, cv, rfl⟩ := okWide_slice ht hv
  have hone : (Value.slice qv lv cv).cells.toList = [Value.slice qv lv cv] := rfl
  rcases open_ints ht he hc hf with ⟨h1, _⟩ | ⟨a, len, cap, zs, h1, _, hl, hm, hz, _, hcell, hwf⟩
  · rw [hone] at h1
    obtain ⟨rfl, rfl, rfl⟩ : qv = none ∧ lv = 0 ∧ cv = 0 := by simpa using h1
    exact ⟨[], Rd.nil _ _, fun n hn => by cases hn⟩
  · rw [hone] at h1
    obtain ⟨rfl, rfl, rfl⟩ : qv = some a ∧ lv = len ∧ cv = cap := by simpa using h1
    simp only [if_true] at hz
    have hlz : (zs.take lv).length = lv := by rw [List.length_take]; omega
    have hok : a.spot = none ∧ a.block < W.heap.size := by
      simp only [Value.okWide, ht, Cell.okWide, Cell.ok] at hv
      obtain ⟨_, _, _, hs, row, cells, hsh, _⟩ := hv
      refine ⟨hs, ?_⟩
      unfold World.shape? at hsh
      split at hsh
      · rename_i h; exact (Array.getElem?_eq_some_iff.1 h).1
      · cases hsh
    obtain ⟨b, off, spot⟩ := a
    obtain ⟨rfl, hlt⟩ := hok
    refine ⟨zs.take lv, ⟨_, cv, by rw [hlz], by rw [hlz]; exact hl, hm, .inr ⟨b, off, rfl, hlt, fun i x hx => ?_⟩⟩, fun n hn => hwf n (List.mem_of_mem_take hn)⟩
    have hi := (List.getElem?_eq_some_iff.1 hx).1
    rw [hlz] at hi
    have := hcell i (by omega)
    rw [Addr.add_lit] at this
    rw [List.getElem?_take, if_pos hi] at hx
    rw [this]
    simp [List.getD, hx]
theorem wf_byte {n : Int} (h : (Lit.int .u8 n).wf = true) : Byte n := by
  simp only [Lit.wf, Bool.and_eq_true, decide_eq_true_eq] at h
  have e1 : IntKind.u8.min = 0 := by decide
  have e2 : IntKind.u8.max = 255 := by decide
  rw [e1, e2] at h
  unfold Byte
  omega
theorem wf_i64 {n : Int} (h : (Lit.int .i64 n).wf = true) : -9223372036854775808 ≤ n ∧ n ≤ 9223372036854775807 := by
  simp only [Lit.wf, Bool.and_eq_true, decide_eq_true_eq] at h
  have e1 : IntKind.i64.min = -9223372036854775808 := by decide
  have e2 : IntKind.i64.max = 9223372036854775807 := by decide
  rwa [e1, e2] at h
theorem wf_i32 {n : Int} (h : (Lit.int .i32 n).wf = true) : -2147483648 ≤ n ∧ n ≤ 2147483647 := by
  simp only [Lit.wf, Bool.and_eq_true, decide_eq_true_eq] at h
  have e1 : IntKind.i32.min = -2147483648 := by decide
  have e2 : IntKind.i32.max = 2147483647 := by decide
  rwa [e1, e2] at h
/-- A number that came in. -/
theorem open_num {H : Type} {enc : TypeId × Value → H} {W : World} {b0 : Nat} {r : Reach} {v : Value} {d : DataW H} {p : List MemPlace} {t : TypeId} {k : IntKind} (ht : Try.prog.underlying t = some (.int k)) (hv : Value.okWide Try.prog W r b0 t v)
    (h : DataW.Trod enc Try.prog W 0 (fun _ => true) true t v d p) : ∃ n, v = .int k n ∧ (Lit.int k n).wf = true := by
  obtain ⟨fuel, hf⟩ := h
  obtain ⟨n, h1, _, h2⟩ := DataW.trod_int ht hf
  refine ⟨n, ?_, h2⟩
  simp only [Value.okWide, ht, Cell.okWide] at hv
  cases v <;> simp_all [Cell.ok, Value.cells]

end Go.Proofs.Ytpkkfcfkhiaggaa
