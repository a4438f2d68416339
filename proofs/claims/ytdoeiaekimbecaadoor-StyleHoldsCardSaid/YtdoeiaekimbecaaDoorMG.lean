/- params: List. -/
import Derived.Test.YtdoeiaekimbecaaDoorMF
import Derived.OwnWalk
import Derived.Laws.CopyOwn
import Derived.Outline
set_option linter.unusedSimpArgs false
set_option linter.unusedVariables false
set_option linter.unnecessarySimpa false
namespace Go.Proofs.YtdoeiaekimbecaaDoor.Pm
open Go.RowKit

theorem el64 : (Tryd.prog.info? 3).map (fun i => (i.zero, i.size, i.bytes)) = some (some (.int .i64 0), 1, 8) := by kernel_rfl
theorem row_of {w : World} {B g n : Nat} {E : TypeId} {xs : List Value} (h : w.ownsRow B E 1 (.slice (some ⟨g, 0, none⟩) n n) n xs) : ∃ cur : List Value, cur.length = n ∧ w.heap[g]? = some (.cells cur.toArray E (0, 0)) := by
  rcases h.2 with ⟨h1, _⟩ | ⟨g', cap, cur, hv, hb, hgg, hnc, hcm, hcs, ht⟩
  · cases h1
  · injection hv with h1 h2 h3
    injection h1 with h1
    injection h1 with h1
    subst h1 h3
    exact ⟨cur.toList, by simpa using hcs, hgg⟩
theorem list_cells {w w1 : World} {D o : Nat} {ls ws : List Int} (hb : Below w.heap.size w w1) (hD : D < w.heap.size) (hy : ∀ j, j < 16 → w.cell? ⟨D, o + j, none⟩ = some (.int .i64 (ls.getD j 0))) (ht : ls.take ws.length = ws) (hw : ws.length ≤ 16)
    (j : Nat) (v : Value) (hj : (ws.map (Value.int .i64))[j]? = some v) : w1.cell? ((⟨D, o, none⟩ : Addr).add j) = some v := by
  rw [List.getElem?_map, Option.map_eq_some_iff] at hj
  obtain ⟨x, hx, rfl⟩ := hj
  have hl := (List.getElem?_eq_some_iff.1 hx).1
  rw [Addr.add_lit, hb.cell (p := ⟨D, o + j, none⟩) hD, hy j (by omega), get_of_take ls ws ht j hl]
  simp [List.getD, hx]
end Go.Proofs.YtdoeiaekimbecaaDoor.Pm
