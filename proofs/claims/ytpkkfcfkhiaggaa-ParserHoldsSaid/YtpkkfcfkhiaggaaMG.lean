/- params: List. -/
import Derived.Test.YtpkkfcfkhiaggaaMF
import Derived.OwnWalk
import Derived.Laws.CopyOwn
import Derived.Outline
set_option linter.unusedSimpArgs false
set_option linter.unusedVariables false
set_option linter.unnecessarySimpa false
namespace Go.Proofs.Ytpkkfcfkhiaggaa.Pm
open Go.RowKit

theorem el64 : (Try.prog.info? 3).map (fun i => (i.zero, i.size, i.bytes)) = some (some (.int .i64 0), 1, 8) := by kernel_rfl
theorem row_of {w : World} {B g n : Nat} {E : TypeId} {xs : List Value} (h : w.ownsRow B E 1 (.slice (some ⟨g, 0, none⟩) n n) n xs) : ∃ cur : List Value, cur.length = n ∧ w.heap[g]? = some (.cells cur.toArray E (0, 0)) := by
  rcases h.2 with ⟨h1, _⟩ | ⟨g', cap, cur, hv, hb, hgg, hnc, hcm, hcs, ht⟩
  · cases h1
  · injection hv with h1 h2 h3
    injection h1 with h1
    injection h1 with h1
    subst h1 h3
    exact ⟨cur.toList, by simpa using hcs, hgg⟩
theorem list_cells {w w1 : World} {D o : Nat} {ls ws : List Int} (hb : Below w.heap.size w w1) (hD : D < w.heap.size) (hy : ∀ j, j < 16 → w.cell? ⟨D, o + j, none⟩ = some (.int .i64 (ls.getD j 0))) (ht : ls.take ws.length = ws) (hw : ws.length ≤ 16)
    (j : Nat) (v : Value) (hj : (ws.map (Value.int .i64))[j]? = some v) : w1.cell? ((⟨D, o, none⟩ : Addr).add j) = some v := by
  rw [List.getElem?_map, Option.map_eq_some_iff] at hj
  obtain ⟨x, hx, rfl⟩ := hj
  have hl := (List.getElem?_eq_some_iff.1 hx).1
  rw [Addr.add_lit, hb.cell (p := ⟨D, o + j, none⟩) hD, hy j (by omega), get_of_take ls ws ht j hl]
  simp [List.getD, hx]
set_option maxRecDepth 100000 in
set_option maxHeartbeats 1000000 in
theorem list_any (D : Nat) (t : TypeId) (pre rest : List Value) (ws : List Int) (ov : Bool) (w : World) (hd : BldV w D t pre rest ws ov) :
    Calls Try.prog 63 #[.pointer (some ⟨D, pre.length, none⟩)] w (RetOwn w 3 .i64 ws) := by
  obtain ⟨ls, hl, hw, ht, hx⟩ := hd
  obtain ⟨y1, y2, y3, y4, y5⟩ := BldF.of hl hx
  obtain ⟨i0, hi, hz0, hz1, hz2⟩ := info_parts el64
  have HY := Lib.hid y1
  have T := Lib.hid ht
  clear y1 ht
  go_enter Try.func63, Try.ntmps63
  go_wp2_with (first | (refine wpList_make_full _ rfl (.tmp 9) (.tmp 9) 50 rfl w.heap.size 3 i0 (.int .i64 0) 1 Try.underlying50 hi hz0 hz1 .i64 .i64 _ _ ws.length rfl rfl rfl rfl (by rw [hz2]; omega) (by simp [maxLen]; omega) (Nat.le_refl _) ?_; intro w1 hown hg1; obtain ⟨cur, hcl, hcur⟩ := row_of hown; have hb1 : Below w.heap.size w w1 := app_below (Below.refl _ _) hg1 (fun g h => by cases h); have HC : Hid (∀ (j : Nat) (v : Value), (ws.map (Value.int .i64))[j]? = some v → w1.cell? ((⟨D, pre.length, none⟩ : Addr).add j) = some v) := fun j v hj => list_cells hb1 y5 HY.out T.out hw j v hj) | (refine wpList_copy_splice rfl (.tmp 11) (.tmp 15) 50 50 rfl 3 Try.underlying50 (by kernel_rfl) (some ⟨w.heap.size, 0, none⟩) (some ⟨D, pre.length, none⟩) ws.length ws.length 16 16 rfl rfl w.heap.size 0 cur 3 hcur (ws.map (Value.int .i64)) (by rw [List.length_map]; show _ = min _ _; omega) (fun _ => ⟨rfl, _, rfl, HC.out⟩) (by simp; omega) (fun v hv => by obtain ⟨x, _, rfl⟩ := List.mem_map.1 hv; rfl) w.heap.size w hb1 (Nat.le_refl _) ?_; intro w2 hrow hb2))
  go_ret
  refine ⟨_, rfl, ?_, hb2⟩
  have hr := hrow.out
  rw [show splice cur 0 (ws.map (Value.int .i64)) = ws.map (Value.int .i64) by simp [splice, ← hcl]] at hr
  exact ⟨by simp, .inr ⟨w.heap.size, ws.length, _, rfl, Nat.le_refl _, hr, Nat.le_refl _, by unfold maxLen; omega, by simp, by simpa using List.take_of_length_le (by simp)⟩⟩

end Go.Proofs.Ytpkkfcfkhiaggaa.Pm
