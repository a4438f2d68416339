/- params: Copy, List. -/
import Derived.Test.YtdbjebjmhjljbaaDoorE
import Derived.Outline
set_option linter.unusedSimpArgs false
set_option linter.unusedVariables false
set_option linter.unnecessarySimpa false
namespace Go.Proofs.YtdbjebjmhjljbaaDoor
open Go.RowKit

theorem sixteen (ls : List Int) (h : ls.length = 16) : ∃ a0 a1 a2 a3 a4 a5 a6 a7 a8 a9 a10 a11 a12 a13 a14 a15 : Int, ls = [a0, a1, a2, a3, a4, a5, a6, a7, a8, a9, a10, a11, a12, a13, a14, a15] := by
  match ls, h with
  | [a0, a1, a2, a3, a4, a5, a6, a7, a8, a9, a10, a11, a12, a13, a14, a15], _ => exact ⟨a0, a1, a2, a3, a4, a5, a6, a7, a8, a9, a10, a11, a12, a13, a14, a15, rfl⟩
set_option maxRecDepth 100000 in
set_option maxHeartbeats 2000000 in
theorem copyb_any (D : Nat) (ws : List Int) (ov : Bool) (w : World) (hd : BldV w D 38 [] [] ws ov) :
    Calls Tryd.prog 24 #[.pointer (some ⟨D, 0, none⟩)] w fun e w' => e = .returned (.pointer (some ⟨w.heap.size, 0, none⟩)) ∧ BldV w' w.heap.size 38 [] [] ws ov ∧ Below w.heap.size w w' := by
  obtain ⟨ls, hl, hw, ht, hx⟩ := hd
  have T := Lib.hid ht
  obtain ⟨a0, a1, a2, a3, a4, a5, a6, a7, a8, a9, a10, a11, a12, a13, a14, a15, hls⟩ := sixteen ls hl
  have L := Lib.hid hls
  rw [hls] at hx
  generalize hn : ((ws.length : Nat) : Int) = n at hx
  have HN := Lib.hid hn
  clear ht hls hn
  have hg : w.heap[D]? = some (.cells #[.int .i64 a0, .int .i64 a1, .int .i64 a2, .int .i64 a3, .int .i64 a4, .int .i64 a5, .int .i64 a6, .int .i64 a7, .int .i64 a8, .int .i64 a9, .int .i64 a10, .int .i64 a11, .int .i64 a12, .int .i64 a13, .int .i64 a14, .int .i64 a15, .int .i64 n, .bool ov] 38 (0, 0)) := hx
  have x3 := hx.lt
  clear hx
  go_enter Tryd.func24, Tryd.ntmps24
  go_wp2_with (refine wpList_load_row rfl 38 (.tmp 7) rfl D rfl 38 #[.int .i64 a0, .int .i64 a1, .int .i64 a2, .int .i64 a3, .int .i64 a4, .int .i64 a5, .int .i64 a6, .int .i64 a7, .int .i64 a8, .int .i64 a9, .int .i64 a10, .int .i64 a11, .int .i64 a12, .int .i64 a13, .int .i64 a14, .int .i64 a15, .int .i64 n, .bool ov] (0, 0) _ hg Tryd.underlying38 rfl (by kernel_rfl) ?_)
  go_ret
  refine ⟨rfl, ⟨ls, hl, hw, T.out, ?_⟩, (Below.refl _ _).alloc (Nat.le_refl _) _⟩
  rw [L.out, HN.out]
  exact Box.new _ _ _ rfl

end Go.Proofs.YtdbjebjmhjljbaaDoor
