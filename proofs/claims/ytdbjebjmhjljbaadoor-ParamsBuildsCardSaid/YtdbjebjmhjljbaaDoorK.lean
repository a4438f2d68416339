/- params: Parse, walked (a string of fine bytes). -/
import Derived.Test.YtdbjebjmhjljbaaDoorJ
import Derived.Outline
import Derived.Deep.LoopGhost
set_option linter.unusedSimpArgs false
set_option linter.unusedVariables false
set_option linter.unnecessarySimpa false
namespace Go.Proofs.YtdbjebjmhjljbaaDoor
open Go.RowKit

set_option maxHeartbeats 2000000 in
theorem parse_any (s : ByteArray) (w : World) (hs : s.size ≤ 1000000) (hd : ∀ c ∈ bytesOf s, fineR c = true) :
    Calls Tryd.prog 23 #[.string s] w fun e w' => ∃ v, e = .returned (.tuple #[v, .int .i64 0]) ∧ Own w' w.heap.size 3 .i64 v (bldQ (bytesOf s)).1 ∧ Below w.heap.size w w' := by
  have HD := Lib.hid hd
  clear hd
  go_enter Tryd.func23, Tryd.ntmps23
  go_wp2_with fail
  go_loopg [6] s.size (fun gf s6 wx => ∃ (pos : Nat), pos ≤ s.size ∧ s.size ≤ pos + gf ∧ wx.heap[w.heap.size + 1]? = some (.stringIter s pos) ∧ BldV wx w.heap.size 38 [] [] (bldQ ((bytesOf s).take pos)).1 (bldQ ((bytesOf s).take pos)).2 ∧ Below w.heap.size w wx)
  case atStart =>
    exact ⟨0, Nat.zero_le _, by omega, by first | exact World.iter_heap (w.alloc _) s 0 | (have := World.iter_heap (w.alloc (.cells #[.int .i64 0, .int .i64 0, .int .i64 0, .int .i64 0, .int .i64 0, .int .i64 0, .int .i64 0, .int .i64 0, .int .i64 0, .int .i64 0, .int .i64 0, .int .i64 0, .int .i64 0, .int .i64 0, .int .i64 0, .int .i64 0, .int .i64 0, .bool false] 38)) s 0; rw [show (w.alloc (.cells #[.int .i64 0, .int .i64 0, .int .i64 0, .int .i64 0, .int .i64 0, .int .i64 0, .int .i64 0, .int .i64 0, .int .i64 0, .int .i64 0, .int .i64 0, .int .i64 0, .int .i64 0, .int .i64 0, .int .i64 0, .int .i64 0, .int .i64 0, .bool false] 38)).heap.size = w.heap.size + 1 by simp] at this; exact this), ⟨List.replicate 16 0, rfl, Nat.zero_le _, rfl, (Box.new w _ _ rfl).alloc _⟩, ((Below.refl _ w).alloc (Nat.le_refl _) _).alloc (by simp) _⟩
  case round =>
    obtain ⟨pos, hp1, hp2, hit, hbv, hbw⟩ := hrel
    by_cases hlt : pos < s.size
    · obtain ⟨g', rfl⟩ : ∃ g', gk = g' + 1 := ⟨gk - 1, by omega⟩
      have hf : fineR (s[pos].toNat : Int) = true := HD.out _ (by
        have e := bytesOf_take_succ s pos hlt
        exact List.mem_of_mem_take (i := pos + 1) (by rw [e]; simp))
      have h128 : s[pos].toNat < 128 := by simp [fineR] at hf; omega
      have hnx : ∀ ty, (Instr.next (.pointer (some ⟨w.heap.size + 1, 0, none⟩)) true ty).run Tryd.prog wr = _ := fun ty => Lib.run_next_ascii_at wr (w.heap.size + 1) s pos ty hit hlt h128
      have hit2 := Lib.iterAt_heap wr (w.heap.size + 1) s pos (pos + 1) hit
      have hbw2 := Lib.below_iterAt hbw (k := w.heap.size + 1) (by omega) s (pos + 1)
      have hbv2 := hbv.iterAt (k := w.heap.size + 1) (by omega) s (pos + 1)
      have HQ : Hid (bldQ ((bytesOf s).take (pos + 1)) = bldS (bldQ ((bytesOf s).take pos)) (s[pos].toNat : Int)) := by unfold Hid; rw [bytesOf_take_succ s pos hlt, bldQ_snoc]
      have hok := bldQ_ok ((bytesOf s).take pos) (fun c hc => HD.out c (List.mem_of_mem_take hc))
      obtain ⟨W, hWd⟩ : ∃ W, wr.iterAt (w.heap.size + 1) s (pos + 1) = W := ⟨_, rfl⟩
      rw [hWd] at hnx hit2 hbw2 hbv2
      have cA := add_any w.heap.size 38 [] [] _ _ _ W hbv2 hf hok
      clear hbv hit hbw hbv2 hok hf
      go_wp2_with (go_at_call 20; refine cA.mono ?_; rintro e W' ⟨rfl, hB, hV⟩)
      go_roundg g'
      case measure => omega
      case rel => exact ⟨pos + 1, by omega, by omega, (hB.block _ (by omega) (Array.getElem?_eq_some_iff.1 hit2).1).trans hit2, by rw [HQ.out]; exact hV, Bar.to_below hbw2 hB (Nat.le_refl _)⟩
    · have hnx : ∀ ty, (Instr.next (.pointer (some ⟨w.heap.size + 1, 0, none⟩)) true ty).run Tryd.prog wr = _ := fun ty => Lib.run_next_end_at wr (w.heap.size + 1) s pos ty hit hlt
      have ep : (bytesOf s).take pos = bytesOf s := List.take_of_length_le (by rw [bytesOf_len]; omega)
      rw [ep] at hbv
      have cL := list_any w.heap.size 38 [] [] _ _ wr hbv
      clear hbv hit ep
      go_wp2_with (go_at_call 27; refine cL.mono ?_; rintro e W' ⟨v, rfl, ho, hb⟩)
      go_ret2
      exact ⟨v, rfl, ho.weaken hbw.size, hbw.trans (by first | exact hb.mono hbw.size | exact hb.le hbw.size | exact hb.weaken hbw.size | exact ⟨hb.os, hb.tape, hb.output, hb.size, fun k hk => hb.block k (Nat.lt_of_lt_of_le hk hbw.size)⟩)⟩

end Go.Proofs.YtdbjebjmhjljbaaDoor
