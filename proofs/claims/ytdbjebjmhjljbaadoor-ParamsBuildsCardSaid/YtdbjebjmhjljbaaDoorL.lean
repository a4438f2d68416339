/- params: Parse, walked (a byte is not fine). -/
import Derived.Test.YtdbjebjmhjljbaaDoorK
import Derived.Outline
import Derived.Lib.TrimU
import Derived.Deep.LoopGhost
set_option linter.unusedSimpArgs false
set_option linter.unusedVariables false
set_option linter.unnecessarySimpa false
namespace Go.Proofs.YtdbjebjmhjljbaaDoor
open Go.RowKit

set_option maxHeartbeats 2000000 in
theorem parse_no (s : ByteArray) (w : World) (hs : s.size ≤ 1000000) (hd : ¬ ∀ c ∈ bytesOf s, fineR c = true) :
    Calls Tryd.prog 23 #[.string s] w fun e w' => e = .returned (.tuple #[.slice none 0 0, .int .i64 6]) ∧ Below w.heap.size w w' := by
  have HD := Lib.hid hd
  clear hd
  go_enter Tryd.func23, Tryd.ntmps23
  go_wp2_with fail
  go_loopg [6] s.size (fun gf s6 wx => ∃ (pos : Nat), pos ≤ s.size ∧ Hid (∀ c ∈ (bytesOf s).take pos, fineR c = true) ∧ s.size ≤ pos + gf ∧ wx.heap[w.heap.size + 1]? = some (.stringIter s pos) ∧ BldV wx w.heap.size 38 [] [] (bldQ ((bytesOf s).take pos)).1 (bldQ ((bytesOf s).take pos)).2 ∧ Below w.heap.size w wx)
  case atStart =>
    exact ⟨0, Nat.zero_le _, (by unfold Hid; simp), by omega, by first | exact World.iter_heap (w.alloc _) s 0 | (have := World.iter_heap (w.alloc (.cells #[.int .i64 0, .int .i64 0, .int .i64 0, .int .i64 0, .int .i64 0, .int .i64 0, .int .i64 0, .int .i64 0, .int .i64 0, .int .i64 0, .int .i64 0, .int .i64 0, .int .i64 0, .int .i64 0, .int .i64 0, .int .i64 0, .int .i64 0, .bool false] 38)) s 0; rw [show (w.alloc (.cells #[.int .i64 0, .int .i64 0, .int .i64 0, .int .i64 0, .int .i64 0, .int .i64 0, .int .i64 0, .int .i64 0, .int .i64 0, .int .i64 0, .int .i64 0, .int .i64 0, .int .i64 0, .int .i64 0, .int .i64 0, .int .i64 0, .int .i64 0, .bool false] 38)).heap.size = w.heap.size + 1 by simp] at this; exact this), ⟨List.replicate 16 0, rfl, Nat.zero_le _, rfl, (Box.new w _ _ rfl).alloc _⟩, ((Below.refl _ w).alloc (Nat.le_refl _) _).alloc (by simp) _⟩
  case round =>
    obtain ⟨pos, hp1, HF, hp2, hit, hbv, hbw⟩ := hrel
    by_cases hlt : pos < s.size
    · obtain ⟨g', rfl⟩ : ∃ g', gk = g' + 1 := ⟨gk - 1, by omega⟩
      by_cases hf : fineR (s[pos].toNat : Int) = true
      · have HF2 : Hid (∀ c ∈ (bytesOf s).take (pos + 1), fineR c = true) := by
          unfold Hid; rw [bytesOf_take_succ s pos hlt]; intro c hc
          rcases List.mem_append.1 hc with h | h
          · exact HF.out c h
          · have e : c = (s[pos].toNat : Int) := by simpa using h
            rw [e]; exact hf
        have h128 : s[pos].toNat < 128 := by simp [fineR] at hf; omega
        have hnx : ∀ ty, (Instr.next (.pointer (some ⟨w.heap.size + 1, 0, none⟩)) true ty).run Tryd.prog wr = _ := fun ty => Lib.run_next_ascii_at wr (w.heap.size + 1) s pos ty hit hlt h128
        have hit2 := Lib.iterAt_heap wr (w.heap.size + 1) s pos (pos + 1) hit
        have hbw2 := Lib.below_iterAt hbw (k := w.heap.size + 1) (by omega) s (pos + 1)
        have hbv2 := hbv.iterAt (k := w.heap.size + 1) (by omega) s (pos + 1)
        have HQ : Hid (bldQ ((bytesOf s).take (pos + 1)) = bldS (bldQ ((bytesOf s).take pos)) (s[pos].toNat : Int)) := by unfold Hid; rw [bytesOf_take_succ s pos hlt, bldQ_snoc]
        have hok := bldQ_ok ((bytesOf s).take pos) HF.out
        obtain ⟨W, hWd⟩ : ∃ W, wr.iterAt (w.heap.size + 1) s (pos + 1) = W := ⟨_, rfl⟩
        rw [hWd] at hnx hit2 hbw2 hbv2
        have cA := add_any w.heap.size 38 [] [] _ _ _ W hbv2 hf hok
        clear hbv hit hbw hbv2 hok hf
        go_wp2_with (go_at_call 20; refine cA.mono ?_; rintro e W' ⟨rfl, hB, hV⟩)
        go_roundg g'
        case measure => omega
        case rel => exact ⟨pos + 1, by omega, HF2, by omega, (hB.block _ (by omega) (Array.getElem?_eq_some_iff.1 hit2).1).trans hit2, by rw [HQ.out]; exact hV, Bar.to_below hbw2 hB (Nat.le_refl _)⟩
      · have hR : fineR ((Utf8.decode s pos).1 : Int) = false := by
          by_cases h128 : s[pos].toNat < 128
          · rw [decode_ascii s pos hlt h128]; simpa using hf
          · have := (decode_high s pos hlt (by omega)).1
            simp [fineR]; omega
        have hle := Lib.rune_le s pos
        have hnx : ∀ ty, (Instr.next (.pointer (some ⟨w.heap.size + 1, 0, none⟩)) true ty).run Tryd.prog wr = _ := fun ty => Lib.run_next_any_at wr (w.heap.size + 1) s pos ty hit hlt
        have hbw2 := Lib.below_iterAt hbw (k := w.heap.size + 1) (by omega) s (pos + (Utf8.decode s pos).2)
        obtain ⟨W, hWd⟩ : ∃ W, wr.iterAt (w.heap.size + 1) s (pos + (Utf8.decode s pos).2) = W := ⟨_, rfl⟩
        obtain ⟨R, hRd⟩ : ∃ R, (Utf8.decode s pos).1 = R := ⟨_, rfl⟩
        rw [hWd, hRd] at hnx
        rw [hWd] at hbw2
        rw [hRd] at hR hle
        have cA := add_no (some ⟨w.heap.size, 0, none⟩) R W hR (by omega)
        clear hbv hit hbw hR hle
        go_wp2_with (go_at_call 20; refine cA.mono ?_; rintro e W' ⟨rfl, rfl⟩)
        go_ret2
        exact ⟨rfl, hbw2⟩
    · exfalso
      apply HD.out
      have ep : (bytesOf s).take pos = bytesOf s := List.take_of_length_le (by rw [bytesOf_len]; omega)
      have := HF.out
      rw [ep] at this
      exact this

end Go.Proofs.YtdbjebjmhjljbaaDoor
