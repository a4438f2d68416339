/- modes: a builder of the call's own: WriteRune, String. -/
import Derived.Test.YtcmflmmidipckaaDoorI
import Derived.Outline
set_option linter.unusedSimpArgs false
set_option linter.unusedVariables false
set_option linter.unnecessarySimpa false
namespace Go.Proofs.YtcmflmmidipckaaDoor
open Go.RowKit

set_option maxHeartbeats 2000000 in
set_option maxRecDepth 100000 in
theorem writeRune_any (b : Nat) (bs : List Value) (c : Int) (w : World) (h : Bu w b bs) (hc : 0 ≤ c ∧ c < 128) (hlen : bs.length ≤ 1000000) :
    Calls Tryd.prog 32 #[.pointer (some ⟨b, 0, none⟩), .int .i32 c] w fun e w' => e = .returned (.tuple #[.int .i64 1, .nilIface]) ∧ Bu w' b (bs ++ [.int .u8 c]) ∧ Wr b w w' := by
  have cC := copyCheck_any b bs w h
  go_enter Tryd.func32, Tryd.ntmps32
  go_wp2_with (go_at_call 36; (with_reducible refine cC.mono ?_))
  rintro e w1 ⟨rfl, h1, hw1⟩
  obtain ⟨hB, v, hbk, hown, hne⟩ := h1
  obtain ⟨ao, cap, rfl⟩ : ∃ ao cap, v = .slice ao bs.length cap := by
    rcases hown.2 with ⟨hv, h0⟩ | ⟨g, cap, cur, hv, _⟩
    · exact ⟨none, 0, by rw [hv, h0]⟩
    · exact ⟨_, _, hv⟩
  have c0 : w1.cell? ⟨b, 0, none⟩ = some (.pointer (some ⟨b, 0, none⟩)) := by rw [Lib.cell_of_heap hbk]; rfl
  have c1 : w1.cell? ⟨b, 1, none⟩ = some (.slice ao bs.length cap) := by rw [Lib.cell_of_heap hbk]; rfl
  have hlt : b < w1.heap.size := (Array.getElem?_eq_some_iff.1 hbk).1
  have cA := appendRune_any b _ _ bs c w1 hc hown hlen (by omega)
  go_wp2_with (go_at_call 37; (with_reducible refine cA.mono ?_))
  rintro e w2 ⟨v', rfl, hown', hgrow⟩
  have hb2 : w2.heap[b]? = some (.cells #[.pointer (some ⟨b, 0, none⟩), .slice ao bs.length cap] 65 (0, 0)) := by
    rw [hgrow.block b (by simp; omega) (fun e => hne e.symm), Lib.alloc_old w1 _ b hlt]; exact hbk
  have d0 : w2.cell? ⟨b, 0, none⟩ = some (.pointer (some ⟨b, 0, none⟩)) := by rw [Lib.cell_of_heap hb2]; rfl
  have d1 : w2.cell? ⟨b, 1, none⟩ = some (.slice ao bs.length cap) := by rw [Lib.cell_of_heap hb2]; rfl
  have f1 : w2.frozen? ⟨b, 1, none⟩ = false := Lib.frozen_of_heap hb2 1
  have hw2 := (hw1.alloc (by omega) (.cells #[.int .u8 c] 5)).grown (by simp; omega) (hown.alloc _) hgrow
  obtain ⟨g, cap', rfl⟩ : ∃ g cap', v' = .slice (some ⟨g, 0, none⟩) (bs.length + 1) cap' := by
    rcases hown'.2 with ⟨_, h0⟩ | ⟨g, cap', cur, hv, _⟩
    · omega
    · exact ⟨g, cap', hv⟩
  have hlt2 : b < w2.heap.size := (Array.getElem?_eq_some_iff.1 hb2).1
  go_wp2_with fail
  go_ret2
  exact ⟨by first | rfl | (congr 2; simp; omega) | simp, .inr (Lib.BuilderAt.put (T := 65) (e := 5) hB hb2 (bs' := bs ++ [.int .u8 c]) (by simpa using hown') (by decide)), hw2.set _ _⟩
theorem string_any (b : Nat) (l : List UInt8) (w : World) (h : Bu w b (Lib.byteCells l)) (hb : b ≤ w.heap.size) :
    Calls Tryd.prog 35 #[.pointer (some ⟨b, 0, none⟩)] w fun e w' => e = .returned (.string ⟨l.toArray⟩) ∧ Below b w w' := Tryd.Builder_String_any b b l w h hb

end Go.Proofs.YtcmflmmidipckaaDoor
