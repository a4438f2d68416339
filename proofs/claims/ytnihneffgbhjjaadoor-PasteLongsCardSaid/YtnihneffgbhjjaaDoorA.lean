/- paste: a builder of the call's own: WriteRune at every rune, String; what they leave as it was. -/
import Derived.Test.YtnihneffgbhjjaaDoorP
import Derived.Test.YtnihneffgbhjjaaDoorShelf
import Derived.Test.YtnihneffgbhjjaaDoorLate
import Derived.Outline
import Derived.Lib.AppendStr
import Derived.Lib.Builder
import Derived.Lib.OthersKept
set_option linter.unusedSimpArgs false
set_option linter.unusedVariables false
set_option linter.unnecessarySimpa false
namespace Go.Proofs.YtnihneffgbhjjaaDoor
open Go.RowKit

/-- What a write into a builder in block b leaves as it was. -/
structure Wr (b : Nat) (w w' : World) : Prop where
  bel : Below b w w'
  oth : Lib.OthersKept 5 (some b) w w'
theorem Wr.refl (b : Nat) (w : World) : Wr b w w := ⟨Below.refl _ _, Lib.OthersKept.refl _ _ _⟩
theorem Wr.trans {b : Nat} {w w1 w2 : World} (h : Wr b w w1) (k : Wr b w1 w2) : Wr b w w2 := ⟨h.bel.trans k.bel, h.oth.trans k.oth⟩
theorem Wr.alloc {b : Nat} {w w1 : World} (h : Wr b w w1) (hb : b ≤ w1.heap.size) (o : Obj) : Wr b w (w1.alloc o) := ⟨h.bel.alloc hb o, h.oth.alloc o⟩
theorem Wr.set {b : Nat} {w w1 : World} (h : Wr b w w1) (i : Nat) (v : Value) : Wr b w (w1.setCell ⟨b, i, none⟩ v) :=
  ⟨h.bel.setCell (show b ≤ (⟨b, i, none⟩ : Addr).block from Nat.le_refl _) _, h.oth.setCell ⟨b, i, none⟩ rfl v⟩
theorem Wr.grown {b : Nat} {w w1 w2 : World} {v : Value} {n : Nat} {xs : List Value} (h : Wr b w w1) (hb : b ≤ w1.heap.size) (ho : w1.ownsRow b 5 1 v n xs) (hg : w1.grownBy w2 v.ownBlock) : Wr b w w2 :=
  ⟨h.bel.grown hg hb (fun k hk => (ho.lt k hk).1), h.oth.grown hg fun g hg2 => by
    rcases ho.2 with ⟨hv, _⟩ | ⟨g', cap, cur, hv, _, hgg, _⟩
    · rw [hv] at hg2; cases hg2
    · rw [hv] at hg2
      have : g' = g := by simpa [Value.ownBlock] using hg2
      subst this
      exact ⟨_, _, hgg⟩⟩
abbrev BuA (w : World) (b : Nat) (p : Value) (bs : List Value) : Prop := Lib.BuilderAt 59 5 b b p bs w
abbrev Bu (w : World) (b : Nat) (bs : List Value) : Prop := Lib.IsBuilder 59 5 b b bs w
theorem copyCheck_any (b : Nat) (bs : List Value) (w : World) (h : Bu w b bs) :
    Calls Tryd.prog 37 #[.pointer (some ⟨b, 0, none⟩)] w fun e w' => e = .returned (.tuple #[]) ∧ BuA w' b (.pointer (some ⟨b, 0, none⟩)) bs ∧ Wr b w w' := by
  rcases h with h | h
  · have c0 := h.cell0
    have hf := h.frozen0
    have hsh := h.shape
    obtain ⟨j, hj, hjs⟩ := Option.map_eq_some_iff.1 (show (Tryd.prog.info? 59).map (·.size) = some 2 by kernel_rfl)
    have k1 := Lib.run_to_unsafe w ⟨b, 0, none⟩ Tryd.underlying57 Tryd.underlying83 hj (by rw [hjs]; decide) hsh (Nat.zero_lt_succ 1)
    have k3 := Lib.run_from_unsafe w ⟨b, 0, none⟩ Tryd.underlying83 Tryd.underlying57 hj hsh (by kernel_rfl)
    go_enter Tryd.func37, Tryd.ntmps37
    go_wp2_with fail
    first
      | (rw [run_callFunc_extern Tryd.func42 (by kernel_rfl) (by kernel_rfl) (by kernel_rfl) (e := Extern.AbiNoEscape.same) (by kernel_rfl)]
         rw [Lib.run_noEscape]
         simp only [Result.andThen]
         rw [Oper.upon_value]
         go_wp2_with fail)
      | skip
    go_end0
    exact ⟨rfl, h.used _, (Wr.refl _ _).set _ _⟩
  · have c0 := h.cell0
    obtain ⟨j, hj, hjs⟩ := Option.map_eq_some_iff.1 (show (Tryd.prog.info? 59).map (·.size) = some 2 by kernel_rfl)
    have k1 := Lib.run_neq_ptr_same w ⟨b, 0, none⟩ Tryd.underlying57 hj
    go_enter Tryd.func37, Tryd.ntmps37
    go_wp2_with fail
    go_end0
    exact ⟨rfl, h, Wr.refl _ _⟩
set_option maxHeartbeats 2000000 in
set_option maxRecDepth 100000 in
theorem writeRune_any (b : Nat) (bs : List Value) (c : Int) (w : World) (h : Bu w b bs) (hc : -2147483648 ≤ c ∧ c ≤ 2147483647) (hlen : bs.length ≤ 1000000000) :
    Calls Tryd.prog 30 #[.pointer (some ⟨b, 0, none⟩), .int .i32 c] w fun e w' => e = .returned (.tuple #[.int .i64 ((enc1 c).length : Int), .nilIface]) ∧ Bu w' b (bs ++ (enc1 c).map (Value.int .u8)) ∧ Wr b w w' := by
  have cC := copyCheck_any b bs w h
  have hL : Lib.runeCells c = (enc1 c).map (Value.int .u8) := runeCells_enc1 c
  have hE := enc1_length c
  generalize enc1 c = ec at *
  go_enter Tryd.func30, Tryd.ntmps30
  go_wp2_with (go_at_call 37; (with_reducible refine cC.mono ?_))
  rintro e w1 ⟨rfl, h1, hw1⟩
  obtain ⟨hB, v, hbk, hown, hne⟩ := h1
  obtain ⟨ao, cap, rfl⟩ : ∃ ao cap, v = .slice ao bs.length cap := by
    rcases hown.2 with ⟨hv, h0⟩ | ⟨g, cap, cur, hv, _⟩
    · exact ⟨none, 0, by rw [hv, h0]⟩
    · exact ⟨_, _, hv⟩
  have c0 : w1.cell? ⟨b, 0, none⟩ = some (.pointer (some ⟨b, 0, none⟩)) := by rw [Lib.cell_of_heap hbk]; rfl
  have c1 : w1.cell? ⟨b, 1, none⟩ = some (.slice ao bs.length cap) := by rw [Lib.cell_of_heap hbk]; rfl
  have hlt : b < w1.heap.size := (Array.getElem?_eq_some_iff.1 hbk).1
  have cA := Tryd.utf8_AppendRune_plain b _ _ bs c hc.1 hc.2 w1 hown (by omega) (by omega)
  rw [hL, List.length_map] at cA
  clear hL
  go_wp2_with (go_at_call 38; (with_reducible refine cA.mono ?_))
  rintro e w2 ⟨v', rfl, hown', o, hgrow⟩
  have hb2 : w2.heap[b]? = some (.cells #[.pointer (some ⟨b, 0, none⟩), .slice ao bs.length cap] 59 (0, 0)) := by
    rw [hgrow.block b (by simp; omega) (fun e => hne e.symm), Lib.alloc_old w1 _ b hlt]; exact hbk
  have d0 : w2.cell? ⟨b, 0, none⟩ = some (.pointer (some ⟨b, 0, none⟩)) := by rw [Lib.cell_of_heap hb2]; rfl
  have d1 : w2.cell? ⟨b, 1, none⟩ = some (.slice ao bs.length cap) := by rw [Lib.cell_of_heap hb2]; rfl
  have f1 : w2.frozen? ⟨b, 1, none⟩ = false := Lib.frozen_of_heap hb2 1
  have hw2 := (hw1.alloc (by omega) o).grown (by simp; omega) (hown.alloc _) hgrow
  obtain ⟨g, cap', rfl⟩ : ∃ g cap', v' = .slice (some ⟨g, 0, none⟩) (bs.length + ec.length) cap' := by
    rcases hown'.2 with ⟨_, h0⟩ | ⟨g, cap', cur, hv, _⟩
    · omega
    · exact ⟨g, cap', hv⟩
  have hlt2 : b < w2.heap.size := (Array.getElem?_eq_some_iff.1 hb2).1
  go_wp2_with fail
  go_ret2
  exact ⟨by first | rfl | (congr 2; simp; omega) | simp, .inr (Lib.BuilderAt.put (T := 59) (e := 5) hB hb2 (bs' := bs ++ ec.map (Value.int .u8)) (by simpa using hown') (by decide)), hw2.set _ _⟩
theorem string_any (b : Nat) (xs : List Int) (w : World) (h : Bu w b (xs.map (Value.int .u8))) (hx : ∀ x ∈ xs, Byte x) (hb : b ≤ w.heap.size) :
    Calls Tryd.prog 31 #[.pointer (some ⟨b, 0, none⟩)] w fun e w' => e = .returned (.string (strOfNums xs)) ∧ Below b w w' := by
  unfold Bu at h
  rw [cells_bytes xs hx] at h
  exact Tryd.Builder_String_any b b _ w h hb

end Go.Proofs.YtnihneffgbhjjaaDoor
