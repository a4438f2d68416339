/- style: a builder of the call's own. Printed by mk_p.py. -/
import Derived.Test.YtdoeiaekimbecaaDoorJ
import Derived.Test.YtdoeiaekimbecaaDoorShelf
import Derived.Outline
import Derived.Lib.AppendStr
import Derived.Lib.Builder
set_option linter.unusedSimpArgs false
set_option linter.unusedVariables false
set_option linter.unnecessarySimpa false
namespace Go.Proofs.YtdoeiaekimbecaaDoor
open Go.RowKit

/-- What a write into a builder in block b leaves as it was. -/
structure Wr (b : Nat) (w w' : World) : Prop where
  bel : Below b w w'
  oth : ∀ k cs t f, k ≠ b → w.heap[k]? = some (.cells cs t f) → t ≠ 5 → w'.heap[k]? = some (.cells cs t f)
theorem Wr.refl (b : Nat) (w : World) : Wr b w w := ⟨Below.refl _ _, fun _ _ _ _ _ h _ => h⟩
theorem Wr.trans {b : Nat} {w w1 w2 : World} (h : Wr b w w1) (k : Wr b w1 w2) : Wr b w w2 := ⟨h.bel.trans k.bel, fun i cs t f hi hx ht => k.oth i cs t f hi (h.oth i cs t f hi hx ht) ht⟩
theorem Wr.alloc {b : Nat} {w w1 : World} (h : Wr b w w1) (hb : b ≤ w1.heap.size) (o : Obj) : Wr b w (w1.alloc o) :=
  ⟨h.bel.alloc hb o, fun k cs t f hk hx ht => by have e := h.oth k cs t f hk hx ht; rw [heap_alloc_past w1 o k (Array.getElem?_eq_some_iff.1 e).1]; exact e⟩
theorem Wr.set {b : Nat} {w w1 : World} (h : Wr b w w1) (i : Nat) (v : Value) : Wr b w (w1.setCell ⟨b, i, none⟩ v) :=
  ⟨h.bel.setCell (show b ≤ (⟨b, i, none⟩ : Addr).block from Nat.le_refl _) _, fun k cs t f hk hx ht => by have e := h.oth k cs t f hk hx ht; rw [heap_set_past w1 b i k v hk]; exact e⟩
theorem Wr.grown {b : Nat} {w w1 w2 : World} {v : Value} {n : Nat} {xs : List Value} (h : Wr b w w1) (hb : b ≤ w1.heap.size) (ho : w1.ownsRow b 5 1 v n xs) (hg : w1.grownBy w2 v.ownBlock) : Wr b w w2 :=
  ⟨h.bel.grown hg hb (fun k hk => (ho.lt k hk).1), fun k cs t f hk hx ht => by
    have e := h.oth k cs t f hk hx ht
    rw [hg.block k (Array.getElem?_eq_some_iff.1 e).1 (fun e2 => ?_)]
    · exact e
    · rcases ho.2 with ⟨hv, _⟩ | ⟨g, cap, cur, hv, _, hgg, _⟩
      · rw [hv] at e2; cases e2
      · rw [hv] at e2
        have : k = g := by simpa [Value.ownBlock] using e2
        subst this
        rw [hgg] at e
        injection e with e
        injection e with _ e
        exact ht e.symm⟩
abbrev BuA (w : World) (b : Nat) (p : Value) (bs : List Value) : Prop := Lib.BuilderAt 66 5 b b p bs w
abbrev Bu (w : World) (b : Nat) (bs : List Value) : Prop := Lib.IsBuilder 66 5 b b bs w
theorem copyCheck_any (b : Nat) (bs : List Value) (w : World) (h : Bu w b bs) :
    Calls Tryd.prog 45 #[.pointer (some ⟨b, 0, none⟩)] w fun e w' => e = .returned (.tuple #[]) ∧ BuA w' b (.pointer (some ⟨b, 0, none⟩)) bs ∧ Wr b w w' := by
  rcases h with h | h
  · have c0 := h.cell0
    have hf := h.frozen0
    have hsh := h.shape
    obtain ⟨j, hj, hjs⟩ := Option.map_eq_some_iff.1 (show (Tryd.prog.info? 66).map (·.size) = some 2 by kernel_rfl)
    have k1 := Lib.run_to_unsafe w ⟨b, 0, none⟩ Tryd.underlying63 Tryd.underlying78 hj (by rw [hjs]; decide) hsh (Nat.zero_lt_succ 1)
    have k3 := Lib.run_from_unsafe w ⟨b, 0, none⟩ Tryd.underlying78 Tryd.underlying63 hj hsh (by kernel_rfl)
    go_enter Tryd.func45, Tryd.ntmps45
    go_wp2_with fail
    first
      | (rw [run_callFunc_extern Tryd.func49 (by kernel_rfl) (by kernel_rfl) (by kernel_rfl) (e := Extern.AbiNoEscape.same) (by kernel_rfl)]
         rw [Lib.run_noEscape]
         simp only [Result.andThen]
         rw [Oper.upon_value]
         go_wp2_with fail)
      | skip
    go_end0
    exact ⟨rfl, h.used _, (Wr.refl _ _).set _ _⟩
  · have c0 := h.cell0
    obtain ⟨j, hj, hjs⟩ := Option.map_eq_some_iff.1 (show (Tryd.prog.info? 66).map (·.size) = some 2 by kernel_rfl)
    have k1 := Lib.run_neq_ptr_same w ⟨b, 0, none⟩ Tryd.underlying63 hj
    go_enter Tryd.func45, Tryd.ntmps45
    go_wp2_with fail
    go_end0
    exact ⟨rfl, h, Wr.refl _ _⟩


theorem el8 : (Tryd.prog.info? 5).map (fun i => (i.zero, i.size, i.bytes)) = some (some (.int .u8 0), 1, 1) := by kernel_rfl
set_option maxHeartbeats 2000000 in
set_option maxRecDepth 100000 in
theorem writeString_any (b : Nat) (bs : List Value) (s : ByteArray) (w : World) (h : Bu w b bs) (hlen : bs.length + s.size ≤ 1000000) :
    Calls Tryd.prog 38 #[.pointer (some ⟨b, 0, none⟩), .string s] w fun e w' => e = .returned (.tuple #[.int .i64 s.size, .nilIface]) ∧ Bu w' b (bs ++ Lib.strCells s) ∧ Wr b w w' := by
  obtain ⟨i0, hi, hz0, hz1, hz2⟩ := info_parts el8
  have cC := copyCheck_any b bs w h
  go_enter Tryd.func38, Tryd.ntmps38
  go_wp2_with (go_at_call 45; (with_reducible refine cC.mono ?_))
  rintro e w1 ⟨rfl, h1, hw1⟩
  obtain ⟨hB, v, hbk, hown, hne⟩ := h1
  have c0 : w1.cell? ⟨b, 0, none⟩ = some (.pointer (some ⟨b, 0, none⟩)) := by rw [Lib.cell_of_heap hbk]; rfl
  have c1 : w1.cell? ⟨b, 1, none⟩ = some v := by rw [Lib.cell_of_heap hbk]; rfl
  have hlt : b < w1.heap.size := (Array.getElem?_eq_some_iff.1 hbk).1
  go_wp2_with (at_builtin; refine Lib.wpList_append_own_string _ rfl _ _ 64 9 rfl b 5 i0 Tryd.underlying64 Tryd.underlying9 hi hz0 hz1 hz2 _ _ _ rfl hown s rfl ?c3 ?c4 ?c5 ?_)
  case c3 => unfold maxLen; omega
  case c4 => omega
  case c5 => omega
  intro v' w2 hown' hgrow _
  have hb2 : w2.heap[b]? = some (.cells #[.pointer (some ⟨b, 0, none⟩), v] 66 (0, 0)) := by
    rw [hgrow.block b hlt (fun e => hne e.symm)]; exact hbk
  have d0 : w2.cell? ⟨b, 0, none⟩ = some (.pointer (some ⟨b, 0, none⟩)) := by rw [Lib.cell_of_heap hb2]; rfl
  have d1 : w2.cell? ⟨b, 1, none⟩ = some v := by rw [Lib.cell_of_heap hb2]; rfl
  have f1 : w2.frozen? ⟨b, 1, none⟩ = false := Lib.frozen_of_heap hb2 1
  have hw2 := hw1.grown (by omega) hown hgrow
  obtain ⟨ao, n', cap, rfl⟩ : ∃ ao n' cap, v' = .slice ao n' cap := by
    rcases hown'.2 with ⟨hv, _⟩ | ⟨g, cap, cur, hv, _⟩
    · exact ⟨_, _, _, hv⟩
    · exact ⟨_, _, _, hv⟩
  go_wp2_with fail
  go_ret2
  exact ⟨rfl, .inr (Lib.BuilderAt.put (T := 66) (e := 5) hB hb2 (bs' := bs ++ Lib.strCells s) (by simpa [Lib.strCells_length] using hown') (by decide)), hw2.set _ _⟩
theorem string_any (b : Nat) (l : List UInt8) (w : World) (h : Bu w b (Lib.byteCells l)) (hb : b ≤ w.heap.size) :
    Calls Tryd.prog 39 #[.pointer (some ⟨b, 0, none⟩)] w fun e w' => e = .returned (.string ⟨l.toArray⟩) ∧ Below b w w' := Tryd.Builder_String_any b b l w h hb


end Go.Proofs.YtdoeiaekimbecaaDoor
