/- modes: a builder of the call's own: what its writing methods do (the program's cut of copyCheck ends 'unsupported' where the address is another one). -/
import Derived.Test.YtcmflmmidipckaaDoorG
import Derived.Outline
import Derived.Lib.AppendStr
import Derived.Lib.Builder
set_option linter.unusedSimpArgs false
set_option linter.unusedVariables false
set_option linter.unnecessarySimpa false
namespace Go.Proofs.YtcmflmmidipckaaDoor
open Go.RowKit

/-- What a write into a builder in block b leaves as it was. -/
structure Wr (b : Nat) (w w' : World) : Prop where
  bel : Below b w w'
  oth : ∀ k cs t f, k ≠ b → w.heap[k]? = some (.cells cs t f) → t ≠ 5 → w'.heap[k]? = some (.cells cs t f)
theorem Wr.refl (b : Nat) (w : World) : Wr b w w := ⟨Below.refl _ _, fun _ _ _ _ _ h _ => h⟩
theorem Wr.trans {b : Nat} {w w1 w2 : World} (h : Wr b w w1) (k : Wr b w1 w2) : Wr b w w2 := ⟨h.bel.trans k.bel, fun i cs t f hi hx ht => k.oth i cs t f hi (h.oth i cs t f hi hx ht) ht⟩
theorem Wr.alloc {b : Nat} {w w1 : World} (h : Wr b w w1) (hb : b ≤ w1.heap.size) (o : Obj) : Wr b w (w1.alloc o) :=
  ⟨h.bel.alloc hb o, fun k cs t f hk hx ht => by have e := h.oth k cs t f hk hx ht; rw [heap_alloc_past w1 o k (Array.getElem?_eq_some_iff.1 e).1]; exact e⟩
theorem Wr.set {b : Nat} {w w1 : World} (h : Wr b w w1) (i : Nat) (v : Value) : Wr b w (w1.setCell ⟨b, i, none⟩ v) :=
  ⟨h.bel.setCell (show b ≤ (⟨b, i, none⟩ : Addr).block from Nat.le_refl _) _, fun k cs t f hk hx ht => by have e := h.oth k cs t f hk hx ht; rw [heap_set_past w1 b i k v hk]; exact e⟩
theorem Wr.grown {b : Nat} {w w1 w2 : World} {v : Value} {n : Nat} {xs : List Value} (h : Wr b w w1) (hb : b ≤ w1.heap.size) (ho : w1.ownsRow b 5 1 v n xs) (hg : w1.grownBy w2 v.ownBlock) : Wr b w w2 :=
  ⟨h.bel.grown hg hb (fun k hk => (ho.lt k hk).1), fun k cs t f hk hx ht => by
    have e := h.oth k cs t f hk hx ht
    rw [hg.block k (Array.getElem?_eq_some_iff.1 e).1 (fun e2 => ?_)]
    · exact e
    · rcases ho.2 with ⟨hv, _⟩ | ⟨g, cap, cur, hv, _, hgg, _⟩
      · rw [hv] at e2; cases e2
      · rw [hv] at e2
        have : k = g := by simpa [Value.ownBlock] using e2
        subst this
        rw [hgg] at e
        injection e with e
        injection e with _ e
        exact ht e.symm⟩
abbrev BuA (w : World) (b : Nat) (p : Value) (bs : List Value) : Prop := Lib.BuilderAt 65 5 b b p bs w
abbrev Bu (w : World) (b : Nat) (bs : List Value) : Prop := Lib.IsBuilder 65 5 b b bs w
theorem copyCheck_any (b : Nat) (bs : List Value) (w : World) (h : Bu w b bs) :
    Calls Tryd.prog 36 #[.pointer (some ⟨b, 0, none⟩)] w fun e w' => e = .returned (.tuple #[]) ∧ BuA w' b (.pointer (some ⟨b, 0, none⟩)) bs ∧ Wr b w w' := by
  rcases h with h | h
  · have c0 := h.cell0
    have hf := h.frozen0
    have hsh := h.shape
    obtain ⟨j, hj, hjs⟩ := Option.map_eq_some_iff.1 (show (Tryd.prog.info? 65).map (·.size) = some 2 by kernel_rfl)
    have k1 := Lib.run_to_unsafe w ⟨b, 0, none⟩ Tryd.underlying62 Tryd.underlying78 hj (by rw [hjs]; decide) hsh (Nat.zero_lt_succ 1)
    have k3 := Lib.run_from_unsafe w ⟨b, 0, none⟩ Tryd.underlying78 Tryd.underlying62 hj hsh (by kernel_rfl)
    go_enter Tryd.func36, Tryd.ntmps36
    go_wp2_with fail
    first
      | (rw [run_callFunc_extern Tryd.func39 (by kernel_rfl) (by kernel_rfl) (by kernel_rfl) (e := Extern.AbiNoEscape.same) (by kernel_rfl)]
         rw [Lib.run_noEscape]
         simp only [Result.andThen]
         rw [Oper.upon_value]
         go_wp2_with fail)
      | skip
    go_end0
    exact ⟨rfl, h.used _, (Wr.refl _ _).set _ _⟩
  · have c0 := h.cell0
    obtain ⟨j, hj, hjs⟩ := Option.map_eq_some_iff.1 (show (Tryd.prog.info? 65).map (·.size) = some 2 by kernel_rfl)
    have k1 := Lib.run_neq_ptr_same w ⟨b, 0, none⟩ Tryd.underlying62 hj
    go_enter Tryd.func36, Tryd.ntmps36
    go_wp2_with fail
    go_end0
    exact ⟨rfl, h, Wr.refl _ _⟩

end Go.Proofs.YtcmflmmidipckaaDoor
