/- Slices that are read, slices of the call's own, append, strings and bytes; where memory lies: shared by all walks of the seat. -/
import Derived.Test.YtpkkfcfkhiaggaaBase
import Derived.Laws.AppendOwnNone
import Derived.Laws.BytesArg
import Derived.Lib.ConvBytes
import Derived.Lib.Hide
set_option linter.unusedSimpArgs false
set_option linter.unusedVariables false
set_option linter.unnecessarySimpa false
namespace Go.Proofs.Ytpkkfcfkhiaggaa
open Go.RowKit

/-- A byte. -/
def Byte (c : Int) : Prop := 0 ≤ c ∧ c < 256
/-- A slice value reads as a list of ints of one kind, wherever its cells lie. -/
def Rd (w : World) (k : IntKind) (v : Value) (xs : List Int) : Prop :=
  ∃ p cap, v = .slice p xs.length cap ∧ xs.length ≤ cap ∧ cap ≤ maxLen ∧
    ((p = none ∧ cap = 0) ∨ ∃ b off, p = some ⟨b, off, none⟩ ∧ b < w.heap.size ∧ ∀ i x, xs[i]? = some x → w.cell? ⟨b, off + i, none⟩ = some (.int k x))
theorem Rd.below {w w' : World} {k : IntKind} {v : Value} {xs : List Int} (h : Rd w k v xs) (hb : Below w.heap.size w w') : Rd w' k v xs := by
  obtain ⟨p, cap, rfl, h1, h2, h3⟩ := h
  refine ⟨p, cap, rfl, h1, h2, h3.imp id fun ⟨b, off, hp, hlt, hc⟩ => ⟨b, off, hp, Nat.lt_of_lt_of_le hlt hb.size, fun i x hx => ?_⟩⟩
  rw [hb.cell (p := ⟨b, off + i, none⟩) hlt]
  exact hc i x hx
/-- What a loop's round needs: the element at hand. -/
theorem Rd.at {w : World} {k : IntKind} {p : Option Addr} {cap : Nat} {xs : List Int} (h : (p = none ∧ cap = 0) ∨ ∃ b off, p = some ⟨b, off, none⟩ ∧ b < w.heap.size ∧ ∀ i x, xs[i]? = some x → w.cell? ⟨b, off + i, none⟩ = some (.int k x))
    (hc : xs.length ≤ cap) {i : Nat} (hi : i < xs.length) : ∃ b off, p = some ⟨b, off, none⟩ ∧ b < w.heap.size ∧ w.cell? ⟨b, off + i, none⟩ = some (.int k xs[i]) := by
  rcases h with ⟨_, h⟩ | ⟨b, off, hp, hlt, hcell⟩
  · omega
  · exact ⟨b, off, hp, hlt, hcell i _ (List.getElem?_eq_getElem hi)⟩
/-- A slice value owns a list of ints of one kind: nil, or a row in a block from B on that nobody else holds. -/
def Own (w : World) (B : Nat) (E : TypeId) (k : IntKind) (v : Value) (xs : List Int) : Prop := w.ownsRow B E 1 v xs.length (xs.map (.int k))
theorem Own.nil (w : World) (B : Nat) (E : TypeId) (k : IntKind) : Own w B E k (.slice none 0 0) [] := World.ownsRow_nil w B E 1
theorem Own.kept {w w' : World} {B : Nat} {E : TypeId} {k : IntKind} {v : Value} {xs : List Int} (h : Own w B E k v xs) (hb : Below w.heap.size w w') : Own w' B E k v xs :=
  World.ownsRow.kept (row := none) h ⟨hb.os, hb.tape, hb.output, hb.size, fun i hi _ => hb.block i hi⟩ (by cases v.ownBlock <;> simp)
theorem Own.weaken {w : World} {B B' : Nat} {E : TypeId} {k : IntKind} {v : Value} {xs : List Int} (h : Own w B E k v xs) (hB : B' ≤ B) : Own w B' E k v xs := by
  refine ⟨h.1, ?_⟩
  rcases h.2 with h2 | ⟨g, cap, cur, hv, hg, r⟩
  · exact .inl h2
  · exact .inr ⟨g, cap, cur, hv, Nat.le_trans hB hg, r⟩
theorem Own.rd {w : World} {B : Nat} {E : TypeId} {k : IntKind} {v : Value} {xs : List Int} (h : Own w B E k v xs) : Rd w k v xs := by
  rcases h.2 with ⟨rfl, h0⟩ | ⟨g, cap, cur, rfl, hb, hg, hnc, hcm, hcs, ht⟩
  · exact ⟨none, 0, by rw [h0], by omega, by simp [maxLen], .inl ⟨rfl, rfl⟩⟩
  · refine ⟨_, cap, rfl, hnc, hcm, .inr ⟨g, 0, rfl, (Array.getElem?_eq_some_iff.1 hg).1, fun i x hx => ?_⟩⟩
    rw [cell_of_row w g (0 + i) cur E (0, 0) hg]
    have h1 : (xs.map (Value.int k))[i]? = some (.int k x) := by simp [hx]
    rw [← ht, List.getElem?_take] at h1
    split at h1
    · simpa using h1
    · cases h1
/-- A literal's slice. -/
theorem Rd.new (w : World) (E : TypeId) (k : IntKind) (ys : List Int) (n c : Nat) (hn : n = w.heap.size) (hc : c = ys.length) (hm : c ≤ maxLen) : Rd (w.alloc (.cells (ys.map (Value.int k)).toArray E)) k (.slice (some ⟨n, 0, none⟩) c c) ys := by
  subst hc
  refine ⟨_, _, rfl, Nat.le_refl _, hm, .inr ⟨n, 0, rfl, by simp [hn], fun i x hx => ?_⟩⟩
  rw [cell_of_row (w.alloc _) n (0 + i) _ E (0, 0) (heap_alloc_at w _ n hn)]
  simp [hx]
theorem Rd.lit1 (w : World) (E : TypeId) (k : IntKind) (a : Int) (n : Nat) (hn : n = w.heap.size) : Rd (w.alloc (.cells #[.int k a] E)) k (.slice (some ⟨n, 0, none⟩) 1 1) [a] := Rd.new w E k [a] n 1 hn rfl (by simp [maxLen])
theorem Rd.lit2 (w : World) (E : TypeId) (k : IntKind) (a b : Int) (n : Nat) (hn : n = w.heap.size) : Rd (w.alloc (.cells #[.int k a, .int k b] E)) k (.slice (some ⟨n, 0, none⟩) 2 2) [a, b] := Rd.new w E k [a, b] n 2 hn rfl (by simp [maxLen])
theorem Rd.lit3 (w : World) (E : TypeId) (k : IntKind) (a b c : Int) (n : Nat) (hn : n = w.heap.size) : Rd (w.alloc (.cells #[.int k a, .int k b, .int k c] E)) k (.slice (some ⟨n, 0, none⟩) 3 3) [a, b, c] := Rd.new w E k [a, b, c] n 3 hn rfl (by simp [maxLen])
theorem Rd.lit4 (w : World) (E : TypeId) (k : IntKind) (a b c d : Int) (n : Nat) (hn : n = w.heap.size) : Rd (w.alloc (.cells #[.int k a, .int k b, .int k c, .int k d] E)) k (.slice (some ⟨n, 0, none⟩) 4 4) [a, b, c, d] := Rd.new w E k [a, b, c, d] n 4 hn rfl (by simp [maxLen])
theorem grown_below {w w' : World} {row : Option Nat} {B : Nat} (h : w.grownBy w' row) (hr : ∀ k, row = some k → B ≤ k) (hB : B ≤ w.heap.size) : Below B w w' :=
  ⟨h.os, h.tape, h.output, h.size, fun i hi => h.block i (by omega) (fun e => by have := hr i e.symm; omega)⟩
/-- append of a slice that is owned and a slice that is read. -/
theorem wpList_app {P : Program} {ops : Array Oper} {rest : List Oper} {o : Oper} {a : Act} {w : World} {Q : Exit → Act → World → Prop} (hgd : o.guard = none) (s x : Operand) (t E : TypeId) (k : IntKind) (bytes : Nat)
    (ho : o.op = .call { callee := .builtin .append, args := #[s, x], argTypes := #[t, t] }) (ht : P.underlying t = some (.slice E)) (hi : (P.info? E).map (fun i => (i.zero, i.size, i.bytes)) = some (some (.int k 0), 1, bytes))
    (B : Nat) (v y : Value) (xs ys : List Int) (hown : Own w B E k v xs) (hrd : Rd w k y ys) (hs : a.eval s = v) (hx : a.eval x = y) (h63 : xs.length + ys.length ≤ maxLen) (hbytes : (xs.length + ys.length) * bytes ≤ 140737488355328) (hbase : B ≤ w.heap.size)
    (h : ∀ v' w', Own w' B E k v' (xs ++ ys) → Below B w w' → w.grownBy w' v.ownBlock → wpList P ops Q rest (a.put o.dst v') w') : wpList P ops Q (o :: rest) a w := by
  obtain ⟨i0, hi, hz0, hz1, hz2⟩ := info_parts hi
  obtain ⟨p, cap, rfl, l1, m1, c1⟩ := hrd
  rcases c1 with ⟨rfl, rfl⟩ | ⟨b, off, rfl, hlt, hcell⟩
  · have hys : ys = [] := List.eq_nil_of_length_eq_zero (by omega)
    subst hys
    refine wpList_append_own_none hgd s x t ho B E i0 1 ht hi v xs.length (xs.map (.int k)) hs hown hx (h v w (by simpa using hown) (Below.refl _ _) ⟨rfl, rfl, rfl, Nat.le_refl _, fun _ _ _ => rfl⟩)
  · refine wpList_append_own w hgd s x t ho B E i0 (.int k 0) 1 bytes ht hi hz0 hz1 hz2 rfl (by decide) v xs.length (xs.map (.int k)) hs hown ⟨b, off, none⟩ ys.length cap (ys.map (.int k)) hx (by simp) (fun j u hu => ?_) (fun u hu => ?_) h63 hbytes hbase (fun v' w' h1 h2 _ => h v' w' ?_ (grown_below h2 (fun k hk => (World.ownsRow.lt hown k hk).1) hbase) h2)
    · simp only [List.getElem?_map, Option.map_eq_some_iff] at hu
      obtain ⟨z, hz, rfl⟩ := hu
      rw [Addr.add_lit]; exact hcell j z hz
    · simp only [List.mem_map] at hu
      obtain ⟨z, _, rfl⟩ := hu
      rfl
    · unfold Own; rw [List.length_append, List.map_append]; exact h1
/-- Where append's result lies: where the slice lay, or in a new block. -/
theorem run_append_where {P : Program} (w : World) (base : Nat) (t ty e : TypeId) (i : TypeInfo) (z : Value) (size bytes : Nat) (ht : P.underlying t = some (.slice e)) (hi : P.info? e = some i) (hz : i.zero = some z)
    (hsize : i.size = size) (hby : i.bytes = bytes) (hzs : z.cells.size = size) (hsz : 0 < size)
    (v : Value) (n : Nat) (xs : List Value) (hown : w.ownsRow base e size v n xs)
    (a : Addr) (m c : Nat) (news : List Value) (hl : news.length = m * size) (hnews : ∀ j u, news[j]? = some u → w.cell? (a.add j) = some u) (h1 : ∀ u ∈ news, u.oneCell' = true)
    (h63 : n + m ≤ maxLen) (hbytes : (n + m) * bytes ≤ 140737488355328) (hbase : base ≤ w.heap.size) :
    ∃ v' w', (Builtin.append_ #[t, t] ty #[v, .slice (some a) m c]).run P w = .ok v' w' ∧ w'.ownsRow base e size v' (n + m) (xs ++ news) ∧ w.grownBy w' v.ownBlock ∧
      (v'.ownBlock = v.ownBlock ∨ v'.ownBlock = some w.heap.size) := by
  obtain ⟨v', w', hr, h2, h3, h4⟩ := run_append_own (P := P) w base t ty e i z size bytes ht hi hz hsize hby hzs hsz v n xs hown a m c news hl hnews h1 h63 hbytes hbase
  refine ⟨v', w', hr, h2, h3, ?_⟩
  have hmax : n + m ≤ 9223372036854775807 := by simp only [maxLen] at h63; omega
  subst hsize hby
  rcases hown.2 with ⟨rfl, rfl⟩ | ⟨g, cap, cur, rfl, hbg, hg, hnc, hcm, hcs, htake⟩
  · by_cases hm : m = 0
    · rw [h4.2 ⟨rfl, hm⟩]; exact .inl rfl
    · have hr2 := run_append_nil (P := P) w t ty e i z ht hi hz a m c news hl hnews (by omega) (by omega) (by have hb := hbytes; simp only [Nat.zero_add] at hb; omega)
      rw [hr] at hr2
      injection hr2 with e1 e2
      subst e1
      exact .inr rfl
  · by_cases hroom : n + m ≤ cap
    · have hfit : n * i.size + news.length ≤ cur.size := by rw [hl, hcs, ← Nat.add_mul]; exact Nat.mul_le_mul_right _ hroom
      have hr2 := run_append_room (P := P) w t ty e i ht hi g n cap cur hg a m c news hl hnews h1 hroom hfit
      rw [hr] at hr2
      injection hr2 with e1 e2
      subst e1
      exact .inl rfl
    · have holds : ∀ j u, xs[j]? = some u → w.cell? ((⟨g, 0, none⟩ : Addr).add j) = some u := hown.cells (g := g) rfl
      have hr2 := run_append_grow (P := P) w t ty e i z ht hi hz ⟨g, 0, none⟩ n cap xs hown.1 holds a m c news hl hnews (by omega) (by omega) (growslice_fits (by omega) hbytes)
      rw [hr] at hr2
      injection hr2 with e1 e2
      subst e1
      exact .inr rfl
/-- append of a slice that is owned and a slice that is read; and where the result lies. -/
theorem wpList_appw {P : Program} {ops : Array Oper} {rest : List Oper} {o : Oper} {a : Act} {w : World} {Q : Exit → Act → World → Prop} (hgd : o.guard = none) (s x : Operand) (t E : TypeId) (k : IntKind) (bytes : Nat)
    (ho : o.op = .call { callee := .builtin .append, args := #[s, x], argTypes := #[t, t] }) (ht : P.underlying t = some (.slice E)) (hi : (P.info? E).map (fun i => (i.zero, i.size, i.bytes)) = some (some (.int k 0), 1, bytes))
    (B : Nat) (v y : Value) (xs ys : List Int) (hown : Own w B E k v xs) (hrd : Rd w k y ys) (hs : a.eval s = v) (hx : a.eval x = y) (h63 : xs.length + ys.length ≤ maxLen) (hbytes : (xs.length + ys.length) * bytes ≤ 140737488355328) (hbase : B ≤ w.heap.size)
    (h : ∀ v' w', Own w' B E k v' (xs ++ ys) → w.grownBy w' v.ownBlock → (v'.ownBlock = v.ownBlock ∨ v'.ownBlock = some w.heap.size) → wpList P ops Q rest (a.put o.dst v') w') : wpList P ops Q (o :: rest) a w := by
  obtain ⟨i0, hi, hz0, hz1, hz2⟩ := info_parts hi
  obtain ⟨p, cap, rfl, l1, m1, c1⟩ := hrd
  rcases c1 with ⟨rfl, rfl⟩ | ⟨b, off, rfl, hlt, hcell⟩
  · have hys : ys = [] := List.eq_nil_of_length_eq_zero (by omega)
    subst hys
    refine wpList_append_own_none hgd s x t ho B E i0 1 ht hi v xs.length (xs.map (.int k)) hs hown hx (h v w (by simpa using hown) ⟨rfl, rfl, rfl, Nat.le_refl _, fun _ _ _ => rfl⟩ (.inl rfl))
  · obtain ⟨v', w', hr, h2, h3, h4⟩ := run_append_where (P := P) w B t o.type E i0 (.int k 0) 1 bytes ht hi hz0 hz1 hz2 rfl (by decide) v xs.length (xs.map (.int k)) hown ⟨b, off, none⟩ ys.length cap (ys.map (.int k)) (by simp) (fun j u hu => by
      simp only [List.getElem?_map, Option.map_eq_some_iff] at hu
      obtain ⟨z, hz, rfl⟩ := hu
      rw [Addr.add_lit]; exact hcell j z hz) (fun u hu => by
      simp only [List.mem_map] at hu
      obtain ⟨z, _, rfl⟩ := hu
      rfl) h63 hbytes hbase
    refine wpList_plain hgd fun _ hK => ?_
    unfold Oper.wp execOp
    simp only [ho, resolve, invoke, builtin, Sem.run_bind, Sem.run_pure, Result.andThen_ok, List.map_toArray, List.map_cons, List.map_nil, hs, hx, hr]
    exact hK _ _ (h v' w' (by unfold Own; rw [List.length_append, List.map_append]; exact h2) h3 h4)
/-- append, as one step of a region whose order is drawn. -/
theorem step_appw {P : Program} {ops : Array Oper} {o : Oper} {a : Act} {w : World} {K : Act → World → Prop} {Q : Exit → Act → World → Prop} {E' : Prop} (hg : o.guard = none) (s x : Operand) (t E : TypeId) (k : IntKind) (bytes : Nat)
    (ho : o.op = .call { callee := .builtin .append, args := #[s, x], argTypes := #[t, t] }) (ht : P.underlying t = some (.slice E)) (hi : (P.info? E).map (fun i => (i.zero, i.size, i.bytes)) = some (some (.int k 0), 1, bytes))
    (B : Nat) (v y : Value) (xs ys : List Int) (hown : Own w B E k v xs) (hrd : Rd w k y ys) (hs : a.eval s = v) (hx : a.eval x = y) (h63 : xs.length + ys.length ≤ maxLen) (hbytes : (xs.length + ys.length) * bytes ≤ 140737488355328) (hbase : B ≤ w.heap.size)
    (hK : ∀ v' w', Own w' B E k v' (xs ++ ys) → w.grownBy w' v.ownBlock → (v'.ownBlock = v.ownBlock ∨ v'.ownBlock = some w.heap.size) → K (a.put o.dst v') w') :
    if Region.wanted o (yielded ops a.tmps) = true then Oper.wp P o a w K Q else E' := by
  have hw : Region.wanted o (yielded ops a.tmps) = true := by simp [Region.wanted, hg]
  rw [if_pos hw]
  obtain ⟨i0, hi, hz0, hz1, hz2⟩ := info_parts hi
  obtain ⟨p, cap, rfl, l1, m1, c1⟩ := hrd
  rcases c1 with ⟨rfl, rfl⟩ | ⟨b, off, rfl, hlt, hcell⟩
  · have hys : ys = [] := List.eq_nil_of_length_eq_zero (by omega)
    subst hys
    have hrun := run_append_owned_none (P := P) (w := w) B t o.type E i0 1 ht hi v xs.length (xs.map (.int k)) hown
    unfold Oper.wp
    simp only [List.length_nil] at hx
    simp [execOp, ho, resolve, invoke, builtin, hs, hx, hrun, Result.andThen]
    exact hK v w (by simpa using hown) ⟨rfl, rfl, rfl, Nat.le_refl _, fun _ _ _ => rfl⟩ (.inl rfl)
  · obtain ⟨v', w', hr, h2, h3, h4⟩ := run_append_where (P := P) w B t o.type E i0 (.int k 0) 1 bytes ht hi hz0 hz1 hz2 rfl (by decide) v xs.length (xs.map (.int k)) hown ⟨b, off, none⟩ ys.length cap (ys.map (.int k)) (by simp) (fun j u hu => by
      simp only [List.getElem?_map, Option.map_eq_some_iff] at hu
      obtain ⟨z, hz, rfl⟩ := hu
      rw [Addr.add_lit]; exact hcell j z hz) (fun u hu => by
      simp only [List.mem_map] at hu
      obtain ⟨z, _, rfl⟩ := hu
      rfl) h63 hbytes hbase
    unfold Oper.wp execOp
    simp only [ho, resolve, invoke, builtin, Sem.run_bind, Sem.run_pure, Result.andThen_ok, List.map_toArray, List.map_cons, List.map_nil, hs, hx, hr]
    exact hK v' w' (by unfold Own; rw [List.length_append, List.map_append]; exact h2) h3 h4
theorem Own.new (w : World) (E : TypeId) (k : IntKind) (ys : List Int) (B n : Nat) (hn : n = w.heap.size) (hB : B ≤ w.heap.size) (hm : ys.length ≤ maxLen) : Own (w.alloc (.cells (ys.map (Value.int k)).toArray E)) B E k (.slice (some ⟨n, 0, none⟩) ys.length ys.length) ys := by
  subst hn
  exact ⟨by simp, .inr ⟨w.heap.size, ys.length, _, rfl, hB, heap_alloc_new w _, Nat.le_refl _, hm, by simp, by simpa using List.take_of_length_le (by simp)⟩⟩
theorem Own.lit1 (w : World) (E : TypeId) (k : IntKind) (a : Int) (B n : Nat) (hn : n = w.heap.size) (hB : B ≤ w.heap.size) : Own (w.alloc (.cells #[.int k a] E)) B E k (.slice (some ⟨n, 0, none⟩) 1 1) [a] := by
  subst hn
  exact ⟨rfl, .inr ⟨w.heap.size, 1, #[.int k a], rfl, hB, heap_alloc_new w _, by simp, by simp [maxLen], by simp, by simp⟩⟩
/-- A call that hands back a slice in memory of its own, which reads as xs. -/
def RetOwn (w : World) (E : TypeId) (k : IntKind) (xs : List Int) (e : Ending) (w' : World) : Prop := ∃ v, e = .returned v ∧ Own w' w.heap.size E k v xs ∧ Below w.heap.size w w'
/-- All but block D is as it was. -/
structure Bar (D : Nat) (w w' : World) : Prop where
  os : w'.os = w.os
  tape : w'.tape = w.tape
  output : w'.output = w.output
  size : w.heap.size ≤ w'.heap.size
  block : ∀ k, k ≠ D → k < w.heap.size → w'.heap[k]? = w.heap[k]?
theorem Bar.refl (D : Nat) (w : World) : Bar D w w := ⟨rfl, rfl, rfl, Nat.le_refl _, fun _ _ _ => rfl⟩
theorem Bar.below {D : Nat} {w w1 w2 : World} (h : Bar D w w1) (hb : Below w1.heap.size w1 w2) : Bar D w w2 :=
  ⟨hb.os.trans h.os, hb.tape.trans h.tape, hb.output.trans h.output, Nat.le_trans h.size hb.size, fun k hk hl => (hb.block k (Nat.lt_of_lt_of_le hl h.size)).trans (h.block k hk hl)⟩
theorem Bar.trans {D : Nat} {w w1 w2 : World} (h : Bar D w w1) (hb : Bar D w1 w2) : Bar D w w2 :=
  ⟨hb.os.trans h.os, hb.tape.trans h.tape, hb.output.trans h.output, Nat.le_trans h.size hb.size, fun k hk hl => (hb.block k hk (Nat.lt_of_lt_of_le hl h.size)).trans (h.block k hk hl)⟩
theorem Bar.alloc {D : Nat} {w w1 : World} (h : Bar D w w1) (o : Obj) : Bar D w (w1.alloc o) := h.below ((Below.refl _ _).alloc (Nat.le_refl _) o)
theorem Bar.drew {D : Nat} {w w1 : World} (h : Bar D w w1) : Bar D w w1.drew := ⟨h.os, h.tape, h.output, h.size, h.block⟩
theorem Bar.gw {D : Nat} {w W : World} {X : GW W} (h : Bar D w W) : Bar D w X.world := h.below X.grow
theorem Bar.set {D : Nat} {w w1 : World} (h : Bar D w w1) (i : Nat) (v : Value) : Bar D w (w1.setCell ⟨D, i, none⟩ v) :=
  ⟨h.os, h.tape, h.output, by simpa using h.size, fun k hk hl => (heap_set_past w1 D i k v hk).trans (h.block k hk hl)⟩
def putB (w : World) (D : Nat) (cs : Array Value) (t : TypeId) : World := { w with heap := w.heap.setIfInBounds D (.cells cs t) }
@[go_sem] theorem putB_size (w : World) (D : Nat) (cs : Array Value) (t : TypeId) : (putB w D cs t).heap.size = w.heap.size := by simp [putB]
theorem putB_box (w : World) (D : Nat) (cs : Array Value) (t : TypeId) (h : D < w.heap.size) : Box (putB w D cs t) D cs t := by simp [putB, Box, h]
theorem putB_other (w : World) (D : Nat) (cs : Array Value) (t : TypeId) (b : Nat) (h : b ≠ D) : (putB w D cs t).heap[b]? = w.heap[b]? := by
  simp [putB, Array.getElem?_setIfInBounds, Ne.symm h]
@[go_sem] theorem putB_cell (w : World) (D : Nat) (cs : Array Value) (t : TypeId) (o : Nat) (h : D < w.heap.size) : (putB w D cs t).cell? ⟨D, o, none⟩ = cs[o]? := (putB_box w D cs t h).cell o
@[go_sem] theorem putB_free (w : World) (D : Nat) (cs : Array Value) (t : TypeId) (o : Nat) (h : D < w.heap.size) : (putB w D cs t).frozen? ⟨D, o, none⟩ = false := (putB_box w D cs t h).free o
@[go_sem] theorem putB_cell_other (w : World) (D : Nat) (cs : Array Value) (t : TypeId) (b o : Nat) (h : b ≠ D) : (putB w D cs t).cell? ⟨b, o, none⟩ = w.cell? ⟨b, o, none⟩ := by
  unfold World.cell?; rw [putB_other w D cs t b h]
@[go_sem] theorem putB_free_other (w : World) (D : Nat) (cs : Array Value) (t : TypeId) (b o : Nat) (h : b ≠ D) : (putB w D cs t).frozen? ⟨b, o, none⟩ = w.frozen? ⟨b, o, none⟩ := by
  unfold World.frozen?; rw [putB_other w D cs t b h]
theorem Bar.put {D : Nat} {w w' : World} {cs : Array Value} {t : TypeId} (h : Bar D w w') (hx : Box w' D cs t) (hD : D < w.heap.size) : Below w.heap.size (putB w D cs t) w' :=
  ⟨h.os, h.tape, h.output, by rw [putB_size]; exact h.size, fun k hk => by
    by_cases hkd : k = D
    · subst hkd; rw [hx, putB_box w k cs t hD]
    · rw [putB_other w D cs t k hkd]; exact h.block k hkd hk⟩
/-- A slice that does not lie in block D. -/
def Apart (v : Value) (D : Nat) : Prop := ∀ b off n c, v = .slice (some ⟨b, off, none⟩) n c → b ≠ D
theorem Apart.nil (n c D : Nat) : Apart (.slice none n c) D := fun _ _ _ _ h => by cases h
theorem Apart.at {b off n c D : Nat} (h : b ≠ D) : Apart (.slice (some ⟨b, off, none⟩) n c) D := fun _ _ _ _ e => by cases e; exact h
theorem Rd.bar {w w' : World} {D : Nat} {k : IntKind} {v : Value} {xs : List Int} (h : Rd w k v xs) (ha : Apart v D) (hb : Bar D w w') : Rd w' k v xs := by
  obtain ⟨p, cap, rfl, h1, h2, h3⟩ := h
  refine ⟨p, cap, rfl, h1, h2, h3.imp id fun ⟨b, off, hp, hlt, hc⟩ => ⟨b, off, hp, Nat.lt_of_lt_of_le hlt hb.size, fun i x hx => ?_⟩⟩
  subst hp
  have hne := ha b off _ _ rfl
  have h4 := hb.block b hne hlt
  have h5 := hc i x hx
  unfold World.cell? at h5 ⊢
  rw [h4]; exact h5
theorem Rd.nil (w : World) (k : IntKind) : Rd w k (.slice none 0 0) [] := ⟨none, 0, rfl, Nat.le_refl _, by simp [maxLen], .inl ⟨rfl, rfl⟩⟩
/-- A slice whose cells lie in memory that is new since w. -/
def Fresh (w : World) (v : Value) : Prop := ∀ b off n c, v = .slice (some ⟨b, off, none⟩) n c → w.heap.size ≤ b
theorem Fresh.nil (w : World) (n c : Nat) : Fresh w (.slice none n c) := fun _ _ _ _ h => by cases h
theorem Fresh.at {w : World} {b off n c : Nat} (h : w.heap.size ≤ b) : Fresh w (.slice (some ⟨b, off, none⟩) n c) := fun _ _ _ _ e => by cases e; exact h
theorem Fresh.apart {w : World} {v : Value} {D : Nat} (h : Fresh w v) (hD : D < w.heap.size) : Apart v D := fun b off n c e => by have := h b off n c e; omega
theorem Fresh.older {w w1 : World} {v : Value} (h : Fresh w1 v) (hs : w.heap.size ≤ w1.heap.size) : Fresh w v := fun b off n c e => Nat.le_trans hs (h b off n c e)
theorem Rd.cells {w : World} {k : IntKind} {b off n cap : Nat} {xs : List Int} (h : Rd w k (.slice (some ⟨b, off, none⟩) n cap) xs) : n = xs.length ∧ xs.length ≤ cap ∧ cap ≤ maxLen ∧ b < w.heap.size ∧ ∀ i x, xs[i]? = some x → w.cell? ⟨b, off + i, none⟩ = some (.int k x) := by
  obtain ⟨p, c, hp, h1, h2, h3⟩ := h
  injection hp with e1 e2 e3
  subst e1 e3
  rcases h3 with ⟨h, _⟩ | ⟨b', o', h, h4, h5⟩
  · cases h
  · injection h with h
    injection h with ha hb
    subst ha hb
    exact ⟨e2, h1, h2, h4, h5⟩
theorem Bar.grown {D : Nat} {w w' : World} (h : Bar D w w') : w.grownBy w' (some D) := ⟨h.os, h.tape, h.output, h.size, fun k hk hne => h.block k (fun e => hne (by rw [e])) hk⟩
theorem Own.block {w : World} {B : Nat} {E : TypeId} {k : IntKind} {v : Value} {xs : List Int} (h : Own w B E k v xs) : ∀ g, v.ownBlock = some g → B ≤ g ∧ g < w.heap.size := World.ownsRow.lt h
theorem Own.bar {w w' : World} {B D : Nat} {E : TypeId} {k : IntKind} {v : Value} {xs : List Int} (h : Own w B E k v xs) (hb : Bar D w w') (hD : v.ownBlock ≠ some D) : Own w' B E k v xs :=
  World.ownsRow.kept h hb.grown (.inr hD)
theorem Own.off {w : World} {B D : Nat} {E : TypeId} {k : IntKind} {v : Value} {xs : List Int} (h : Own w B E k v xs) (hD : D < B) : v.ownBlock ≠ some D := fun e => by have := (h.block D e).1; omega
theorem Bar.app {D : Nat} {w w1 w2 : World} {row : Option Nat} (h : Bar D w w1) (hg : w1.grownBy w2 row) (hr : ∀ g, row = some g → w.heap.size ≤ g) : Bar D w w2 :=
  ⟨hg.os.trans h.os, hg.tape.trans h.tape, hg.output.trans h.output, Nat.le_trans h.size hg.size, fun k hk hl => (hg.block k (Nat.lt_of_lt_of_le hl h.size) (fun e => by have := hr k e.symm; omega)).trans (h.block k hk hl)⟩
theorem Rd.kept {w w' : World} {k : IntKind} {v : Value} {xs : List Int} {row : Option Nat} (h : Rd w k v xs) (hg : w.grownBy w' row) (hr : v.ownBlock = none ∨ v.ownBlock ≠ row) : Rd w' k v xs := by
  obtain ⟨p, cap, rfl, h1, h2, h3⟩ := h
  refine ⟨p, cap, rfl, h1, h2, h3.imp id fun ⟨b, off, hp, hlt, hc⟩ => ⟨b, off, hp, Nat.lt_of_lt_of_le hlt hg.size, fun i x hx => ?_⟩⟩
  subst hp
  rw [World.cell?_of_block (hg.block b hlt (by rcases hr with hr | hr <;> simp [Value.ownBlock] at hr ⊢ <;> exact hr))]
  exact hc i x hx
theorem Rd.fresh {w w0 : World} {k : IntKind} {v : Value} {xs : List Int} (h : Rd w k v xs) (hf : Fresh w0 v) : ∀ g, v.ownBlock = some g → w0.heap.size ≤ g := by
  obtain ⟨p, cap, rfl, h1, h2, h3⟩ := h
  intro g hg
  rcases h3 with ⟨rfl, _⟩ | ⟨b, off, rfl, _⟩
  · simp [Value.ownBlock] at hg
  · simp [Value.ownBlock] at hg; subst hg; exact hf _ _ _ _ rfl
theorem Rd.freshOf {w w0 : World} {k : IntKind} {v : Value} {xs : List Int} (h : Rd w k v xs) (hf : ∀ g, v.ownBlock = some g → w0.heap.size ≤ g) : Fresh w0 v := fun b off n c e => hf b (by rw [e]; rfl)
theorem grown_none {w w' : World} (h : Below w.heap.size w w') : w.grownBy w' none := ⟨h.os, h.tape, h.output, h.size, fun k hk _ => h.block k hk⟩
/-- Two slices that do not lie in one block. -/
def Off (v u : Value) : Prop := ∀ g, v.ownBlock = some g → u.ownBlock ≠ some g
theorem Off.ne {v u : Value} (h : Off v u) : v.ownBlock = none ∨ v.ownBlock ≠ u.ownBlock := by
  cases hv : v.ownBlock with
  | none => exact .inl rfl
  | some g => exact .inr (fun e => h g hv e.symm)
theorem Rd.in {w : World} {k : IntKind} {v : Value} {xs : List Int} (h : Rd w k v xs) : ∀ g, v.ownBlock = some g → g < w.heap.size := by
  obtain ⟨p, cap, rfl, h1, h2, h3⟩ := h
  intro g hg
  rcases h3 with ⟨rfl, _⟩ | ⟨b, off, rfl, h, _⟩
  · simp [Value.ownBlock] at hg
  · simp [Value.ownBlock] at hg; subst hg; exact h
theorem Bar.to_below {D : Nat} {w w1 w2 : World} (h : Below w.heap.size w w1) (hb : Bar D w1 w2) (hD : w.heap.size ≤ D) : Below w.heap.size w w2 :=
  ⟨hb.os.trans h.os, hb.tape.trans h.tape, hb.output.trans h.output, Nat.le_trans h.size hb.size, fun k hk => (hb.block k (by omega) (Nat.lt_of_lt_of_le hk h.size)).trans (h.block k hk)⟩
theorem app_below {w w1 w2 : World} {row : Option Nat} (h : Below w.heap.size w w1) (hg : w1.grownBy w2 row) (hr : ∀ g, row = some g → w.heap.size ≤ g) : Below w.heap.size w w2 :=
  ⟨hg.os.trans h.os, hg.tape.trans h.tape, hg.output.trans h.output, Nat.le_trans h.size hg.size, fun k hk => (hg.block k (Nat.lt_of_lt_of_le hk h.size) (fun e => by have := hr k e.symm; omega)).trans (h.block k hk)⟩
theorem Rd.shape {w : World} {k : IntKind} {v : Value} {xs : List Int} (h : Rd w k v xs) : ∃ p n c, v = .slice p n c := by
  obtain ⟨p, cap, rfl, _⟩ := h; exact ⟨_, _, _, rfl⟩
/-- A string's bytes as numbers. -/
def bytesOf (s : ByteArray) : List Int := s.data.toList.map fun b => (b.toNat : Int)
theorem bytesOf_byte (s : ByteArray) : ∀ x ∈ bytesOf s, Byte x := by
  intro x hx
  obtain ⟨b, _, rfl⟩ := List.mem_map.1 hx
  have := b.toNat_lt
  unfold Byte
  omega
theorem bytesOf_len (s : ByteArray) : (bytesOf s).length = s.size := by unfold bytesOf; rw [List.length_map]; rfl
theorem strOf_bytesOf (s : ByteArray) : strOfNums (bytesOf s) = s := by
  obtain ⟨d⟩ := s
  unfold strOfNums bytesOf
  congr 1
  rw [List.map_map, show ((fun n : Int => UInt8.ofNat n.toNat) ∘ fun b : UInt8 => (b.toNat : Int)) = id from funext fun b => by simp, List.map_id]
theorem bytesOf_strOf (xs : List Int) (h : ∀ x ∈ xs, Byte x) : bytesOf (strOfNums xs) = xs := by
  unfold bytesOf strOfNums
  simp only [List.map_map]
  conv => rhs; rw [← List.map_id xs]
  refine List.map_congr_left fun x hx => ?_
  have := h x hx
  unfold Byte at this
  simp only [Function.comp, UInt8.toNat_ofNat', id]
  omega
theorem strOf_inj {xs ys : List Int} (hx : ∀ x ∈ xs, Byte x) (hy : ∀ x ∈ ys, Byte x) : strOfNums xs = strOfNums ys ↔ xs = ys :=
  ⟨fun h => by rw [← bytesOf_strOf xs hx, h, bytesOf_strOf ys hy], fun h => by rw [h]⟩
theorem run_str {P : Program} {w : World} {v : Value} {xs : List Int} (src dst e : TypeId) (hs : P.underlying src = some (.slice e)) (he : P.underlying e = some (.int .u8)) (hd : P.underlying dst = some .string) (h : Rd w .u8 v xs) :
    (convert src dst v).run P w = .ok (.string (strOfNums xs)) w := by
  obtain ⟨p, cap, rfl, h1, h2, h3⟩ := h
  rcases h3 with ⟨rfl, h⟩ | ⟨b, off, rfl, hlt, hc⟩
  · have : xs = [] := List.eq_nil_of_length_eq_zero (by omega)
    subst this
    exact run_convert_bytes_nil w src e hs he _ _ dst hd
  · exact run_convert_bytes_arg w src e hs he b off _ _ xs rfl (fun i hi => by rw [hc i xs[i] (List.getElem?_eq_getElem hi)]; simp [hi]) dst hd
theorem run_bytes {P : Program} (w : World) (s : ByteArray) (hl : s.size ≤ maxLen) (src dst e : TypeId) (hs : P.underlying src = some .string) (hd : P.underlying dst = some (.slice e)) (he : P.underlying e = some (.int .u8)) :
    ∃ v w', (convert src dst (.string s)).run P w = .ok v w' ∧ Rd w' .u8 v (bytesOf s) ∧ Fresh w v ∧ Below w.heap.size w w' := by
  refine ⟨_, _, Lib.run_convert_string_bytes w src dst e s hs hd he, ?_, Fresh.at (Nat.le_refl _), ?_⟩
  · refine ⟨_, _, by rw [bytesOf_len], by rw [bytesOf_len]; exact grownCap_ge .., by exact grownCap_le_maxLen w s.size 0 e hl, .inr ⟨w.heap.size, 0, rfl, by rw [Lib.bytesWorld_size]; omega, fun i x hx => ?_⟩⟩
    rw [Nat.zero_add, Lib.bytesWorld_cell w e s i (by have := (List.getElem?_eq_some_iff.1 hx).1; rwa [bytesOf_len] at this)]
    unfold bytesOf at hx
    rw [List.getElem?_map] at hx
    simp only [Option.map_eq_some_iff] at hx
    obtain ⟨b, hb, rfl⟩ := hx
    simp [List.getD, hb]
  · exact ⟨rfl, rfl, rfl, by rw [Lib.bytesWorld_size]; omega, fun k hk => Lib.bytesWorld_at_old w e s k hk⟩
theorem wpList_bytes {P : Program} {ops : Array Oper} {rest : List Oper} {o : Oper} {a : Act} {w : World} {Q : Exit → Act → World → Prop} (hgd : o.guard = none) (x : Operand) (src dst e : TypeId) (ho : o.op = .convert src dst x)
    (hs : P.underlying src = some .string) (hd : P.underlying dst = some (.slice e)) (he : P.underlying e = some (.int .u8)) (s : ByteArray) (hx : a.eval x = .string s) (hl : s.size ≤ maxLen)
    (h : ∀ v w', Rd w' .u8 v (bytesOf s) → Fresh w v → Below w.heap.size w w' → wpList P ops Q rest (a.put o.dst v) w') : wpList P ops Q (o :: rest) a w := by
  obtain ⟨v, w', hr, h1, h2, h3⟩ := run_bytes (P := P) w s hl src dst e hs hd he
  refine wpList_plain hgd fun _ hK => ?_
  unfold Oper.wp execOp
  simp only [ho, Sem.run_bind, Sem.run_pure, Result.andThen_ok, hx, hr]
  exact hK _ _ (h v w' h1 h2 h3)
/-- A store into a slice of the call's own. -/
theorem Own.store {w : World} {B g : Nat} {E : TypeId} {k : IntKind} {v : Value} {xs : List Int} (h : Own w B E k v xs) (hg : v.ownBlock = some g) (j : Nat) (hj : j < xs.length) (y : Int) : Own (w.setCell ⟨g, j, none⟩ (.int k y)) B E k v (xs.set j y) := by
  rcases h.2 with ⟨rfl, h0⟩ | ⟨g', cap, cur, rfl, hb, hgg, hnc, hcm, hcs, ht⟩
  · simp [Value.ownBlock] at hg
  · simp [Value.ownBlock] at hg
    subst hg
    refine ⟨by simp, .inr ⟨g', cap, cur.setIfInBounds j (.int k y), by simp, hb, heap_setCell_same w g' j cur E _ hgg, by simpa using hnc, hcm, by simpa using hcs, ?_⟩⟩
    rw [List.length_set, List.map_set, ← ht]
    simp only [Array.toList_setIfInBounds]
    rw [List.take_set]
theorem Own.cellAt {w : World} {B g : Nat} {E : TypeId} {k : IntKind} {v : Value} {xs : List Int} (h : Own w B E k v xs) (hg : v.ownBlock = some g) (j : Nat) (hj : j < xs.length) : w.cell? ⟨g, j, none⟩ = some (.int k xs[j]) ∧ w.frozen? ⟨g, j, none⟩ = false ∧ g < w.heap.size := by
  rcases h.2 with ⟨rfl, h0⟩ | ⟨g', cap, cur, rfl, hb, hgg, hnc, hcm, hcs, ht⟩
  · simp [Value.ownBlock] at hg
  · simp [Value.ownBlock] at hg
    subst hg
    refine ⟨?_, frozen_of_row w g' j cur E hgg, (Array.getElem?_eq_some_iff.1 hgg).1⟩
    rw [cell_of_row w g' j cur E (0, 0) hgg]
    have h1 : (xs.map (Value.int k))[j]? = some (.int k xs[j]) := by simp [hj]
    rw [← ht, List.getElem?_take] at h1
    split at h1
    · simpa using h1
    · cases h1
theorem Own.shape {w : World} {B : Nat} {E : TypeId} {k : IntKind} {v : Value} {xs : List Int} (h : Own w B E k v xs) : (v = .slice none 0 0 ∧ xs = []) ∨ ∃ g cap, v = .slice (some ⟨g, 0, none⟩) xs.length cap ∧ xs.length ≤ cap ∧ cap ≤ maxLen := by
  rcases h.2 with ⟨h1, h0⟩ | ⟨g', cap, cur, h1, hb, hgg, hnc, hcm, hcs, ht⟩
  · exact .inl ⟨h1, List.eq_nil_of_length_eq_zero h0⟩
  · exact .inr ⟨g', cap, h1, hnc, hcm⟩
/-- A part of a slice that is read. -/
theorem Rd.part {w : World} {k : IntKind} {a : Option Addr} {n cap : Nat} {xs : List Int} (h : Rd w k (.slice a n cap) xs) (l hh : Nat) (h1 : l ≤ hh) (h2 : hh ≤ xs.length) : Rd w k (sliced a l hh cap 1) ((xs.take hh).drop l) := by
  obtain ⟨p, c, hp, e1, e2, e3⟩ := h
  injection hp with g1 g2 g3
  subst g1 g2 g3
  have hlen : ((xs.take hh).drop l).length = hh - l := by rw [List.length_drop, List.length_take]; omega
  unfold sliced
  refine ⟨_, cap - l, by rw [hlen], by rw [hlen]; omega, by unfold maxLen at *; omega, ?_⟩
  rcases e3 with ⟨rfl, rfl⟩ | ⟨b, off, rfl, hlt, hc⟩
  · refine .inl ⟨by split <;> rfl, by omega⟩
  · by_cases hm : cap = l
    · have hnil : (xs.take hh).drop l = [] := by rw [List.drop_eq_nil_iff, List.length_take]; omega
      refine .inr ⟨b, off, by rw [if_pos hm], hlt, fun i x hx => by rw [hnil] at hx; simp at hx⟩
    · refine .inr ⟨b, off + l, by rw [if_neg hm, Option.map_some, Addr.add_lit, Nat.mul_one], hlt, fun i x hx => ?_⟩
      rw [List.getElem?_drop, List.getElem?_take] at hx
      split at hx
      · rw [Nat.add_assoc]; exact hc (l + i) x hx
      · cases hx
theorem sliced_block (a : Option Addr) (n c l hh m s : Nat) : (sliced a l hh m s).ownBlock = (Value.slice a n c).ownBlock := by
  unfold sliced
  cases a with
  | none => split <;> rfl
  | some a =>
    simp only [Option.map_some]
    split
    · rfl
    · simp only [Value.ownBlock, Addr.add]; split <;> rfl
theorem apart_of {v : Value} {D : Nat} (h : v.ownBlock ≠ some D) : Apart v D := fun b off n c e => by rintro rfl; exact h (by rw [e]; rfl)
theorem nblk {v : Value} {row : Option Nat} (h : ∀ g, v.ownBlock = some g → row ≠ some g) : v.ownBlock = none ∨ v.ownBlock ≠ row := by
  cases hv : v.ownBlock with
  | none => exact .inl rfl
  | some g => exact .inr (fun e => h g hv e.symm)
theorem Own.keep {w w' : World} {B : Nat} {E : TypeId} {k : IntKind} {v : Value} {xs : List Int} {row : Option Nat} (h : Own w B E k v xs) (hg : w.grownBy w' row) (hn : ∀ g, v.ownBlock = some g → row ≠ some g) : Own w' B E k v xs := World.ownsRow.kept h hg (nblk hn)

/-- A slice expression without a third index, as an operation of a walk. -/
theorem wpList_part {ops : Array Oper} {rest : List Oper} {o : Oper} {a : Act} {w : World} {Q : Exit → Act → World → Prop} (hgd : o.guard = none) (t : TypeId) (k : IntKind) (ht : Try.prog.underlying t = some (.slice (Try.prog.elem t))) (hz : ∀ w, (sizeOf (Try.prog.elem t)).run Try.prog w = .ok 1 w) (x : Operand) (lo hi : Option Operand)
    (ho : o.op = .slice t x lo hi none) (p : Option Addr) (cap : Nat) (xs : List Int) (hx : a.eval x = .slice p xs.length cap) (hrd : Rd w k (.slice p xs.length cap) xs) (l hh : Nat)
    (hl : (lo.map a.eval = none ∧ l = 0) ∨ lo.map a.eval = some (.int .i64 l)) (hh2 : (hi.map a.eval = none ∧ hh = xs.length) ∨ hi.map a.eval = some (.int .i64 hh)) (h1 : l ≤ hh) (h2 : hh ≤ xs.length)
    (h : ∀ v', Rd w k v' ((xs.take hh).drop l) → v'.ownBlock = (Value.slice p xs.length cap).ownBlock → wpList Try.prog ops Q rest (a.put o.dst v') w) : wpList Try.prog ops Q (o :: rest) a w := by
  have hcap : xs.length ≤ cap := by
    obtain ⟨q, c, hp, e1, _⟩ := hrd
    injection hp with g1 g2 g3
    omega
  refine wpList_plain hgd fun _ hK => ?_
  have hrun : (Instr.slice t (.slice p xs.length cap) (lo.map a.eval) (hi.map a.eval) none).run Try.prog w = .ok (sliced p l hh cap 1) w := by
    rw [run_slice_any w t p xs.length cap ht]
    have hb : (Instr.sliceBounds true xs.length cap (lo.map a.eval) (hi.map a.eval) none).run Try.prog w = .ok (l, hh, cap) w := by
      have k1 := run_sliceBound (P := Try.prog) w .i64 (hh : Int) cap .sliceAcap (by omega) (by omega)
      have k2 := run_sliceBound (P := Try.prog) w .i64 (l : Int) hh .sliceB (by omega) (by omega)
      rcases hl with ⟨hl, rfl⟩ | hl <;> rcases hh2 with ⟨hh2, rfl⟩ | hh2 <;> rw [hl, hh2] <;> simp [Instr.sliceBounds, k1, k2]
    rw [hb]
    simp only [Result.andThen_ok, hz]
  unfold Oper.wp execOp
  simp only [ho, Sem.run_bind, Sem.run_pure, Result.andThen_ok, hx]
  have hat : (Instr.sliceAt t (.slice p xs.length cap) (lo.map a.eval) (hi.map a.eval) none).run Try.prog w = .ok (sliced p l hh cap 1) w := by
    rw [run_sliceAt_slice w t _ _ _ _ ht, hrun]
  show Oper.upon Try.prog o a _ Q ((Sem.run Try.prog (Instr.sliceAt t (.slice p xs.length cap) (lo.map a.eval) (hi.map a.eval) none) w).andThen fun v w' => Result.ok (Next.value v) w')
  rw [hat]
  exact hK _ _ (h _ (hrd.part l hh h1 h2) (sliced_block p xs.length cap l hh cap 1))

end Go.Proofs.Ytpkkfcfkhiaggaa
