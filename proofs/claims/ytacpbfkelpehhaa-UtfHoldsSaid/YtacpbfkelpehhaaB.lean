/- utf: slices that the call itself makes; append. -/
import Derived.Test.YtacpbfkelpehhaaA
import Derived.Laws.AppendOwnNone
set_option linter.unusedSimpArgs false
set_option linter.unusedVariables false
set_option linter.unnecessarySimpa false
namespace Go.Proofs.Ytacpbfkelpehhaa
open Go.RowKit

/-- A slice value owns a list of ints of one kind: nil, or a row in a block from B on that nobody else holds. -/
def Own (w : World) (B : Nat) (E : TypeId) (k : IntKind) (v : Value) (xs : List Int) : Prop := w.ownsRow B E 1 v xs.length (xs.map (.int k))
theorem Own.nil (w : World) (B : Nat) (E : TypeId) (k : IntKind) : Own w B E k (.slice none 0 0) [] := World.ownsRow_nil w B E 1
theorem Own.kept {w w' : World} {B : Nat} {E : TypeId} {k : IntKind} {v : Value} {xs : List Int} (h : Own w B E k v xs) (hb : Below w.heap.size w w') : Own w' B E k v xs :=
  World.ownsRow.kept (row := none) h ⟨hb.os, hb.tape, hb.output, hb.size, fun i hi _ => hb.block i hi⟩ (by cases v.ownBlock <;> simp)
theorem Own.weaken {w : World} {B B' : Nat} {E : TypeId} {k : IntKind} {v : Value} {xs : List Int} (h : Own w B E k v xs) (hB : B' ≤ B) : Own w B' E k v xs := by
  refine ⟨h.1, ?_⟩
  rcases h.2 with h2 | ⟨g, cap, cur, hv, hg, r⟩
  · exact .inl h2
  · exact .inr ⟨g, cap, cur, hv, Nat.le_trans hB hg, r⟩
theorem Own.rd {w : World} {B : Nat} {E : TypeId} {k : IntKind} {v : Value} {xs : List Int} (h : Own w B E k v xs) : Rd w k v xs := by
  rcases h.2 with ⟨rfl, h0⟩ | ⟨g, cap, cur, rfl, hb, hg, hnc, hcm, hcs, ht⟩
  · exact ⟨none, 0, by rw [h0], by omega, by simp [maxLen], .inl ⟨rfl, rfl⟩⟩
  · refine ⟨_, cap, rfl, hnc, hcm, .inr ⟨g, 0, rfl, (Array.getElem?_eq_some_iff.1 hg).1, fun i x hx => ?_⟩⟩
    rw [cell_of_row w g (0 + i) cur E (0, 0) hg]
    have h1 : (xs.map (Value.int k))[i]? = some (.int k x) := by simp [hx]
    rw [← ht, List.getElem?_take] at h1
    split at h1
    · simpa using h1
    · cases h1
/-- A literal's slice. -/
theorem Rd.new (w : World) (E : TypeId) (k : IntKind) (ys : List Int) (n c : Nat) (hn : n = w.heap.size) (hc : c = ys.length) (hm : c ≤ maxLen) : Rd (w.alloc (.cells (ys.map (Value.int k)).toArray E)) k (.slice (some ⟨n, 0, none⟩) c c) ys := by
  subst hc
  refine ⟨_, _, rfl, Nat.le_refl _, hm, .inr ⟨n, 0, rfl, by simp [hn], fun i x hx => ?_⟩⟩
  rw [cell_of_row (w.alloc _) n (0 + i) _ E (0, 0) (heap_alloc_at w _ n hn)]
  simp [hx]

theorem Rd.lit1 (w : World) (E : TypeId) (k : IntKind) (a : Int) (n : Nat) (hn : n = w.heap.size) : Rd (w.alloc (.cells #[.int k a] E)) k (.slice (some ⟨n, 0, none⟩) 1 1) [a] := Rd.new w E k [a] n 1 hn rfl (by simp [maxLen])
theorem Rd.lit2 (w : World) (E : TypeId) (k : IntKind) (a b : Int) (n : Nat) (hn : n = w.heap.size) : Rd (w.alloc (.cells #[.int k a, .int k b] E)) k (.slice (some ⟨n, 0, none⟩) 2 2) [a, b] := Rd.new w E k [a, b] n 2 hn rfl (by simp [maxLen])
theorem Rd.lit3 (w : World) (E : TypeId) (k : IntKind) (a b c : Int) (n : Nat) (hn : n = w.heap.size) : Rd (w.alloc (.cells #[.int k a, .int k b, .int k c] E)) k (.slice (some ⟨n, 0, none⟩) 3 3) [a, b, c] := Rd.new w E k [a, b, c] n 3 hn rfl (by simp [maxLen])
theorem Rd.lit4 (w : World) (E : TypeId) (k : IntKind) (a b c d : Int) (n : Nat) (hn : n = w.heap.size) : Rd (w.alloc (.cells #[.int k a, .int k b, .int k c, .int k d] E)) k (.slice (some ⟨n, 0, none⟩) 4 4) [a, b, c, d] := Rd.new w E k [a, b, c, d] n 4 hn rfl (by simp [maxLen])

theorem grown_below {w w' : World} {row : Option Nat} {B : Nat} (h : w.grownBy w' row) (hr : ∀ k, row = some k → B ≤ k) (hB : B ≤ w.heap.size) : Below B w w' :=
  ⟨h.os, h.tape, h.output, h.size, fun i hi => h.block i (by omega) (fun e => by have := hr i e.symm; omega)⟩

/-- append of a slice that is owned and a slice that is read. -/
theorem wpList_app {P : Program} {ops : Array Oper} {rest : List Oper} {o : Oper} {a : Act} {w : World} {Q : Exit → Act → World → Prop} (hgd : o.guard = none) (s x : Operand) (t E : TypeId) (k : IntKind) (bytes : Nat)
    (ho : o.op = .call { callee := .builtin .append, args := #[s, x], argTypes := #[t, t] }) (ht : P.underlying t = some (.slice E)) (hi : (P.info? E).map (fun i => (i.zero, i.size, i.bytes)) = some (some (.int k 0), 1, bytes))
    (B : Nat) (v y : Value) (xs ys : List Int) (hown : Own w B E k v xs) (hrd : Rd w k y ys) (hs : a.eval s = v) (hx : a.eval x = y) (h63 : xs.length + ys.length ≤ maxLen) (hbytes : (xs.length + ys.length) * bytes ≤ 140737488355328) (hbase : B ≤ w.heap.size)
    (h : ∀ v' w', Own w' B E k v' (xs ++ ys) → Below B w w' → w.grownBy w' v.ownBlock → wpList P ops Q rest (a.put o.dst v') w') : wpList P ops Q (o :: rest) a w := by
  obtain ⟨i0, hi, hz0, hz1, hz2⟩ := info_parts hi
  obtain ⟨p, cap, rfl, l1, m1, c1⟩ := hrd
  rcases c1 with ⟨rfl, rfl⟩ | ⟨b, off, rfl, hlt, hcell⟩
  · have hys : ys = [] := List.eq_nil_of_length_eq_zero (by omega)
    subst hys
    refine wpList_append_own_none hgd s x t ho B E i0 1 ht hi v xs.length (xs.map (.int k)) hs hown hx (h v w (by simpa using hown) (Below.refl _ _) ⟨rfl, rfl, rfl, Nat.le_refl _, fun _ _ _ => rfl⟩)
  · refine wpList_append_own w hgd s x t ho B E i0 (.int k 0) 1 bytes ht hi hz0 hz1 hz2 rfl (by decide) v xs.length (xs.map (.int k)) hs hown ⟨b, off, none⟩ ys.length cap (ys.map (.int k)) hx (by simp) (fun j u hu => ?_) (fun u hu => ?_) h63 hbytes hbase (fun v' w' h1 h2 _ => h v' w' ?_ (grown_below h2 (fun k hk => (World.ownsRow.lt hown k hk).1) hbase) h2)
    · simp only [List.getElem?_map, Option.map_eq_some_iff] at hu
      obtain ⟨z, hz, rfl⟩ := hu
      rw [Addr.add_lit]; exact hcell j z hz
    · simp only [List.mem_map] at hu
      obtain ⟨z, _, rfl⟩ := hu
      rfl
    · unfold Own; rw [List.length_append, List.map_append]; exact h1

/-- Where append's result lies: where the slice lay, or in a new block. -/
theorem run_append_where {P : Program} (w : World) (base : Nat) (t ty e : TypeId) (i : TypeInfo) (z : Value) (size bytes : Nat) (ht : P.underlying t = some (.slice e)) (hi : P.info? e = some i) (hz : i.zero = some z)
    (hsize : i.size = size) (hby : i.bytes = bytes) (hzs : z.cells.size = size) (hsz : 0 < size)
    (v : Value) (n : Nat) (xs : List Value) (hown : w.ownsRow base e size v n xs)
    (a : Addr) (m c : Nat) (news : List Value) (hl : news.length = m * size) (hnews : ∀ j u, news[j]? = some u → w.cell? (a.add j) = some u) (h1 : ∀ u ∈ news, u.oneCell' = true)
    (h63 : n + m ≤ maxLen) (hbytes : (n + m) * bytes ≤ 140737488355328) (hbase : base ≤ w.heap.size) :
    ∃ v' w', (Builtin.append_ #[t, t] ty #[v, .slice (some a) m c]).run P w = .ok v' w' ∧ w'.ownsRow base e size v' (n + m) (xs ++ news) ∧ w.grownBy w' v.ownBlock ∧
      (v'.ownBlock = v.ownBlock ∨ v'.ownBlock = some w.heap.size) := by
  obtain ⟨v', w', hr, h2, h3, h4⟩ := run_append_own (P := P) w base t ty e i z size bytes ht hi hz hsize hby hzs hsz v n xs hown a m c news hl hnews h1 h63 hbytes hbase
  refine ⟨v', w', hr, h2, h3, ?_⟩
  have hmax : n + m ≤ 9223372036854775807 := by simp only [maxLen] at h63; omega
  subst hsize hby
  rcases hown.2 with ⟨rfl, rfl⟩ | ⟨g, cap, cur, rfl, hbg, hg, hnc, hcm, hcs, htake⟩
  · by_cases hm : m = 0
    · rw [h4.2 ⟨rfl, hm⟩]; exact .inl rfl
    · have hr2 := run_append_nil (P := P) w t ty e i z ht hi hz a m c news hl hnews (by omega) (by omega) (by have hb := hbytes; simp only [Nat.zero_add] at hb; omega)
      rw [hr] at hr2
      injection hr2 with e1 e2
      subst e1
      exact .inr rfl
  · by_cases hroom : n + m ≤ cap
    · have hfit : n * i.size + news.length ≤ cur.size := by rw [hl, hcs, ← Nat.add_mul]; exact Nat.mul_le_mul_right _ hroom
      have hr2 := run_append_room (P := P) w t ty e i ht hi g n cap cur hg a m c news hl hnews h1 hroom hfit
      rw [hr] at hr2
      injection hr2 with e1 e2
      subst e1
      exact .inl rfl
    · have holds : ∀ j u, xs[j]? = some u → w.cell? ((⟨g, 0, none⟩ : Addr).add j) = some u := hown.cells (g := g) rfl
      have hr2 := run_append_grow (P := P) w t ty e i z ht hi hz ⟨g, 0, none⟩ n cap xs hown.1 holds a m c news hl hnews (by omega) (by omega) (growslice_fits (by omega) hbytes)
      rw [hr] at hr2
      injection hr2 with e1 e2
      subst e1
      exact .inr rfl

/-- append of a slice that is owned and a slice that is read; and where the result lies. -/
theorem wpList_appw {P : Program} {ops : Array Oper} {rest : List Oper} {o : Oper} {a : Act} {w : World} {Q : Exit → Act → World → Prop} (hgd : o.guard = none) (s x : Operand) (t E : TypeId) (k : IntKind) (bytes : Nat)
    (ho : o.op = .call { callee := .builtin .append, args := #[s, x], argTypes := #[t, t] }) (ht : P.underlying t = some (.slice E)) (hi : (P.info? E).map (fun i => (i.zero, i.size, i.bytes)) = some (some (.int k 0), 1, bytes))
    (B : Nat) (v y : Value) (xs ys : List Int) (hown : Own w B E k v xs) (hrd : Rd w k y ys) (hs : a.eval s = v) (hx : a.eval x = y) (h63 : xs.length + ys.length ≤ maxLen) (hbytes : (xs.length + ys.length) * bytes ≤ 140737488355328) (hbase : B ≤ w.heap.size)
    (h : ∀ v' w', Own w' B E k v' (xs ++ ys) → w.grownBy w' v.ownBlock → (v'.ownBlock = v.ownBlock ∨ v'.ownBlock = some w.heap.size) → wpList P ops Q rest (a.put o.dst v') w') : wpList P ops Q (o :: rest) a w := by
  obtain ⟨i0, hi, hz0, hz1, hz2⟩ := info_parts hi
  obtain ⟨p, cap, rfl, l1, m1, c1⟩ := hrd
  rcases c1 with ⟨rfl, rfl⟩ | ⟨b, off, rfl, hlt, hcell⟩
  · have hys : ys = [] := List.eq_nil_of_length_eq_zero (by omega)
    subst hys
    refine wpList_append_own_none hgd s x t ho B E i0 1 ht hi v xs.length (xs.map (.int k)) hs hown hx (h v w (by simpa using hown) ⟨rfl, rfl, rfl, Nat.le_refl _, fun _ _ _ => rfl⟩ (.inl rfl))
  · obtain ⟨v', w', hr, h2, h3, h4⟩ := run_append_where (P := P) w B t o.type E i0 (.int k 0) 1 bytes ht hi hz0 hz1 hz2 rfl (by decide) v xs.length (xs.map (.int k)) hown ⟨b, off, none⟩ ys.length cap (ys.map (.int k)) (by simp) (fun j u hu => by
      simp only [List.getElem?_map, Option.map_eq_some_iff] at hu
      obtain ⟨z, hz, rfl⟩ := hu
      rw [Addr.add_lit]; exact hcell j z hz) (fun u hu => by
      simp only [List.mem_map] at hu
      obtain ⟨z, _, rfl⟩ := hu
      rfl) h63 hbytes hbase
    refine wpList_plain hgd fun _ hK => ?_
    unfold Oper.wp execOp
    simp only [ho, resolve, invoke, builtin, Sem.run_bind, Sem.run_pure, Result.andThen_ok, List.map_toArray, List.map_cons, List.map_nil, hs, hx, hr]
    exact hK _ _ (h v' w' (by unfold Own; rw [List.length_append, List.map_append]; exact h2) h3 h4)

/-- append, as one step of a region whose order is drawn. -/
theorem step_appw {P : Program} {ops : Array Oper} {o : Oper} {a : Act} {w : World} {K : Act → World → Prop} {Q : Exit → Act → World → Prop} {E' : Prop} (hg : o.guard = none) (s x : Operand) (t E : TypeId) (k : IntKind) (bytes : Nat)
    (ho : o.op = .call { callee := .builtin .append, args := #[s, x], argTypes := #[t, t] }) (ht : P.underlying t = some (.slice E)) (hi : (P.info? E).map (fun i => (i.zero, i.size, i.bytes)) = some (some (.int k 0), 1, bytes))
    (B : Nat) (v y : Value) (xs ys : List Int) (hown : Own w B E k v xs) (hrd : Rd w k y ys) (hs : a.eval s = v) (hx : a.eval x = y) (h63 : xs.length + ys.length ≤ maxLen) (hbytes : (xs.length + ys.length) * bytes ≤ 140737488355328) (hbase : B ≤ w.heap.size)
    (hK : ∀ v' w', Own w' B E k v' (xs ++ ys) → w.grownBy w' v.ownBlock → (v'.ownBlock = v.ownBlock ∨ v'.ownBlock = some w.heap.size) → K (a.put o.dst v') w') :
    if Region.wanted o (yielded ops a.tmps) = true then Oper.wp P o a w K Q else E' := by
  have hw : Region.wanted o (yielded ops a.tmps) = true := by simp [Region.wanted, hg]
  rw [if_pos hw]
  obtain ⟨i0, hi, hz0, hz1, hz2⟩ := info_parts hi
  obtain ⟨p, cap, rfl, l1, m1, c1⟩ := hrd
  rcases c1 with ⟨rfl, rfl⟩ | ⟨b, off, rfl, hlt, hcell⟩
  · have hys : ys = [] := List.eq_nil_of_length_eq_zero (by omega)
    subst hys
    have hrun := run_append_owned_none (P := P) (w := w) B t o.type E i0 1 ht hi v xs.length (xs.map (.int k)) hown
    unfold Oper.wp
    simp only [List.length_nil] at hx
    simp [execOp, ho, resolve, invoke, builtin, hs, hx, hrun, Result.andThen]
    exact hK v w (by simpa using hown) ⟨rfl, rfl, rfl, Nat.le_refl _, fun _ _ _ => rfl⟩ (.inl rfl)
  · obtain ⟨v', w', hr, h2, h3, h4⟩ := run_append_where (P := P) w B t o.type E i0 (.int k 0) 1 bytes ht hi hz0 hz1 hz2 rfl (by decide) v xs.length (xs.map (.int k)) hown ⟨b, off, none⟩ ys.length cap (ys.map (.int k)) (by simp) (fun j u hu => by
      simp only [List.getElem?_map, Option.map_eq_some_iff] at hu
      obtain ⟨z, hz, rfl⟩ := hu
      rw [Addr.add_lit]; exact hcell j z hz) (fun u hu => by
      simp only [List.mem_map] at hu
      obtain ⟨z, _, rfl⟩ := hu
      rfl) h63 hbytes hbase
    unfold Oper.wp execOp
    simp only [ho, resolve, invoke, builtin, Sem.run_bind, Sem.run_pure, Result.andThen_ok, List.map_toArray, List.map_cons, List.map_nil, hs, hx, hr]
    exact hK v' w' (by unfold Own; rw [List.length_append, List.map_append]; exact h2) h3 h4

theorem Own.new (w : World) (E : TypeId) (k : IntKind) (ys : List Int) (B n : Nat) (hn : n = w.heap.size) (hB : B ≤ w.heap.size) (hm : ys.length ≤ maxLen) : Own (w.alloc (.cells (ys.map (Value.int k)).toArray E)) B E k (.slice (some ⟨n, 0, none⟩) ys.length ys.length) ys := by
  subst hn
  exact ⟨by simp, .inr ⟨w.heap.size, ys.length, _, rfl, hB, heap_alloc_new w _, Nat.le_refl _, hm, by simp, by simpa using List.take_of_length_le (by simp)⟩⟩
theorem Own.lit1 (w : World) (E : TypeId) (k : IntKind) (a : Int) (B n : Nat) (hn : n = w.heap.size) (hB : B ≤ w.heap.size) : Own (w.alloc (.cells #[.int k a] E)) B E k (.slice (some ⟨n, 0, none⟩) 1 1) [a] := by
  subst hn
  exact ⟨rfl, .inr ⟨w.heap.size, 1, #[.int k a], rfl, hB, heap_alloc_new w _, by simp, by simp [maxLen], by simp, by simp⟩⟩

end Go.Proofs.Ytacpbfkelpehhaa
