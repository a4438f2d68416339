/- params: Text, of the program and of the reference, walked. -/
import Derived.Test.YtdoeiaekimbecaaDoorMO
import Derived.Outline
import Derived.Sort.Grow
set_option linter.unusedSimpArgs false
set_option linter.unusedVariables false
set_option linter.unnecessarySimpa false
namespace Go.Proofs.YtdoeiaekimbecaaDoor.Pm
open Go.RowKit

/-- The library's table of tens, as it is laid. -/
def Tab (w : World) : Prop := Lib.TabIs Tryd.prog w "internal/strconv.uint64pow10" .u64 Lib.pow10Tab
theorem gTab : Tryd.prog.globalNamed "internal/strconv.uint64pow10" = some 1 := by kernel_rfl
theorem Tab.below {w w' : World} (h : Tab w) (hb : Below w.heap.size w w') : Tab w' := by
  unfold Tab Lib.TabIs World.var? at h ⊢
  rw [gTab] at h ⊢
  simp only [Option.bind_some] at h ⊢
  have hlt : 1 < w.heap.size := by
    rcases Nat.lt_or_ge 1 w.heap.size with h' | h'
    · exact h'
    · rw [Array.getElem?_eq_none h'] at h; cases h
  rw [hb.block _ hlt]
  exact h
theorem drewN_bl (w : World) (n : Nat) : Below w.heap.size w (w.drewN n) := ⟨rfl, rfl, rfl, Nat.le_refl _, fun _ _ => rfl⟩
theorem grow_bl (w : World) (os : Array Obj) : Below w.heap.size w (Go.Sort.grow w os) := ⟨rfl, rfl, rfl, by simp [Go.Sort.grow], fun k hk => Go.Sort.heap_grow_old w os hk⟩
theorem itoa_any (n : Int) (w : World) (h0 : -9223372036854775808 ≤ n) (h1 : n ≤ 9223372036854775807) (ht : Tab w) : Calls Tryd.prog 43 #[.int .i64 n] w fun e w' => e = .returned (.string ⟨(Lib.itoa n).toArray⟩) ∧ Below w.heap.size w w' :=
  (Tryd.strconv_Itoa n h0 h1 w ht).mono fun e w' ⟨he, k, os, hw⟩ => ⟨he, by rw [hw]; exact (drewN_bl w k).trans (grow_bl (w.drewN k) os)⟩

/-- A slice of strings of the call's own. -/
def OwnS (w : World) (B : Nat) (E : TypeId) (v : Value) (xs : List ByteArray) : Prop := w.ownsRow B E 1 v xs.length (xs.map .string)
theorem OwnS.nil (w : World) (B : Nat) (E : TypeId) : OwnS w B E (.slice none 0 0) [] := World.ownsRow_nil w B E 1
theorem OwnS.kept {w w' : World} {B : Nat} {E : TypeId} {v : Value} {xs : List ByteArray} (h : OwnS w B E v xs) (hb : Below w.heap.size w w') : OwnS w' B E v xs := by
  rcases h with ⟨h1, h2⟩
  refine ⟨h1, ?_⟩
  rcases h2 with h2 | ⟨g, cap, cur, e1, e2, e3, e4⟩
  · exact .inl h2
  · exact .inr ⟨g, cap, cur, e1, e2, (hb.block g (Array.getElem?_eq_some_iff.1 e3).1).trans e3, e4⟩
theorem elS : (Tryd.prog.info? 9).map (fun i => (i.zero, i.size, i.bytes)) = some (some (.string ⟨#[]⟩), 1, 16) := by kernel_rfl
theorem wpList_appS {P : Program} {ops : Array Oper} {rest : List Oper} {o : Oper} {a : Act} {w : World} {Q : Exit → Act → World → Prop} (hgd : o.guard = none) (s x : Operand) (t E : TypeId) (bytes : Nat)
    (ho : o.op = .call { callee := .builtin .append, args := #[s, x], argTypes := #[t, t] }) (ht : P.underlying t = some (.slice E)) (hi : (P.info? E).map (fun i => (i.zero, i.size, i.bytes)) = some (some (.string ⟨#[]⟩), 1, bytes))
    (B : Nat) (v : Value) (xs : List ByteArray) (b : ByteArray) (bk : Nat) (hown : OwnS w B E v xs) (hc : w.cell? ⟨bk, 0, none⟩ = some (.string b)) (hs : a.eval s = v) (hx : a.eval x = .slice (some ⟨bk, 0, none⟩) 1 1) (h63 : xs.length + 1 ≤ maxLen) (hbytes : (xs.length + 1) * bytes ≤ 140737488355328) (hbase : B ≤ w.heap.size)
    (h : ∀ v' w', OwnS w' B E v' (xs ++ [b]) → Below B w w' → wpList P ops Q rest (a.put o.dst v') w') : wpList P ops Q (o :: rest) a w := by
  obtain ⟨i0, hi, hz0, hz1, hz2⟩ := info_parts hi
  refine wpList_append_own w hgd s x t ho B E i0 (.string ⟨#[]⟩) 1 bytes ht hi hz0 hz1 hz2 rfl (by decide) v xs.length (xs.map .string) hs hown ⟨bk, 0, none⟩ 1 1 [.string b] hx rfl (fun j u hu => ?_) (fun u hu => ?_) h63 hbytes hbase (fun v' w' h1 h2 _ => h v' w' ?_ (grown_below h2 (fun k hk => (World.ownsRow.lt hown k hk).1) hbase))
  · obtain ⟨hj, rfl⟩ := List.getElem?_eq_some_iff.1 hu
    have : j = 0 := by simp at hj; omega
    subst this
    exact hc
  · simp at hu; subst hu; rfl
  · unfold OwnS; rw [List.length_append, List.map_append]; exact h1

/-- The text of parameters. -/
def numB (n : Int) : List UInt8 := if 0 ≤ n then Lib.itoa n else []
def textB (xs : List Int) : List UInt8 := Lib.join (xs.map numB) [59]
theorem numB_len (n : Int) (h : n ≤ 9999) : (numB n).length ≤ 21 := by
  unfold numB
  split
  · exact Lib.itoa_length_le n (by omega) (by omega)
  · simp
theorem joinTail_len (xs : List Int) (h : ∀ x ∈ xs, x ≤ 9999) : (Lib.joinTail [59] (xs.map numB)).length ≤ 22 * xs.length := by
  induction xs with
  | nil => simp [Lib.joinTail]
  | cons x xs ih =>
    have h1 := numB_len x (h x (by simp))
    have h2 := ih (fun y hy => h y (by simp [hy]))
    simp only [Lib.joinTail, List.map_cons, List.flatten_cons, List.length_append, List.length_cons, List.length_nil] at *
    omega
theorem textB_len (xs : List Int) (h : ∀ x ∈ xs, x ≤ 9999) : (textB xs).length ≤ 22 * xs.length := by
  cases xs with
  | nil => simp [textB, Lib.join_nil]
  | cons x xs =>
    have h1 := numB_len x (h x (by simp))
    have h2 := joinTail_len xs (fun y hy => h y (by simp [hy]))
    unfold textB
    rw [List.map_cons, Lib.join_cons, List.length_append, List.length_cons]
    omega
theorem join_own (v : Value) (xs : List Int) (B : Nat) (w : World) (hx : ∀ x ∈ xs, x ≤ 9999) (hl : xs.length ≤ 1000) (h : OwnS w B 9 v (xs.map fun n => ⟨(numB n).toArray⟩)) :
    Calls Tryd.prog 44 #[v, .string ⟨#[59]⟩] w fun e w' => e = .returned (.string ⟨(textB xs).toArray⟩) ∧ Below w.heap.size w w' := by
  rcases h with ⟨h1, ⟨rfl, h2⟩ | ⟨g, cap, cur, rfl, hB, hg, hn, hc, hcs, ht⟩⟩
  · have : xs = [] := by simpa using h2
    subst this
    exact (Tryd.strings_Join_none none 0 _ w).mono fun e w' ⟨he, hw⟩ => ⟨he, hw ▸ Below.refl _ _⟩
  · have hlen := textB_len xs hx
    have em : (xs.map fun n => (⟨(numB n).toArray⟩ : ByteArray)).map (fun b => b.data.toList) = xs.map numB := by simp
    have key := Tryd.strings_Join g 0 cap (xs.map fun n => ⟨(numB n).toArray⟩) ⟨#[59]⟩ w (fun j x hj => ?_) (Array.getElem?_eq_some_iff.1 hg).1 (by simp; omega) hn (by rw [em]; show (textB xs).length ≤ _; omega)
    · rw [em] at key
      exact key
    · have hj2 := (List.getElem?_eq_some_iff.1 hj).1
      have e : cur.toList[j]? = some (.string x) := by
        have e1 := congrArg (·[j]?) ht
        simp only [Nat.mul_one, List.getElem?_take, hj2, if_true, List.getElem?_map, hj, Option.map_some] at e1
        exact e1
      rw [Nat.zero_add]
      simp only [World.cell?, hg]
      simpa using e

end Go.Proofs.YtdoeiaekimbecaaDoor.Pm
