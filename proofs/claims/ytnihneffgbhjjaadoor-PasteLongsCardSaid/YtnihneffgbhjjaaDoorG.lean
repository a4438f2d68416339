/- paste: the law's helpers about Clean, Paste, Look; slices of strings. -/
import Derived.Test.YtnihneffgbhjjaaDoorF
import Derived.Outline
set_option linter.unusedSimpArgs false
set_option linter.unusedVariables false
set_option linter.unnecessarySimpa false
namespace Go.Proofs.YtnihneffgbhjjaaDoor
open Go.RowKit

def OwnS (w : World) (B : Nat) (v : Value) (ss : List ByteArray) : Prop := w.ownsRow B 9 1 v ss.length (ss.map .string)
theorem elS : (Tryd.prog.info? 9).map (fun i => (i.zero, i.size, i.bytes)) = some (some (.string ⟨#[]⟩), 1, 16) := by kernel_rfl
/-- append of one string. -/
theorem wpList_appS {ops : Array Oper} {rest : List Oper} {o : Oper} {a : Act} {w : World} {Q : Exit → Act → World → Prop} (hgd : o.guard = none) (s x : Operand)
    (ho : o.op = .call { callee := .builtin .append, args := #[s, x], argTypes := #[44, 44] })
    (B : Nat) (v : Value) (ss : List ByteArray) (t : ByteArray) (b : Nat) (hown : OwnS w B v ss) (hc : w.cell? ⟨b, 0, none⟩ = some (.string t)) (hs : a.eval s = v) (hx : a.eval x = .slice (some ⟨b, 0, none⟩) 1 1) (hl : ss.length ≤ 100000000) (hbase : B ≤ w.heap.size)
    (h : ∀ v' w', OwnS w' B v' (ss ++ [t]) → Below B w w' → wpList Tryd.prog ops Q rest (a.put o.dst v') w') : wpList Tryd.prog ops Q (o :: rest) a w := by
  obtain ⟨i0, hi, hz0, hz1, hz2⟩ := info_parts elS
  refine wpList_append_own w hgd s x 44 ho B 9 i0 (.string ⟨#[]⟩) 1 16 Tryd.underlying44 hi hz0 hz1 hz2 rfl (by decide) v ss.length (ss.map .string) hs hown ⟨b, 0, none⟩ 1 1 [.string t] hx (by simp) (fun j u hu => ?_) (fun u hu => ?_) (by unfold maxLen; omega) (by omega) hbase (fun v' w' h1 h2 _ => h v' w' ?_ (grown_below h2 (fun k hk => (World.ownsRow.lt hown k hk).1) hbase))
  · match j with
    | 0 =>
      obtain rfl : Value.string t = u := by simpa using hu
      exact hc
    | n + 1 => simp at hu
  · obtain rfl : u = Value.string t := by simpa using hu
    rfl
  · unfold OwnS; rw [List.length_append, List.map_append]; exact h1
theorem OwnS.kept {w w' : World} {B : Nat} {v : Value} {ss : List ByteArray} (h : OwnS w B v ss) (hb : Below w.heap.size w w') : OwnS w' B v ss :=
  World.ownsRow.kept (row := none) h ⟨hb.os, hb.tape, hb.output, hb.size, fun i hi _ => hb.block i hi⟩ (by cases v.ownBlock <;> simp)
theorem OwnS.cells {w : World} {B : Nat} {v : Value} {ss : List ByteArray} (h : OwnS w B v ss) (hne : ss ≠ []) : ∃ g c, v = .slice (some ⟨g, 0, none⟩) ss.length c ∧ B ≤ g ∧ g < w.heap.size ∧ ss.length ≤ c ∧ c ≤ maxLen ∧ ∀ j s, ss[j]? = some s → w.cell? ⟨g, j, none⟩ = some (.string s) := by
  have h0 := h
  rcases h.2 with ⟨rfl, h1⟩ | ⟨g, cap, cur, rfl, hb, hg, hnc, hcm, hcs, ht⟩
  · exact absurd (List.eq_nil_of_length_eq_zero h1) hne
  · refine ⟨g, cap, rfl, hb, (Array.getElem?_eq_some_iff.1 hg).1, hnc, hcm, fun j s hj => ?_⟩
    rw [cell_of_row w g j cur 9 (0, 0) hg]
    have h1 : (ss.map Value.string)[j]? = some (.string s) := by simp [hj]
    rw [← ht, List.getElem?_take] at h1
    split at h1
    · simpa using h1
    · cases h1
theorem ownS_lit (w : World) (ys : List ByteArray) (hm : ys.length ≤ 1000) : OwnS (w.alloc (.cells (ys.map Value.string).toArray 9)) w.heap.size (.slice (some ⟨w.heap.size, 0, none⟩) ys.length ys.length) ys :=
  ⟨by simp, .inr ⟨w.heap.size, ys.length, _, rfl, Nat.le_refl _, heap_alloc_new w _, Nat.le_refl _, by unfold maxLen; omega, by simp, by simpa using List.take_of_length_le (by simp)⟩⟩
theorem cleans_no (vb : Value) (l : List Int) (w : World) (hb : Rd w .u8 vb l) (hlen : 1048576 < l.length) : Calls Tryd.prog 11 #[vb, .string ⟨#[]⟩, .int .i64 5] w fun e w' => e = .returned (.bool true) ∧ Below w.heap.size w w' := by
  obtain ⟨p, n, cap, hv⟩ := hb.shape
  subst hv
  have cC := fun W (h : Below w.heap.size w W) => clean_no _ l W (hb.below h) hlen
  unfold ClNo at cC
  have kc := fun W => run_str (P := Tryd.prog) 22 9 5 Tryd.underlying22 Tryd.underlying5 Tryd.underlying9 (Rd.nil W .u8)
  rw [show strOfNums ([] : List Int) = ⟨#[]⟩ from rfl] at kc
  go_enter Tryd.func11, Tryd.ntmps11
  go_wp2_with (first | (go_at_call 16; (with_reducible refine (cC _ (Below.refl _ _)).mono ?_); rintro e w1 ⟨rfl, hb1⟩))
  go_ret
  exact ⟨rfl, hb1⟩
theorem cleans_ok (vb : Value) (l : List Int) (w : World) (hb : Rd w .u8 vb l) (hl : ∀ x ∈ l, Byte x) (hlen : l.length ≤ 1048576) : Calls Tryd.prog 11 #[vb, .string (strOfNums (clnB l)), .int .i64 0] w fun e w' => e = .returned (.bool true) ∧ Below w.heap.size w w' := by
  obtain ⟨p, n, cap, hv⟩ := hb.shape
  subst hv
  have cC := fun W (h : Below w.heap.size w W) => clean_ok _ l W (hb.below h) hl hlen
  unfold ClE at cC
  have HY : Hid (∀ W v, Rd W .u8 v (clnB l) → (convert 22 9 v).run Tryd.prog W = .ok (.string (strOfNums (clnB l))) W) := Lib.hid fun W v h => run_str (P := Tryd.prog) 22 9 5 Tryd.underlying22 Tryd.underlying5 Tryd.underlying9 h
  generalize strOfNums (clnB l) = S at *
  go_enter Tryd.func11, Tryd.ntmps11
  go_wp2_with (first | (go_at_call 16; (with_reducible refine (cC _ (Below.refl _ _)).mono ?_); rintro e w1 ⟨v, rfl, hrd, hb1⟩; have kc := HY.out _ _ hrd; obtain ⟨p1, n1, c1, hv1⟩ := hrd.shape; subst hv1))
  go_ret
  exact ⟨rfl, hb1⟩
theorem pastes_no (vb : Value) (br : Bool) (l : List Int) (w : World) (hb : Rd w .u8 vb l) (hlen : 1048576 < l.length) : Calls Tryd.prog 12 #[vb, .bool br, .string ⟨#[]⟩, .int .i64 5] w fun e w' => e = .returned (.bool true) ∧ Below w.heap.size w w' := by
  obtain ⟨p, n, cap, hv⟩ := hb.shape
  subst hv
  have cC := fun W (h : Below w.heap.size w W) => paste_no _ br l W (hb.below h) hlen
  unfold ClNo at cC
  have kc := fun W => run_str (P := Tryd.prog) 22 9 5 Tryd.underlying22 Tryd.underlying5 Tryd.underlying9 (Rd.nil W .u8)
  rw [show strOfNums ([] : List Int) = ⟨#[]⟩ from rfl] at kc
  go_enter Tryd.func12, Tryd.ntmps12
  go_wp2_with (first | (go_at_call 20; (with_reducible refine (cC _ (Below.refl _ _)).mono ?_); rintro e w1 ⟨rfl, hb1⟩))
  go_ret
  exact ⟨rfl, hb1⟩
theorem pastes_ok (vb : Value) (br : Bool) (l : List Int) (w : World) (hb : Rd w .u8 vb l) (hl : ∀ x ∈ l, Byte x) (hlen : l.length ≤ 1048576) : Calls Tryd.prog 12 #[vb, .bool br, .string (strOfNums (pasteB br l)), .int .i64 0] w fun e w' => e = .returned (.bool true) ∧ Below w.heap.size w w' := by
  obtain ⟨p, n, cap, hv⟩ := hb.shape
  subst hv
  have cC := fun W (h : Below w.heap.size w W) => paste_ok _ br l W (hb.below h) hl hlen
  unfold ClE at cC
  have HY : Hid (∀ W v, Rd W .u8 v (pasteB br l) → (convert 22 9 v).run Tryd.prog W = .ok (.string (strOfNums (pasteB br l))) W) := Lib.hid fun W v h => run_str (P := Tryd.prog) 22 9 5 Tryd.underlying22 Tryd.underlying5 Tryd.underlying9 h
  generalize strOfNums (pasteB br l) = S at *
  go_enter Tryd.func12, Tryd.ntmps12
  go_wp2_with (first | (go_at_call 20; (with_reducible refine (cC _ (Below.refl _ _)).mono ?_); rintro e w1 ⟨v, rfl, hrd, hb1⟩; have kc := HY.out _ _ hrd; obtain ⟨p1, n1, c1, hv1⟩ := hrd.shape; subst hv1))
  go_ret
  exact ⟨rfl, hb1⟩
theorem looks_of (vb : Value) (a0 a1 a2 a3 : Int) (a4 : Bool) (n : Int) (w : World) (cC : ∀ W, Below w.heap.size w W → Calls Tryd.prog 17 #[vb] W (LkE #[.int .i64 a0, .int .i64 a1, .int .i64 a2, .int .i64 a3, .bool a4] n W)) : Calls Tryd.prog 13 #[vb, .agg #[.int .i64 a0, .int .i64 a1, .int .i64 a2, .int .i64 a3, .bool a4], .int .i64 n] w fun e w' => e = .returned (.bool true) ∧ Below w.heap.size w w' := by
  unfold LkE at cC
  go_enter Tryd.func13, Tryd.ntmps13
  go_wp2_with (first | (go_at_call 17; (with_reducible refine (cC _ (bl_alloc (Below.refl _ _) _)).mono ?_); rintro e w1 ⟨rfl, hb1⟩; have xk1 : Box w1 w.heap.size #[.int .i64 a0, .int .i64 a1, .int .i64 a2, .int .i64 a3, .bool a4] 33 := (hb1.block w.heap.size (by simp)).trans (Box.new _ _ _ rfl); have ck := xk1.cell; have lk := xk1.lt))
  go_ret
  exact ⟨rfl, bl_alloc (bl_trans (bl_alloc (Below.refl _ _) _) hb1) _⟩
theorem looks_no (vb : Value) (l : List Int) (w : World) (hb : Rd w .u8 vb l) (hlen : 1048576 < l.length) : Calls Tryd.prog 13 #[vb, .agg #[.int .i64 0, .int .i64 0, .int .i64 0, .int .i64 0, .bool false], .int .i64 5] w fun e w' => e = .returned (.bool true) ∧ Below w.heap.size w w' :=
  looks_of vb 0 0 0 0 false 5 w fun W h => look_no vb l W (hb.below h) hlen
theorem looks_ok (vb : Value) (l : List Int) (w : World) (hg : Gl w) (hb : Rd w .u8 vb l) (hl : ∀ x ∈ l, Byte x) (hlen : l.length ≤ 1048576) : Calls Tryd.prog 13 #[vb, .agg (lookV l), .int .i64 0] w fun e w' => e = .returned (.bool true) ∧ Below w.heap.size w w' :=
  looks_of vb _ _ _ _ _ 0 w fun W h => look_ok vb l W (hg.below h) (hb.below h) hl hlen

end Go.Proofs.YtnihneffgbhjjaaDoor
