/- keys: the names of the keys that are no runes. -/
import Derived.Test.YtofjdjjbgnfngaaDoorC
import Derived.Outline
set_option linter.unusedSimpArgs false
set_option linter.unusedVariables false
set_option linter.unnecessarySimpa false
namespace Go.Proofs.YtofjdjjbgnfngaaDoor
open Go.RowKit

/-- A slice of strings of the call's own. -/
def OwnS (w : World) (B : Nat) (v : Value) (ss : List ByteArray) : Prop := w.ownsRow B 9 1 v ss.length (ss.map .string)
theorem elS : (Tryd.prog.info? 9).map (fun i => (i.zero, i.size, i.bytes)) = some (some (.string ⟨#[]⟩), 1, 16) := by kernel_rfl
/-- append of one string. -/
theorem wpList_appS {ops : Array Oper} {rest : List Oper} {o : Oper} {a : Act} {w : World} {Q : Exit → Act → World → Prop} (hgd : o.guard = none) (s x : Operand)
    (ho : o.op = .call { callee := .builtin .append, args := #[s, x], argTypes := #[37, 37] })
    (B : Nat) (v : Value) (ss : List ByteArray) (t : ByteArray) (b : Nat) (hown : OwnS w B v ss) (hc : w.cell? ⟨b, 0, none⟩ = some (.string t)) (hs : a.eval s = v) (hx : a.eval x = .slice (some ⟨b, 0, none⟩) 1 1) (hl : ss.length ≤ 1000) (hbase : B ≤ w.heap.size)
    (h : ∀ v' w', OwnS w' B v' (ss ++ [t]) → Below B w w' → wpList Tryd.prog ops Q rest (a.put o.dst v') w') : wpList Tryd.prog ops Q (o :: rest) a w := by
  obtain ⟨i0, hi, hz0, hz1, hz2⟩ := info_parts elS
  refine wpList_append_own w hgd s x 37 ho B 9 i0 (.string ⟨#[]⟩) 1 16 Tryd.underlying37 hi hz0 hz1 hz2 rfl (by decide) v ss.length (ss.map .string) hs hown ⟨b, 0, none⟩ 1 1 [.string t] hx (by simp) (fun j u hu => ?_) (fun u hu => ?_) (by unfold maxLen; omega) (by omega) hbase (fun v' w' h1 h2 _ => h v' w' ?_ (grown_below h2 (fun k hk => (World.ownsRow.lt hown k hk).1) hbase))
  · match j with
    | 0 =>
      obtain rfl : Value.string t = u := by simpa using hu
      exact hc
    | n + 1 => simp at hu
  · obtain rfl : u = Value.string t := by simpa using hu
    rfl
  · unfold OwnS; rw [List.length_append, List.map_append]; exact h1
theorem OwnS.kept {w w' : World} {B : Nat} {v : Value} {ss : List ByteArray} (h : OwnS w B v ss) (hb : Below w.heap.size w w') : OwnS w' B v ss :=
  World.ownsRow.kept (row := none) h ⟨hb.os, hb.tape, hb.output, hb.size, fun i hi _ => hb.block i hi⟩ (by cases v.ownBlock <;> simp)
theorem OwnS.cells {w : World} {B : Nat} {v : Value} {ss : List ByteArray} (h : OwnS w B v ss) (hne : ss ≠ []) : ∃ g c, v = .slice (some ⟨g, 0, none⟩) ss.length c ∧ B ≤ g ∧ g < w.heap.size ∧ ss.length ≤ c ∧ c ≤ maxLen ∧ ∀ j s, ss[j]? = some s → w.cell? ⟨g, j, none⟩ = some (.string s) := by
  have h0 := h
  rcases h.2 with ⟨rfl, h1⟩ | ⟨g, cap, cur, rfl, hb, hg, hnc, hcm, hcs, ht⟩
  · exact absurd (List.eq_nil_of_length_eq_zero h1) hne
  · refine ⟨g, cap, rfl, hb, (Array.getElem?_eq_some_iff.1 hg).1, hnc, hcm, fun j s hj => ?_⟩
    rw [cell_of_row w g j cur 9 (0, 0) hg]
    have h1 : (ss.map Value.string)[j]? = some (.string s) := by simp [hj]
    rw [← ht, List.getElem?_take] at h1
    split at h1
    · simpa using h1
    · cases h1
def nameL : List ByteArray := [⟨#[69, 110, 116, 101, 114]⟩, ⟨#[84, 97, 98]⟩, ⟨#[66, 97, 99, 107, 115, 112, 97, 99, 101]⟩, ⟨#[69, 115, 99, 97, 112, 101]⟩, ⟨#[85, 112]⟩, ⟨#[68, 111, 119, 110]⟩, ⟨#[82, 105, 103, 104, 116]⟩, ⟨#[76, 101, 102, 116]⟩, ⟨#[72, 111, 109, 101]⟩, ⟨#[69, 110, 100]⟩, ⟨#[73, 110, 115, 101, 114, 116]⟩, ⟨#[68, 101, 108, 101, 116, 101]⟩, ⟨#[80, 97, 103, 101, 85, 112]⟩, ⟨#[80, 97, 103, 101, 68, 111, 119, 110]⟩, ⟨#[70, 49]⟩, ⟨#[70, 50]⟩, ⟨#[70, 51]⟩, ⟨#[70, 52]⟩, ⟨#[70, 53]⟩, ⟨#[70, 54]⟩, ⟨#[70, 55]⟩, ⟨#[70, 56]⟩, ⟨#[70, 57]⟩, ⟨#[70, 49, 48]⟩, ⟨#[70, 49, 49]⟩, ⟨#[70, 49, 50]⟩]
theorem nameL_len : nameL.length = 26 := rfl
theorem dstep (n : Nat) (h : ¬ n < 10) : Lib.decDigits n = Lib.decDigits (n / 10) ++ [UInt8.ofNat (48 + n % 10)] := by rw [Lib.decDigits, dif_neg h]
theorem n1 : numS 1 = ⟨#[49]⟩ := by unfold numS; rw [show (1 : Int) = ((1 : Nat) : Int) from rfl, Lib.itoa_nonneg, Lib.decDigits_one (by omega)]; rfl
theorem n2 : numS 2 = ⟨#[50]⟩ := by unfold numS; rw [show (2 : Int) = ((2 : Nat) : Int) from rfl, Lib.itoa_nonneg, Lib.decDigits_one (by omega)]; rfl
theorem n3 : numS 3 = ⟨#[51]⟩ := by unfold numS; rw [show (3 : Int) = ((3 : Nat) : Int) from rfl, Lib.itoa_nonneg, Lib.decDigits_one (by omega)]; rfl
theorem n4 : numS 4 = ⟨#[52]⟩ := by unfold numS; rw [show (4 : Int) = ((4 : Nat) : Int) from rfl, Lib.itoa_nonneg, Lib.decDigits_one (by omega)]; rfl
theorem n5 : numS 5 = ⟨#[53]⟩ := by unfold numS; rw [show (5 : Int) = ((5 : Nat) : Int) from rfl, Lib.itoa_nonneg, Lib.decDigits_one (by omega)]; rfl
theorem n6 : numS 6 = ⟨#[54]⟩ := by unfold numS; rw [show (6 : Int) = ((6 : Nat) : Int) from rfl, Lib.itoa_nonneg, Lib.decDigits_one (by omega)]; rfl
theorem n7 : numS 7 = ⟨#[55]⟩ := by unfold numS; rw [show (7 : Int) = ((7 : Nat) : Int) from rfl, Lib.itoa_nonneg, Lib.decDigits_one (by omega)]; rfl
theorem n8 : numS 8 = ⟨#[56]⟩ := by unfold numS; rw [show (8 : Int) = ((8 : Nat) : Int) from rfl, Lib.itoa_nonneg, Lib.decDigits_one (by omega)]; rfl
theorem n9 : numS 9 = ⟨#[57]⟩ := by unfold numS; rw [show (9 : Int) = ((9 : Nat) : Int) from rfl, Lib.itoa_nonneg, Lib.decDigits_one (by omega)]; rfl
theorem n10 : numS 10 = ⟨#[49, 48]⟩ := by unfold numS; rw [show (10 : Int) = ((10 : Nat) : Int) from rfl, Lib.itoa_nonneg, dstep _ (by omega), Lib.decDigits_one (by omega)]; rfl
theorem n11 : numS 11 = ⟨#[49, 49]⟩ := by unfold numS; rw [show (11 : Int) = ((11 : Nat) : Int) from rfl, Lib.itoa_nonneg, dstep _ (by omega), Lib.decDigits_one (by omega)]; rfl
theorem n12 : numS 12 = ⟨#[49, 50]⟩ := by unfold numS; rw [show (12 : Int) = ((12 : Nat) : Int) from rfl, Lib.itoa_nonneg, dstep _ (by omega), Lib.decDigits_one (by omega)]; rfl
theorem nameF (k : Nat) (h : k < 12) : nameL.take (14 + (k + 1)) = nameL.take (14 + k) ++ [(⟨#[70]⟩ : ByteArray) ++ numS ((k : Int) + 1)] := by
  match k, h with
  | 0, _ => rw [show ((0 : Nat) : Int) + 1 = 1 from rfl, n1]; decide +kernel
  | 1, _ => rw [show ((1 : Nat) : Int) + 1 = 2 from rfl, n2]; decide +kernel
  | 2, _ => rw [show ((2 : Nat) : Int) + 1 = 3 from rfl, n3]; decide +kernel
  | 3, _ => rw [show ((3 : Nat) : Int) + 1 = 4 from rfl, n4]; decide +kernel
  | 4, _ => rw [show ((4 : Nat) : Int) + 1 = 5 from rfl, n5]; decide +kernel
  | 5, _ => rw [show ((5 : Nat) : Int) + 1 = 6 from rfl, n6]; decide +kernel
  | 6, _ => rw [show ((6 : Nat) : Int) + 1 = 7 from rfl, n7]; decide +kernel
  | 7, _ => rw [show ((7 : Nat) : Int) + 1 = 8 from rfl, n8]; decide +kernel
  | 8, _ => rw [show ((8 : Nat) : Int) + 1 = 9 from rfl, n9]; decide +kernel
  | 9, _ => rw [show ((9 : Nat) : Int) + 1 = 10 from rfl, n10]; decide +kernel
  | 10, _ => rw [show ((10 : Nat) : Int) + 1 = 11 from rfl, n11]; decide +kernel
  | 11, _ => rw [show ((11 : Nat) : Int) + 1 = 12 from rfl, n12]; decide +kernel
def NamesE (w : World) (e : Ending) (w' : World) : Prop := ∃ g c, e = .returned (.slice (some ⟨g, 0, none⟩) 26 c) ∧ g < w'.heap.size ∧ 26 ≤ c ∧ c ≤ maxLen ∧ (∀ j s, nameL[j]? = some s → w'.cell? ⟨g, j, none⟩ = some (.string s)) ∧ Below w.heap.size w w'
theorem ownS_lit (w : World) (ys : List ByteArray) (hm : ys.length ≤ 1000) : OwnS (w.alloc (.cells (ys.map Value.string).toArray 9)) w.heap.size (.slice (some ⟨w.heap.size, 0, none⟩) ys.length ys.length) ys :=
  ⟨by simp, .inr ⟨w.heap.size, ys.length, _, rfl, Nat.le_refl _, heap_alloc_new w _, Nat.le_refl _, by unfold maxLen; omega, by simp, by simpa using List.take_of_length_le (by simp)⟩⟩
set_option maxHeartbeats 4000000 in
theorem names_any (w : World) (ht : Tab w) : Calls Tryd.prog 25 #[] w (NamesE w) := by
  have hL : OwnS (w.alloc (.cells #[.string ⟨#[69, 110, 116, 101, 114]⟩, .string ⟨#[84, 97, 98]⟩, .string ⟨#[66, 97, 99, 107, 115, 112, 97, 99, 101]⟩, .string ⟨#[69, 115, 99, 97, 112, 101]⟩, .string ⟨#[85, 112]⟩, .string ⟨#[68, 111, 119, 110]⟩, .string ⟨#[82, 105, 103, 104, 116]⟩, .string ⟨#[76, 101, 102, 116]⟩, .string ⟨#[72, 111, 109, 101]⟩, .string ⟨#[69, 110, 100]⟩, .string ⟨#[73, 110, 115, 101, 114, 116]⟩, .string ⟨#[68, 101, 108, 101, 116, 101]⟩, .string ⟨#[80, 97, 103, 101, 85, 112]⟩, .string ⟨#[80, 97, 103, 101, 68, 111, 119, 110]⟩] 9)) w.heap.size (.slice (some ⟨w.heap.size, 0, none⟩) 14 14) (nameL.take (14 + 0)) := ownS_lit w (nameL.take 14) (by decide)
  have HL := Lib.hid hL
  clear hL
  go_enter Tryd.func25, Tryd.ntmps25
  go_wp2_with fail
  go_loopw [1, 4] (fun v i wr => ∃ k : Nat, k ≤ 12 ∧ i = .int .i64 k ∧ OwnS wr w.heap.size v (nameL.take (14 + k)) ∧ Below w.heap.size w wr) (fun _ i _ => 12 - (intOf i).toNat)
  case atStart => exact ⟨0, by omega, rfl, HL.out, bl_alloc (Below.refl _ _) _⟩
  case round =>
    obtain ⟨k, hk, rfl, hou, hbel⟩ := hrel
    by_cases hlt : k < 12
    · have r1 : (0 : Int) ≤ (k : Int) := by omega
      have r2 : (k : Int) < 12 := by omega
      have HF := Lib.hid (nameF k hlt)
      have hlen : (nameL.take (14 + k)).length ≤ 1000 := by rw [List.length_take, nameL_len]; omega
      have k1 := numS_size ((k : Int) + 1) (by omega) (by omega)
      have cI := fun W (ht : Tab W) => itoa_s ((k : Int) + 1) W (by omega) (by omega) ht
      obtain ⟨S, hS⟩ : ∃ S, numS ((k : Int) + 1) = S := ⟨_, rfl⟩
      rw [hS] at HF k1 cI
      clear hS
      obtain ⟨L, hL⟩ : ∃ L, nameL.take (14 + k) = L := ⟨_, rfl⟩
      rw [hL] at hou HF hlen
      clear hL
      go_wp2_with (first | (go_at_call 33; (with_reducible refine (cI _ (ht.below hbel)).mono ?_); rintro e w1 ⟨rfl, hb1⟩; have hl1 := bl_trans hbel hb1) | (at_builtin; refine wpList_appS rfl _ _ rfl w.heap.size _ L ((⟨#[70]⟩ : ByteArray) ++ S) w1.heap.size ((hou.kept hb1).kept (bl_alloc (Below.refl _ _) _)) ((Box.new w1 _ _ rfl).cell 0) rfl rfl hlen (by have := hl1.size; simp; omega) ?_; intro v' w3 hown hb3))
      go_roundw
      have hrel2 : OwnS w3 w.heap.size v' (nameL.take (14 + (k + 1))) ∧ Below w.heap.size w w3 := ⟨by rw [HF.out]; exact hown, (bl_alloc hl1 _).trans hb3⟩
      clear hown hb3
      case rel => first | exact ⟨k + 1, by omega, by go_num, hrel2⟩ | ((repeat apply Exists.intro); exact ⟨⟨k + 1, by omega, by go_num, hrel2⟩, rfl⟩)
      case measure => simp [intOf]; omega
    · obtain rfl : k = 12 := by omega
      have hc := OwnS.cells hou (by decide)
      have HC := Lib.hid hc
      clear hou hc
      go_wp2_with fail
      go_ret
      obtain ⟨g, c, hv, h1, h2, h3, h4, h5⟩ := HC.out
      subst hv
      exact ⟨g, c, rfl, h2, h3, h4, h5, hbel⟩

end Go.Proofs.YtofjdjjbgnfngaaDoor
