/- keys: slices of keys; All. -/
import Derived.Test.YtofjdjjbgnfngaaDoorQ
import Derived.Test.YtofjdjjbgnfngaaDoorKHolds
import Derived.Deep.CutBlock
import Derived.Deep.DeepCutAuto
import Derived.Outline
set_option linter.unusedSimpArgs false
set_option linter.unusedVariables false
set_option linter.unnecessarySimpa false
namespace Go.Proofs.YtofjdjjbgnfngaaDoor
open Go.RowKit

structure Ky where
  code : Int
  rune : Int
  sh : Bool
  al : Bool
  ct : Bool
def Ky.cs (k : Ky) : List Value := [.int .i64 k.code, .int .i32 k.rune, .bool k.sh, .bool k.al, .bool k.ct]
def kyL (ks : List Ky) : List Value := ks.flatMap Ky.cs
theorem kyL_len (ks : List Ky) : (kyL ks).length = ks.length * 5 := by
  induction ks with
  | nil => rfl
  | cons a ks ih =>
    have e : kyL (a :: ks) = a.cs ++ kyL ks := rfl
    rw [e, List.length_append, ih, List.length_cons]
    show 5 + _ = _
    omega
theorem kyL_get (ks : List Ky) (i : Nat) (k : Ky) (h : ks[i]? = some k) (j : Nat) (hj : j < 5) : (kyL ks)[i * 5 + j]? = k.cs[j]? := by
  induction ks generalizing i with
  | nil => simp at h
  | cons a ks ih =>
    have e : kyL (a :: ks) = a.cs ++ kyL ks := rfl
    have hl : a.cs.length = 5 := rfl
    rw [e]
    cases i with
    | zero =>
      obtain rfl : a = k := by simpa using h
      rw [List.getElem?_append_left (by omega), Nat.zero_mul, Nat.zero_add]
    | succ i =>
      rw [List.getElem?_append_right (by omega), hl, show (i + 1) * 5 + j - 5 = i * 5 + j by omega]
      exact ih i (by simpa using h)
theorem kyL_at (ks : List Ky) (n : Nat) (u : Value) (h : (kyL ks)[n]? = some u) : ∃ k, ks[n / 5]? = some k ∧ k.cs[n % 5]? = some u := by
  have hn := (List.getElem?_eq_some_iff.1 h).1
  rw [kyL_len] at hn
  have hi : n / 5 < ks.length := by omega
  refine ⟨ks[n / 5], List.getElem?_eq_getElem hi, ?_⟩
  rw [← kyL_get ks (n / 5) _ (List.getElem?_eq_getElem hi) (n % 5) (by omega), show n / 5 * 5 + n % 5 = n by omega]
  exact h
def KyAt (w : World) (b off i : Nat) (k : Ky) : Prop := ∀ j, j < 5 → w.cell? ⟨b, off + i * 5 + j, none⟩ = k.cs[j]?
def RdK (w : World) (v : Value) (ks : List Ky) : Prop :=
  ∃ p cap, v = .slice p ks.length cap ∧ ks.length ≤ cap ∧ cap ≤ maxLen ∧ ((p = none ∧ cap = 0) ∨ ∃ b off, p = some ⟨b, off, none⟩ ∧ b < w.heap.size ∧ ∀ i k, ks[i]? = some k → KyAt w b off i k)
theorem KyAt.below {w w' : World} {b off i : Nat} {k : Ky} (h : KyAt w b off i k) (hb : Below w.heap.size w w') (hl : b < w.heap.size) : KyAt w' b off i k := fun j hj => (hb.cell (p := ⟨b, off + i * 5 + j, none⟩) hl).trans (h j hj)
theorem KyAt.cells {w : World} {b off i : Nat} {k : Ky} (h : KyAt w b off i k) : w.cell? ⟨b, off + i * 5, none⟩ = some (.int .i64 k.code) ∧ w.cell? ⟨b, off + i * 5 + 1, none⟩ = some (.int .i32 k.rune) ∧ w.cell? ⟨b, off + i * 5 + 2, none⟩ = some (.bool k.sh) ∧ w.cell? ⟨b, off + i * 5 + 3, none⟩ = some (.bool k.al) ∧ w.cell? ⟨b, off + i * 5 + 4, none⟩ = some (.bool k.ct) :=
  ⟨h 0 (by omega), h 1 (by omega), h 2 (by omega), h 3 (by omega), h 4 (by omega)⟩
theorem RdK.below {w w' : World} {v : Value} {ks : List Ky} (h : RdK w v ks) (hb : Below w.heap.size w w') : RdK w' v ks := by
  obtain ⟨p, cap, rfl, h1, h2, h3⟩ := h
  exact ⟨p, cap, rfl, h1, h2, h3.imp id fun ⟨b, off, hp, hlt, hc⟩ => ⟨b, off, hp, Nat.lt_of_lt_of_le hlt hb.size, fun i k hk => (hc i k hk).below hb hlt⟩⟩
theorem RdK.nil (w : World) : RdK w (.slice none 0 0) [] := ⟨none, 0, rfl, by simp, by simp [maxLen], .inl ⟨rfl, rfl⟩⟩
theorem RdK.at {w : World} {p : Option Addr} {cap : Nat} {ks : List Ky} (h : (p = none ∧ cap = 0) ∨ ∃ b off, p = some ⟨b, off, none⟩ ∧ b < w.heap.size ∧ ∀ i k, ks[i]? = some k → KyAt w b off i k) (hc : ks.length ≤ cap) {i : Nat} (hi : i < ks.length) :
    ∃ b off, p = some ⟨b, off, none⟩ ∧ b < w.heap.size ∧ KyAt w b off i ks[i] := by
  rcases h with ⟨_, h⟩ | ⟨b, off, hp, hlt, hcell⟩
  · omega
  · exact ⟨b, off, hp, hlt, hcell i _ (List.getElem?_eq_getElem hi)⟩
def OwnK (w : World) (B : Nat) (v : Value) (ks : List Ky) : Prop := w.ownsRow B 24 5 v ks.length (kyL ks)
theorem OwnK.nil (w : World) (B : Nat) : OwnK w B (.slice none 0 0) [] := World.ownsRow_nil _ _ _ _
theorem OwnK.kept {w w' : World} {B : Nat} {v : Value} {ks : List Ky} (h : OwnK w B v ks) (hb : Below w.heap.size w w') : OwnK w' B v ks :=
  World.ownsRow.kept (row := none) h ⟨hb.os, hb.tape, hb.output, hb.size, fun i hi _ => hb.block i hi⟩ (by cases v.ownBlock <;> simp)
theorem OwnK.rd {w : World} {B : Nat} {v : Value} {ks : List Ky} (h : OwnK w B v ks) : RdK w v ks := by
  rcases h.2 with ⟨rfl, h0⟩ | ⟨g, cap, cur, rfl, hb, hg, hnc, hcm, hcs, ht⟩
  · exact ⟨none, 0, by rw [h0], by omega, by simp [maxLen], .inl ⟨rfl, rfl⟩⟩
  · refine ⟨_, cap, rfl, hnc, hcm, .inr ⟨g, 0, rfl, (Array.getElem?_eq_some_iff.1 hg).1, fun i k hk j hj => ?_⟩⟩
    rw [cell_of_row w g (0 + i * 5 + j) cur 24 (0, 0) hg, Nat.zero_add]
    have hil := (List.getElem?_eq_some_iff.1 hk).1
    have h1 := kyL_get ks i k hk j hj
    rw [← ht, List.getElem?_take, if_pos (by omega)] at h1
    simpa using h1
theorem elKy : (Tryd.prog.info? 24).map (fun i => (i.zero, i.size, i.bytes)) = some (some (.agg #[.int .i64 0, .int .i32 0, .bool false, .bool false, .bool false]), 5, 16) := by kernel_rfl
theorem RdK.lit (w : World) (k : Ky) (n : Nat) (hn : n = w.heap.size) : RdK (w.alloc (.cells #[.int .i64 k.code, .int .i32 k.rune, .bool k.sh, .bool k.al, .bool k.ct] 24)) (.slice (some ⟨n, 0, none⟩) 1 1) [k] := by
  subst hn
  refine ⟨_, _, rfl, Nat.le_refl _, by simp [maxLen], .inr ⟨w.heap.size, 0, rfl, by simp, fun i x hx j hj => ?_⟩⟩
  match i, hx with
  | 0, hx =>
    obtain rfl : k = x := by simpa using hx
    rw [cell_of_row (w.alloc _) w.heap.size (0 + 0 * 5 + j) _ 24 (0, 0) (heap_alloc_new w _)]
    simp [Ky.cs]
  | i + 1, hx => simp at hx
/-- append of a slice of keys that is owned and one that is read. -/
theorem wpList_appK {ops : Array Oper} {rest : List Oper} {o : Oper} {a : Act} {w : World} {Q : Exit → Act → World → Prop} (hgd : o.guard = none) (s x : Operand)
    (ho : o.op = .call { callee := .builtin .append, args := #[s, x], argTypes := #[48, 48] })
    (B : Nat) (v y : Value) (ks ls : List Ky) (hown : OwnK w B v ks) (hrd : RdK w y ls) (hs : a.eval s = v) (hx : a.eval x = y) (hl : ks.length + ls.length ≤ 100000) (hbase : B ≤ w.heap.size)
    (h : ∀ v' w', OwnK w' B v' (ks ++ ls) → Below B w w' → w.grownBy w' v.ownBlock → wpList Tryd.prog ops Q rest (a.put o.dst v') w') : wpList Tryd.prog ops Q (o :: rest) a w := by
  obtain ⟨i0, hi, hz0, hz1, hz2⟩ := info_parts elKy
  obtain ⟨p, cap, rfl, l1, m1, c1⟩ := hrd
  rcases c1 with ⟨rfl, rfl⟩ | ⟨b, off, rfl, hlt, hcell⟩
  · have hls : ls = [] := List.eq_nil_of_length_eq_zero (by omega)
    subst hls
    refine wpList_append_own_none hgd s x 48 ho B 24 i0 5 Tryd.underlying48 hi v ks.length (kyL ks) hs hown hx (h v w (by simpa using hown) (Below.refl _ _) ⟨rfl, rfl, rfl, Nat.le_refl _, fun _ _ _ => rfl⟩)
  · refine wpList_append_own w hgd s x 48 ho B 24 i0 (.agg #[.int .i64 0, .int .i32 0, .bool false, .bool false, .bool false]) 5 16 Tryd.underlying48 hi hz0 hz1 hz2 rfl (by decide) v ks.length (kyL ks) hs hown ⟨b, off, none⟩ ls.length cap (kyL ls) hx (kyL_len ls) (fun j u hu => ?_) (fun u hu => ?_) (by unfold maxLen; omega) (by omega) hbase (fun v' w' h1 h2 _ => h v' w' ?_ (grown_below h2 (fun k hk => (World.ownsRow.lt hown k hk).1) hbase) h2)
    · obtain ⟨k, hk, hu2⟩ := kyL_at ls j u hu
      have := hcell _ k hk (j % 5) (by omega)
      rw [Addr.add_lit, show off + j = off + j / 5 * 5 + j % 5 by omega, this]
      exact hu2
    · obtain ⟨k, _, hk⟩ := List.mem_flatMap.1 hu
      simp only [Ky.cs, List.mem_cons, List.not_mem_nil, or_false] at hk
      rcases hk with rfl | rfl | rfl | rfl | rfl <;> rfl
    · unfold OwnK
      rw [List.length_append, show kyL (ks ++ ls) = kyL ks ++ kyL ls by unfold kyL; simp]
      exact h1

def vK (k : Ky) : Bool := validK k.code k.rune
theorem clos_any (k : Ky) (w : World) : Calls Tryd.prog 31 #[.agg #[.int .i64 k.code, .int .i32 k.rune, .bool k.sh, .bool k.al, .bool k.ct]] w fun e w' => e = .returned (.bool (!vK k)) ∧ Below w.heap.size w w' := by
  have cV := fun W => valid_any k.code k.rune k.sh k.al k.ct W
  unfold vK
  generalize validK k.code k.rune = vd at *
  go_enter Tryd.func31, Tryd.ntmps31
  go_wp2_with (first | (go_at_call 8; (with_reducible refine (cV _).mono ?_); rintro e w1 ⟨rfl, hb⟩))
  go_ret
  exact ⟨rfl, bl_trans (bl_alloc (Below.refl _ _) _) hb⟩
def BadK (ks : List Ky) : Bool := ks.any fun k => !vK k
theorem badK_take (ks : List Ky) (k : Nat) (h : k < ks.length) : BadK (ks.take (k + 1)) = (BadK (ks.take k) || !vK ks[k]) := by
  unfold BadK
  rw [List.take_succ_eq_append_getElem h, List.any_append]
  simp
theorem badK_le (ks : List Ky) (k : Nat) (h : BadK (ks.take k) = true) : BadK ks = true := by
  unfold BadK at *
  rw [List.any_eq_true] at *
  obtain ⟨x, hx, hb⟩ := h
  exact ⟨x, List.mem_of_mem_take hx, hb⟩
def IdxE (bad : Bool) (w : World) (e : Ending) (w' : World) : Prop := ∃ n : Int, e = .returned (.int .i64 n) ∧ (0 ≤ n ↔ bad = true) ∧ -1 ≤ n ∧ Below w.heap.size w w'
set_option maxHeartbeats 1000000 in
theorem idxf_any (v : Value) (ks : List Ky) (w : World) (h : RdK w v ks) : Calls Tryd.prog 37 #[v, .func (.func 31) #[] #[]] w (IdxE (BadK ks) w) := by
  obtain ⟨p, cap, rfl, hlc, hcm, hcell⟩ := h
  unfold maxLen at hcm
  go_enter Tryd.func37, Tryd.ntmps37
  go_wp2_with fail
  go_loopw [8] (fun i wr => ∃ k : Nat, k ≤ ks.length ∧ i = .int .i64 k ∧ BadK (ks.take k) = false ∧ Below w.heap.size w wr) (fun i _ => ks.length - (intOf i).toNat)
  case atStart => exact ⟨0, by omega, rfl, rfl, Below.refl _ _⟩
  case round =>
    obtain ⟨k, hk, rfl, hbad, hbel⟩ := hrel
    by_cases hlt : k < ks.length
    · obtain ⟨b, off, rfl, hbl, hc⟩ := RdK.at hcell hlc hlt
      obtain ⟨q0, q1, q2, q3, q4⟩ := (hc.below hbel hbl).cells
      have hbt := badK_take ks k hlt
      have hble := badK_le ks (k + 1)
      rw [hbad, Bool.false_or] at hbt
      rw [hbt] at hble
      have HB := Lib.hid hbt
      have HL := Lib.hid hble
      have hbw : b < wr.heap.size := Nat.lt_of_lt_of_le hbl hbel.size
      have cC := fun W => clos_any ks[k] W
      have hltI : (k : Int) < (ks.length : Int) := by omega
      clear hc hcell hbt hble hbad
      generalize vK ks[k] = vd at *
      generalize ks[k] = ky at *
      cases vd
      · go_wp2_with (first | (go_at_call 31; (with_reducible refine (cC _).mono ?_); rintro e w1 ⟨rfl, hb1⟩))
        go_ret
        exact ⟨(k : Int), rfl, ⟨fun _ => HL.out rfl, fun _ => by omega⟩, by omega, bl_trans hbel hb1⟩
      · go_wp2_with (first | (go_at_call 31; (with_reducible refine (cC _).mono ?_); rintro e w1 ⟨rfl, hb1⟩))
        go_roundw
        case rel => first | exact ⟨k + 1, by omega, by go_num, HB.out, bl_trans hbel hb1⟩ | ((repeat apply Exists.intro); exact ⟨⟨k + 1, by omega, by go_num, HB.out, bl_trans hbel hb1⟩, rfl⟩)
        case measure => simp [intOf]; omega
    · obtain rfl : k = ks.length := by omega
      rw [List.take_length] at hbad
      have HB := Lib.hid hbad
      clear hbad
      go_wp2_with fail
      go_ret
      exact ⟨-1, rfl, ⟨fun h => absurd h (by decide), fun h => by rw [HB.out] at h; cases h⟩, by omega, hbel⟩
theorem conf_any (v : Value) (ks : List Ky) (w : World) (h : RdK w v ks) : Calls Tryd.prog 30 #[v, .func (.func 31) #[] #[]] w fun e w' => e = .returned (.bool (BadK ks)) ∧ Below w.heap.size w w' := by
  have cI := idxf_any v ks w h
  unfold IdxE at cI
  obtain ⟨p, cap, rfl, _⟩ := h
  generalize BadK ks = bad at *
  go_enter Tryd.func30, Tryd.ntmps30
  go_wp2_with (first | (go_at_call 37; (with_reducible refine cI.mono ?_); rintro e w1 ⟨n, rfl, hn, hn1, hb1⟩; have HN := Lib.hid hn; clear hn))
  go_ret
  exact ⟨ret_bool (by rw [Bool.eq_iff_iff, decide_eq_true_eq]; exact HN.out), hb1⟩
def sK (k : Ky) (app nl bk : Bool) : ByteArray := bytesS k.code k.rune k.sh k.al k.ct app nl bk
def iK (k : Ky) (nl bk : Bool) : Bool := bytesI k.code k.rune k.sh k.ct nl bk
def NoK (ks : List Ky) (nl bk : Bool) : Bool := ks.any fun k => !iK k nl bk
def outK (ks : List Ky) (app nl bk : Bool) : List Int := ks.flatMap fun k => bytesOf (sK k app nl bk)
def AllNo (n : Int) (w : World) (e : Ending) (w' : World) : Prop := e = .returned (.tuple #[.slice none 0 0, .int .i64 n]) ∧ Below w.heap.size w w'
theorem all_long (v : Value) (ks : List Ky) (app nl bk : Bool) (w : World) (h : RdK w v ks) (hl : 1000 < ks.length) : Calls Tryd.prog 19 #[.agg #[.bool app, .bool nl, .bool bk], v] w (AllNo 5 w) := by
  obtain ⟨p, cap, rfl, hlc, hcm, hcell⟩ := h
  unfold maxLen at hcm
  clear hcell
  go_enter Tryd.func19, Tryd.ntmps19
  go_wp2_with fail
  go_ret2
  exact ⟨rfl, bl_alloc (Below.refl _ _) _⟩
theorem all_bad (v : Value) (ks : List Ky) (app nl bk : Bool) (w : World) (h : RdK w v ks) (hl : ks.length ≤ 1000) (hb : BadK ks = true) : Calls Tryd.prog 19 #[.agg #[.bool app, .bool nl, .bool bk], v] w (AllNo 2 w) := by
  have cF := fun W (hb : Below w.heap.size w W) => conf_any v ks W (h.below hb)
  rw [hb] at cF
  obtain ⟨p, cap, rfl, hlc, hcm, hcell⟩ := h
  unfold maxLen at hcm
  clear hcell
  go_enter Tryd.func19, Tryd.ntmps19
  go_wp2_with (first | (go_at_call 30; (with_reducible refine (cF _ (bl_alloc (Below.refl _ _) _)).mono ?_); rintro e w1 ⟨rfl, hb1⟩))
  go_ret2
  exact ⟨rfl, bl_trans (bl_alloc (Below.refl _ _) _) hb1⟩
theorem noK_take (ks : List Ky) (nl bk : Bool) (k : Nat) (h : k < ks.length) : NoK (ks.take (k + 1)) nl bk = (NoK (ks.take k) nl bk || !iK ks[k] nl bk) := by
  unfold NoK
  rw [List.take_succ_eq_append_getElem h, List.any_append]
  simp
theorem noK_le (ks : List Ky) (nl bk : Bool) (k : Nat) (h : NoK (ks.take k) nl bk = true) : NoK ks nl bk = true := by
  unfold NoK at *
  rw [List.any_eq_true] at *
  obtain ⟨x, hx, hb⟩ := h
  exact ⟨x, List.mem_of_mem_take hx, hb⟩
theorem outK_take (ks : List Ky) (app nl bk : Bool) (k : Nat) (h : k < ks.length) : outK (ks.take (k + 1)) app nl bk = outK (ks.take k) app nl bk ++ bytesOf (sK ks[k] app nl bk) := by
  unfold outK
  rw [List.take_succ_eq_append_getElem h, List.flatMap_append, List.flatMap_cons, List.flatMap_nil, List.append_nil]
def AllE (ks : List Ky) (app nl bk : Bool) (w : World) (e : Ending) (w' : World) : Prop :=
  (NoK ks nl bk = true ∧ e = .returned (.tuple #[.slice none 0 0, .int .i64 9]) ∧ Below w.heap.size w w') ∨ (NoK ks nl bk = false ∧ ∃ v, e = .returned (.tuple #[v, .int .i64 0]) ∧ Rd w' .u8 v (outK ks app nl bk) ∧ Below w.heap.size w w')
theorem numN_range (c : Int) : 0 ≤ numN c ∧ numN c ≤ 99 := by
  by_cases h12 : c = 12
  · subst h12; decide
  by_cases h13 : c = 13
  · subst h13; decide
  by_cases h14 : c = 14
  · subst h14; decide
  by_cases h15 : c = 15
  · subst h15; decide
  by_cases h20 : c = 20
  · subst h20; decide
  by_cases h21 : c = 21
  · subst h21; decide
  by_cases h22 : c = 22
  · subst h22; decide
  by_cases h23 : c = 23
  · subst h23; decide
  by_cases h24 : c = 24
  · subst h24; decide
  by_cases h25 : c = 25
  · subst h25; decide
  by_cases h26 : c = 26
  · subst h26; decide
  by_cases h27 : c = 27
  · subst h27; decide
  unfold numN
  rw [if_neg h12, if_neg h13, if_neg h14, if_neg h15, if_neg h20, if_neg h21, if_neg h22, if_neg h23, if_neg h24, if_neg h25, if_neg h26, if_neg h27]
  decide
/-- The bytes of a key are few. -/
theorem sK_size (k : Ky) (app nl bk : Bool) (h : vK k = true) : (sK k app nl bk).size ≤ 60 := by
  unfold vK validK at h
  have h := of_decide_eq_true h
  have hm := mod_range k.sh k.al k.ct
  have hp := plain_size k.code k.rune k.sh k.ct nl bk
  have hn : ∀ n, -9223372036854775808 ≤ n → n ≤ 9223372036854775807 → (numS n).size ≤ 21 := fun n h0 h1 => numS_size n h0 h1
  have hnum := numN_range k.code
  have h1 := hn (modN k.sh k.al k.ct) (by omega) (by omega)
  have h2 := hn (numN k.code) (by omega) (by omega)
  have hlet : ∀ o, (letterS (modN k.sh k.al k.ct) ⟨#[letN k.code]⟩ o).size ≤ 60 := by
    intro o
    unfold letterS
    split
    · rw [ByteArray.size_append, ByteArray.size_append]; show 4 + _ + 1 ≤ 60; omega
    · split
      · rw [ByteArray.size_append]; show 2 + 1 ≤ 60; omega
      · rw [ByteArray.size_append]; show 2 + 1 ≤ 60; omega
  have hnb : (numberedS (modN k.sh k.al k.ct) (numN k.code)).size ≤ 60 := by
    unfold numberedS
    split
    · rw [ByteArray.size_append, ByteArray.size_append, ByteArray.size_append, ByteArray.size_append]; show 2 + _ + (1 + _) + 1 ≤ 60; omega
    · rw [ByteArray.size_append, ByteArray.size_append]; show 2 + _ + 1 ≤ 60; omega
  unfold sK bytesS
  split
  · rw [ByteArray.size_append]
    split
    · show 1 + _ ≤ 60; omega
    · show 0 + _ ≤ 60; omega
  · split
    · exact hlet _
    · split
      · exact hnb
      · split
        · exact hlet _
        · exact hnb
theorem bytesOf_size (s : ByteArray) : (bytesOf s).length = s.size := bytesOf_len s
theorem el8k : (Tryd.prog.info? 5).map (fun i => (i.zero, i.size, i.bytes)) = some (some (.int .u8 0), 1, 1) := by kernel_rfl
set_option maxHeartbeats 4000000 in
set_option maxRecDepth 100000 in
theorem all_ok (v : Value) (ks : List Ky) (app nl bk : Bool) (w : World) (ht : Tab w) (h : RdK w v ks) (hr : ∀ k ∈ ks, -2147483648 ≤ k.rune ∧ k.rune ≤ 2147483647) (hl : ks.length ≤ 1000) (hb : BadK ks = false) : Calls Tryd.prog 19 #[.agg #[.bool app, .bool nl, .bool bk], v] w (AllE ks app nl bk w) := by
  have cF := fun W (hb : Below w.heap.size w W) => conf_any v ks W (h.below hb)
  rw [hb] at cF
  have hvk : ∀ k ∈ ks, vK k = true := fun k hk => by
    have := (List.any_eq_false.1 hb) k hk
    simpa using this
  obtain ⟨p, cap, rfl, hlc, hcm, hcell⟩ := h
  unfold maxLen at hcm
  clear hb
  go_enter Tryd.func19, Tryd.ntmps19
  go_wp2_with (first | (go_at_call 30; (with_reducible refine (cF _ (bl_alloc (Below.refl _ _) _)).mono ?_); rintro e w1 ⟨rfl, hb1⟩))
  have hbw1 : Below w.heap.size w w1 := bl_trans (bl_alloc (Below.refl _ _) _) hb1
  have hx1 : Box w1 w.heap.size #[.bool app, .bool nl, .bool bk] 26 := (hb1.block _ (by simp)).trans (Box.new _ _ _ rfl)
  have hwl := hx1.lt
  go_loopw [6, 18] (fun out i wr => ∃ k : Nat, k ≤ ks.length ∧ i = .int .i64 k ∧ NoK (ks.take k) nl bk = false ∧ Own wr w1.heap.size 5 .u8 out (outK (ks.take k) app nl bk) ∧ (outK (ks.take k) app nl bk).length ≤ 60 * k ∧ Below w1.heap.size w1 wr) (fun _ i _ => ks.length - (intOf i).toNat)
  case atStart => exact ⟨0, by omega, rfl, rfl, Own.nil _ _ _ _, by simp [outK], Below.refl _ _⟩
  case round =>
    obtain ⟨k, hk, rfl, hno, hown, hol, hbel⟩ := hrel
    have hbw : Below w.heap.size w wr := bl_trans hbw1 hbel
    have hbs := hbel.size
    by_cases hlt : k < ks.length
    · obtain ⟨b, off, rfl, hbl, hc⟩ := RdK.at hcell hlc hlt
      obtain ⟨q0, q1, q2, q3, q4⟩ := (hc.below hbw hbl).cells
      have hnt := noK_take ks nl bk k hlt
      have hnl := noK_le ks nl bk (k + 1)
      rw [hno, Bool.false_or] at hnt
      rw [hnt] at hnl
      have HB := Lib.hid hnt
      have HL := Lib.hid hnl
      have HO := Lib.hid (outK_take ks app nl bk k hlt)
      have hbl2 : b < wr.heap.size := Nat.lt_of_lt_of_le hbl hbw.size
      have hvk1 := hvk _ (List.getElem_mem hlt)
      have hrr := hr _ (List.getElem_mem hlt)
      have hsz := sK_size ks[k] app nl bk hvk1
      have cB := fun W (h : Below wr.heap.size wr W) => bytes_any ks[k].code ks[k].rune ks[k].sh ks[k].al ks[k].ct app nl bk W (ht.below (bl_trans hbw h)) hrr hvk1
      unfold BytesE at cB
      have eI : bytesI ks[k].code ks[k].rune ks[k].sh ks[k].ct nl bk = iK ks[k] nl bk := rfl
      have eS : bytesS ks[k].code ks[k].rune ks[k].sh ks[k].al ks[k].ct app nl bk = sK ks[k] app nl bk := rfl
      rw [eI, eS] at cB
      have hxr : Box wr w.heap.size #[.bool app, .bool nl, .bool bk] 26 := (hbel.block _ hwl).trans hx1
      have hxc := hxr.cell
      have hxl := hxr.lt
      have hltI : (k : Int) < (ks.length : Int) := by omega
      clear hc hcell hnt hnl hno eI eS hvk hvk1 hr hrr
      have hbz := bytesOf_size (sK ks[k] app nl bk)
      have hbz2 : (bytesOf (sK ks[k] app nl bk)).length ≤ 60 := by omega
      clear hbz hsz
      generalize sK ks[k] app nl bk = S at *
      generalize outK (ks.take k) app nl bk = pre at *
      generalize ks[k] = ky at *
      cases hik : iK ky nl bk
      · rw [hik] at HB HL
        simp only [hik, Bool.false_eq_true, if_false] at cB
        have HI := Lib.hid hik
        clear hik
        go_wp2_with (first | (go_at_call 18; (with_reducible refine (cB _ (bl_alloc (Below.refl _ _) _)).mono ?_); rintro e w2 ⟨rfl, hb2⟩))
        go_ret2
        exact .inl ⟨HL.out rfl, rfl, bl_trans (bl_trans hbw (bl_alloc (Below.refl _ _) _)) hb2⟩
      · rw [hik] at HB HL
        simp only [hik, if_true] at cB
        have HI := Lib.hid hik
        clear hik
        go_wp2_with (first | (go_at_call 18; (with_reducible refine (cB _ (bl_alloc (Below.refl _ _) _)).mono ?_); rintro e w2 ⟨v2, rfl, hrd2, hb2⟩; have hbr2 := bl_trans (bl_alloc (Below.refl wr.heap.size wr) _) hb2; have hown2 := hown.kept hbr2; have hs2 := hbr2.size; obtain ⟨p2, n2, c2, hv2⟩ := hrd2.shape; subst hv2) | (at_builtin; refine wpList_app rfl _ _ 44 5 .u8 1 rfl Tryd.underlying44 el8k w1.heap.size _ _ pre (bytesOf S) hown2 hrd2 rfl rfl (by unfold maxLen; omega) (by omega) (by omega) ?_; intro v3 w3 hown3 hb3 hg3))
        go_roundw
        case rel => first | exact ⟨k + 1, by omega, by go_num, HB.out, by (rw [HO.out]; exact hown3), by (rw [HO.out, List.length_append]; omega), (bl_trans hbel hbr2).trans hb3⟩ | ((repeat apply Exists.intro); exact ⟨⟨k + 1, by omega, by go_num, HB.out, by (rw [HO.out]; exact hown3), by (rw [HO.out, List.length_append]; omega), (bl_trans hbel hbr2).trans hb3⟩, rfl⟩)
        case measure => simp [intOf]; omega
    · obtain rfl : k = ks.length := by omega
      rw [List.take_length] at hno hown
      have HN := Lib.hid hno
      have hrd := hown.rd
      clear hno
      go_wp2_with fail
      go_ret2
      exact .inr ⟨HN.out, _, rfl, hrd, hbw⟩

end Go.Proofs.YtofjdjjbgnfngaaDoor
