/- keys: KeysAll returns true for every input. No condition. -/
import Derived.Test.YtofjdjjbgnfngaaDoorQ
import Derived.Test.YtofjdjjbgnfngaaDoorG
import Derived.Test.YtofjdjjbgnfngaaDoorCards
import Derived.Test.YtofjdjjbgnfngaaDoorTie
import Derived.SevenTiedAt
import Derived.Test.YtofjdjjbgnfngaaDoorR
import Derived.Deep.CutBlock
import Derived.Deep.DeepCutAuto
import Derived.Outline
set_option linter.unusedSimpArgs false
set_option linter.unusedVariables false
set_option linter.unnecessarySimpa false
namespace Go.Proofs.YtofjdjjbgnfngaaDoor
open Go.ChangeShapes Go.WideShapes Go.ChangeAt Go.RowKit

theorem spot_none2 {W : World} {a : Addr} {v : Value} (h : W.cell? a = some v) : a.spot = none ∧ a.block < W.heap.size := by
  obtain ⟨_, _, _, _, h2⟩ := World.shape?_of_cell? h
  exact ⟨h2, World.block_lt_of_cell? W _ h⟩
theorem list_of {α : Type} (n : Nat) (P : Nat → α → Prop) (h : ∀ i, i < n → ∃ x, P i x) : ∃ l : List α, l.length = n ∧ ∀ i x, l[i]? = some x → P i x := by
  induction n with
  | zero => exact ⟨[], rfl, fun i x hx => by simp at hx⟩
  | succ n ih =>
    obtain ⟨l, hl, hp⟩ := ih (fun i hi => h i (by omega))
    obtain ⟨x, hx⟩ := h n (by omega)
    refine ⟨l ++ [x], by simp [hl], fun i y hy => ?_⟩
    rcases Nat.lt_or_ge i l.length with h1 | h1
    · rw [List.getElem?_append_left h1] at hy; exact hp i y hy
    · rw [List.getElem?_append_right h1] at hy
      have h2 : i = l.length := by have := (List.getElem?_eq_some_iff.1 hy).1; simp at this; omega
      subst h2
      simp at hy
      subst hy
      rw [hl]; exact hx
theorem key_cells {H : Type} {enc : TypeId × Value → H} {W : World} {base : Nat} {spare : Nat → Bool} {held : Bool} {fuel : Nat} {cs : List Value} {x : DataW H × List MemPlace} (hl : cs.length = 5) (h : DataW.trod enc Tryd.prog W base spare held fuel 24 cs = some x) :
    ∃ k : Ky, cs = k.cs ∧ -2147483648 ≤ k.rune ∧ k.rune ≤ 2147483647 := by
  obtain ⟨c0, c1, c2, c3, c4, rfl⟩ := five hl
  obtain ⟨xs, n, _, _, _, hlen, hg⟩ := DataW.trod_struct Tryd.underlying24 h
  have h0 := hg 0 _ rfl
  have h1 := hg 1 _ rfl
  have h2 := hg 2 _ rfl
  have h3 := hg 3 _ rfl
  have h4 := hg 4 _ rfl
  simp [cellsC, cellsR, cellsB] at h0 h1 h2 h3 h4
  obtain ⟨code, rfl, _⟩ := field_int Tryd.underlying22 h0 (len_some hlen (by decide))
  obtain ⟨rune, rfl, hr⟩ := field_int Tryd.underlying21 h1 (len_some hlen (by decide))
  obtain ⟨sh, rfl⟩ := field_bool Tryd.underlying4 h2 (len_some hlen (by decide))
  obtain ⟨al, rfl⟩ := field_bool Tryd.underlying4 h3 (len_some hlen (by decide))
  obtain ⟨ct, rfl⟩ := field_bool Tryd.underlying4 h4 (len_some hlen (by decide))
  exact ⟨⟨code, rune, sh, al, ct⟩, rfl, wf_i32 hr⟩
/-- A slice of keys that came in. -/
theorem open_keys {H : Type} {enc : TypeId × Value → H} {W : World} {b0 : Nat} {r : Reach} {v : Value} {d : DataW H} {p : List MemPlace} (hv : Value.okWide Tryd.prog W r b0 48 v) (h : DataW.Trod enc Tryd.prog W 0 (fun _ => true) true 48 v d p) :
    ∃ ks, RdK W v ks ∧ ∀ k ∈ ks, -2147483648 ≤ k.rune ∧ k.rune ≤ 2147483647 := by
  obtain ⟨fuel, hf⟩ := h
  obtain ⟨qv, lv, cv, rfl⟩ := okWide_slice Tryd.underlying48 hv
  have hone : (Value.slice qv lv cv).cells.toList = [Value.slice qv lv cv] := rfl
  rw [hone] at hf
  rcases DataW.trod_slice Tryd.underlying48 hf with ⟨h0, _⟩ | ⟨a, len, cap, elems, rest, n, _, h1, _, _, hl, hm, hlen, hel, _, _⟩
  · cases h0
    exact ⟨[], RdK.nil _, fun k hk => by cases hk⟩
  · cases h1
    by_cases h0 : lv = 0
    · subst h0
      have hok : a.spot = none ∧ a.block < W.heap.size := by
        simp only [Value.okWide, Tryd.underlying48, Cell.okWide, Cell.ok] at hv
        obtain ⟨_, _, _, hs, row, cells, hsh, _⟩ := hv
        refine ⟨hs, ?_⟩
        unfold World.shape? at hsh
        split at hsh
        · rename_i h; exact (Array.getElem?_eq_some_iff.1 h).1
        · cases hsh
      obtain ⟨b, off, spot⟩ := a
      obtain ⟨rfl, hlt⟩ := hok
      exact ⟨[], ⟨_, cv, rfl, by simp, hm, .inr ⟨b, off, rfl, hlt, fun i k hk => by simp at hk⟩⟩, fun k hk => by cases hk⟩
    · have each : ∀ i, i < lv → ∃ k : Ky, (-2147483648 ≤ k.rune ∧ k.rune ≤ 2147483647) ∧ ∀ j, j < 5 → W.cell? ((a.add (i * 5)).add j) = k.cs[j]? := by
        intro i hi
        have hi2 : i < elems.length := by omega
        have h2 := hel i hi
        rw [List.getElem?_eq_getElem hi2, cellsK, Option.bind_eq_some_iff] at h2
        obtain ⟨cs, hcs, hy⟩ := h2
        obtain ⟨_, hlen7, hcell⟩ := World.cells?_some hcs
        obtain ⟨k, rfl, hr⟩ := key_cells hlen7 hy
        exact ⟨k, hr, fun j hj => hcell j hj⟩
      obtain ⟨k0, _, h00⟩ := each 0 (by omega)
      have k00 := h00 0 (by omega)
      have e00 : (a.add (0 * 5)).add 0 = a := by simp [Addr.add]
      rw [e00] at k00
      have k01 : W.cell? a = some (.int .i64 k0.code) := k00
      obtain ⟨q1, q2⟩ := spot_none2 k01
      obtain ⟨b, off, spot⟩ := a
      simp only at q1 q2
      subst q1
      obtain ⟨ks, hkl, hks⟩ := list_of lv (fun i (k : Ky) => (-2147483648 ≤ k.rune ∧ k.rune ≤ 2147483647) ∧ ∀ j, j < 5 → W.cell? (((⟨b, off, none⟩ : Addr).add (i * 5)).add j) = k.cs[j]?) each
      refine ⟨ks, ⟨_, cv, by rw [hkl], by omega, hm, .inr ⟨b, off, rfl, q2, fun i k hk j hj => ?_⟩⟩, fun k hk => ?_⟩
      · have := (hks i k hk).2 j hj
        rwa [Addr.add_lit, Addr.add_lit] at this
      · obtain ⟨i, hi⟩ := List.getElem?_of_mem hk
        exact (hks i k hi).1
/-- The bytes that the law wants. -/
def wK (k : Ky) (app nl bk : Bool) : ByteArray := if iK k nl bk = true then sK k app nl bk else ⟨#[]⟩
def WantK (ks : List Ky) (app nl bk : Bool) : ByteArray := ks.foldl (fun s k => s ++ wK k app nl bk) ⟨#[]⟩
theorem want_take (ks : List Ky) (app nl bk : Bool) (k : Nat) (h : k < ks.length) : WantK (ks.take (k + 1)) app nl bk = WantK (ks.take k) app nl bk ++ wK ks[k] app nl bk := by
  unfold WantK
  rw [List.take_succ_eq_append_getElem h, List.foldl_append]; rfl
theorem wK_size (k : Ky) (app nl bk : Bool) (h : vK k = true) : (wK k app nl bk).size ≤ 60 := by
  unfold wK
  split
  · exact sK_size k app nl bk h
  · decide
theorem strOf_out (ks : List Ky) (app nl bk : Bool) (h : NoK ks nl bk = false) : strOfNums (outK ks app nl bk) = WantK ks app nl bk := by
  have key : ∀ (ks : List Ky) (s : ByteArray), NoK ks nl bk = false → ks.foldl (fun s k => s ++ wK k app nl bk) s = s ++ strOfNums (outK ks app nl bk) := by
    intro ks
    induction ks with
    | nil => intro s _; apply ByteArray.ext; simp [outK, strOfNums]
    | cons a ks ih =>
      intro s hn
      unfold NoK at hn
      rw [List.any_cons, Bool.or_eq_false_iff] at hn
      have hi : iK a nl bk = true := by simpa using hn.1
      have e : outK (a :: ks) app nl bk = bytesOf (sK a app nl bk) ++ outK ks app nl bk := rfl
      have e2 : ∀ xs ys : List Int, strOfNums (xs ++ ys) = strOfNums xs ++ strOfNums ys := fun xs ys => by unfold strOfNums; apply ByteArray.ext; simp
      rw [List.foldl_cons, ih _ hn.2, e, e2, strOf_bytesOf, ByteArray.append_assoc]
      unfold wK
      rw [if_pos hi]
  unfold WantK
  rw [key ks _ h]
  apply ByteArray.ext
  simp
def noN (b : Bool) : Int := if b then 9 else 0
def AllL (w : World) (v : Value) (wx : World) : Prop := ∃ ls, RdK wx v ls ∧ ls.length ≤ 1001 ∧ (∀ k ∈ ls, -2147483648 ≤ k.rune ∧ k.rune ≤ 2147483647) ∧ Below w.heap.size w wx
set_option maxHeartbeats 8000000 in
set_option maxRecDepth 100000 in
theorem keysAll_any (v : Value) (ks : List Ky) (app nl bk : Bool) (many : Int) (w : World) (hg : Gl w) (h : RdK w v ks) (hr : ∀ k ∈ ks, -2147483648 ≤ k.rune ∧ k.rune ≤ 2147483647) (hm : -9223372036854775808 ≤ many ∧ many ≤ 9223372036854775807) : Calls Tryd.prog 7 #[.agg #[.bool app, .bool nl, .bool bk], v, .int .i64 many] w fun e w' => e = .returned (.bool true) ∧ Below w.heap.size w w' := by
  have hB0 : Below w.heap.size w (w.alloc (.cells #[.bool app, .bool nl, .bool bk] 26)) := bl_alloc (Below.refl _ _) _
  have h1 := h.below hB0
  obtain ⟨p, cap, rfl, hlc, hcm, hcell⟩ := h1
  unfold maxLen at hcm
  by_cases hlong : 30 < ks.length
  · clear hcell
    go_enter Tryd.func7, Tryd.ntmps7
    go_wp2_with (first | (go_at_call 12; (with_reducible refine (known_any _ (hg.below hB0)).mono ?_); rintro e w1 ⟨rfl, hb1⟩))
    go_ret
    exact ⟨rfl, bl_trans hB0 hb1⟩
  go_enter Tryd.func7, Tryd.ntmps7
  go_upto_region 3 with fail
  have hx0 : Box (w.alloc (.cells #[.bool app, .bool nl, .bool bk] 26)) w.heap.size #[.bool app, .bool nl, .bool bk] 26 := Box.new _ _ _ rfl
  obtain ⟨W0, hW0⟩ : ∃ W0, w.alloc (.cells #[.bool app, .bool nl, .bool bk] 26) = W0 := ⟨_, rfl⟩
  rw [hW0] at hB0 hcell hx0 ⊢
  clear hW0
  have hl0 := hx0.lt
  go_cut [32] (fun t wx => t = .bool (decide ((999 ≤ many ∧ many ≤ 1001) ∧ 0 < ks.length)) ∧ wx = W0)
  case first =>
    have hcs : many < 999 ∨ ((999 ≤ many ∧ many ≤ 1001) ∧ 0 < ks.length) ∨ ((999 ≤ many ∧ many ≤ 1001) ∧ ks.length = 0) ∨ 1001 < many := by omega
    rcases hcs with h1 | ⟨⟨h1, h2⟩, h3⟩ | ⟨⟨h1, h2⟩, h3⟩ | h1
    · have hd : decide ((999 ≤ many ∧ many ≤ 1001) ∧ 0 < ks.length) = false := by (rw [decide_eq_false_iff_not]; omega)
      have HD := Lib.hid hd
      clear hd hcell
      go_wp2_with fail
      go_meet
      exact ⟨by rw [HD.out], rfl⟩
    · have hd : decide ((999 ≤ many ∧ many ≤ 1001) ∧ 0 < ks.length) = true := by (rw [decide_eq_true_eq]; omega)
      have HD := Lib.hid hd
      clear hd hcell
      go_wp2_with fail
      go_meet
      exact ⟨by rw [HD.out], rfl⟩
    · have hd : decide ((999 ≤ many ∧ many ≤ 1001) ∧ 0 < ks.length) = false := by (rw [decide_eq_false_iff_not]; omega)
      have HD := Lib.hid hd
      clear hd hcell
      have h4 : ¬ 0 < ks.length := by omega
      have h5 : ¬ (0 : Int) < (ks.length : Int) := by omega
      clear h3
      go_wp2_with fail
      go_meet
      exact ⟨by rw [HD.out], rfl⟩
    · have hd : decide ((999 ≤ many ∧ many ≤ 1001) ∧ 0 < ks.length) = false := by (rw [decide_eq_false_iff_not]; omega)
      have HD := Lib.hid hd
      clear hd hcell
      have h2 : 999 ≤ many := by omega
      go_wp2_with fail
      go_meet
      exact ⟨by rw [HD.out], rfl⟩
  case rest =>
  obtain ⟨rfl, rfl⟩ := hcut
  obtain ⟨cc, hcc⟩ : ∃ cc, decide ((999 ≤ many ∧ many ≤ 1001) ∧ 0 < ks.length) = cc := ⟨_, rfl⟩
  rw [hcc]
  have HCC := Lib.hid hcc
  clear hcc
  obtain ⟨W0, hW0⟩ : ∃ W0 : World, W0 = wc := ⟨_, rfl⟩
  subst hW0
  go_upto_if 32 with fail
  go_cut [1] (fun v wx => AllL W0 v wx)
  case first =>
    cases cc
    case true =>
      obtain ⟨⟨hm1, hm2⟩, hpos⟩ := of_decide_eq_true HCC.out
      obtain ⟨b, off, rfl, hbl, hat⟩ := RdK.at hcell hlc hpos
      obtain ⟨q0, q1, q2, q3, q4⟩ := hat.cells
      rw [Nat.zero_mul, Nat.add_zero] at q0 q1 q2 q3 q4
      have hr0 := hr _ (List.getElem_mem hpos)
      clear hat hcell
      generalize ks[0] = k at *
      go_wp2_with fail
      have hk0 : Box (W0.alloc (.cells #[.int .i64 k.code, .int .i32 k.rune, .bool k.sh, .bool k.al, .bool k.ct] 24)) W0.heap.size #[.int .i64 k.code, .int .i32 k.rune, .bool k.sh, .bool k.al, .bool k.ct] 24 := Box.new _ _ _ rfl
      obtain ⟨W1, hW1⟩ : ∃ W1, W0.alloc (.cells #[.int .i64 k.code, .int .i32 k.rune, .bool k.sh, .bool k.al, .bool k.ct] 24) = W1 := ⟨_, rfl⟩
      have hB1 : Below W0.heap.size W0 W1 := by rw [← hW1]; exact bl_alloc (Below.refl _ _) _
      rw [hW1] at hk0 ⊢
      clear hW1
      go_loopw [1, 8] (fun v i wr => ∃ n : Nat, (n : Int) ≤ many ∧ i = .int .i64 n ∧ OwnK wr W1.heap.size v (List.replicate n k) ∧ Below W1.heap.size W1 wr) (fun _ i _ => (many - intOf i).toNat)
      case atStart => exact ⟨0, by omega, rfl, OwnK.nil _ _, Below.refl _ _⟩
      case round =>
        obtain ⟨n, hn, rfl, hown, hbel⟩ := hrel
        have hbs := hbel.size
        by_cases hlt : (n : Int) < many
        · have hkr : Box wr W0.heap.size _ _ := (hbel.block _ hk0.lt).trans hk0
          have hkc := hkr.cell
          have hkl := hkr.lt
          have HR : Hid (List.replicate (n + 1) k = List.replicate n k ++ [k]) := Lib.hid (by rw [List.replicate_succ'])
          go_wp2_with (first | (at_builtin; refine wpList_appK rfl _ _ rfl W1.heap.size _ _ (List.replicate n k) [k] (hown.kept (bl_alloc (Below.refl _ _) _)) (RdK.lit wr k _ rfl) rfl rfl (by simp; omega) (by simp; omega) ?_; intro v3 w3 hown3 hb3 hg3))
          go_roundw
          case rel => first | exact ⟨n + 1, by omega, by go_num, by (rw [HR.out]; exact hown3), hbel.trans ((Below.alloc (Below.refl _ _) (by omega) _).trans hb3)⟩ | ((repeat apply Exists.intro); exact ⟨⟨n + 1, by omega, by go_num, by (rw [HR.out]; exact hown3), hbel.trans ((Below.alloc (Below.refl _ _) (by omega) _).trans hb3)⟩, rfl⟩)
          case measure => simp [intOf]; omega
        · have hn2 : (n : Int) = many := by omega
          go_wp2_with fail
          go_meet
          exact ⟨_, hown.rd, by simp; omega, fun x hx => by rw [List.eq_of_mem_replicate hx]; exact hr0, bl_trans hB1 hbel⟩
    case false =>
      have hrd : RdK W0 (.slice p ks.length cap) ks := ⟨p, cap, rfl, hlc, by unfold maxLen; exact hcm, hcell⟩
      clear hcell
      go_wp2_with fail
      go_meet
      exact ⟨ks, hrd, by omega, hr, Below.refl _ _⟩
  case rest =>
  obtain ⟨ls, hrd, hll, hrl, hbc⟩ := hcut
  have hbW : Below w.heap.size w wc := bl_trans hB0 hbc
  have hxi : Box wc w.heap.size #[.bool app, .bool nl, .bool bk] 26 := (hbc.block _ hl0).trans hx0
  have hxil := hxi.lt
  obtain ⟨p1, c1, hv1, hlc1, hcm1, hcell1⟩ := hrd
  subst hv1
  have hrd : RdK wc (.slice p1 ls.length c1) ls := ⟨p1, c1, rfl, hlc1, hcm1, hcell1⟩
  have hxic := hxi.cell
  clear hcell HCC hx0
  unfold maxLen at hcm1
  go_upto_region 11 with (first | (at_builtin; refine wpList_appK rfl (.const (.slice none 0 0)) (.tmp 45) rfl wc.heap.size _ _ [] ls (OwnK.nil _ _) hrd rfl rfl (by simp; omega) (Nat.le_refl _) ?_; intro v2 w2 hown2 hb2 hg2; rw [List.nil_append] at hown2; have hrd2 := hown2.rd; obtain ⟨p2, c2, hv2, hlc2, hcm2, hcell2⟩ := hrd2; subst hv2; have hrd2 : RdK w2 (.slice p2 ls.length c2) ls := ⟨p2, c2, rfl, hlc2, hcm2, hcell2⟩; clear hown2 hg2))
  have hbw2 : Below w.heap.size w w2 := bl_trans hbW hb2
  have hxi2 : Box w2 w.heap.size #[.bool app, .bool nl, .bool bk] 26 := (hb2.block _ hxil).trans hxi
  have hx2c := hxi2.cell
  have hx2l := hxi2.lt
  have hA : ∃ (n : Int) (bs : List Int), (∀ W, Below w2.heap.size w2 W → Calls Tryd.prog 19 #[.agg #[.bool app, .bool nl, .bool bk], .slice p2 ls.length c2] W fun e w' => ∃ b, e = .returned (.tuple #[b, .int .i64 n]) ∧ Rd w' .u8 b bs ∧ Below W.heap.size W w') ∧
      ((1000 < ls.length ∧ n = 5 ∧ bs = []) ∨ (ls.length ≤ 1000 ∧ BadK ls = true ∧ n = 2 ∧ bs = []) ∨ (ls.length ≤ 1000 ∧ BadK ls = false ∧ NoK ls nl bk = true ∧ n = 9 ∧ bs = []) ∨ (ls.length ≤ 1000 ∧ BadK ls = false ∧ NoK ls nl bk = false ∧ n = 0 ∧ bs = outK ls app nl bk)) := by
    by_cases h1 : 1000 < ls.length
    · exact ⟨5, [], fun W hW => (all_long _ ls app nl bk W (hrd2.below hW) h1).mono fun e w' ⟨he, hb⟩ => ⟨_, he, Rd.nil _ _, hb⟩, .inl ⟨h1, rfl, rfl⟩⟩
    · cases h2 : BadK ls
      · have hok := fun W (hW : Below w2.heap.size w2 W) => all_ok _ ls app nl bk W (hg.t.below (bl_trans hbw2 hW)) (hrd2.below hW) hrl (by omega) h2
        cases h3 : NoK ls nl bk
        · refine ⟨0, outK ls app nl bk, fun W hW => (hok W hW).mono fun e w' he => ?_, .inr (.inr (.inr ⟨by omega, rfl, rfl, rfl, rfl⟩))⟩
          rcases he with ⟨h, _⟩ | ⟨_, h⟩
          · rw [h3] at h; cases h
          · exact h
        · refine ⟨9, [], fun W hW => (hok W hW).mono fun e w' he => ?_, .inr (.inr (.inl ⟨by omega, rfl, rfl, rfl, rfl⟩))⟩
          rcases he with ⟨_, h, hb⟩ | ⟨h, _⟩
          · exact ⟨_, h, Rd.nil _ _, hb⟩
          · rw [h3] at h; cases h
      · exact ⟨2, [], fun W hW => (all_bad _ ls app nl bk W (hrd2.below hW) (by omega) h2).mono fun e w' ⟨he, hb⟩ => ⟨_, he, Rd.nil _ _, hb⟩, .inr (.inl ⟨by omega, rfl, rfl, rfl⟩)⟩
  obtain ⟨n, bs, cA, hA⟩ := hA
  have HA := Lib.hid hA
  clear hA
  go_wp2_with (first | (go_at_call 19; (with_reducible refine (cA _ (Below.refl _ _)).mono ?_); rintro e w3 ⟨b3, rfl, hrd3, hb3⟩; obtain ⟨pb, cb, hvb, hqb⟩ := hrd3; subst hvb; have hrd3 : Rd w3 .u8 (.slice pb bs.length cb) bs := ⟨pb, cb, rfl, hqb⟩; clear hqb))
  have hbw3 : Below w.heap.size w w3 := bl_trans hbw2 hb3
  have hxi3 : Box w3 w.heap.size #[.bool app, .bool nl, .bool bk] 26 := (hb3.block _ hx2l).trans hxi2
  have hx3l := hxi3.lt
  have hbc3 : Below wc.heap.size wc w3 := bl_trans hb2 hb3
  clear hx2c hxic cA
  go_loopw [12] (fun i wr => ∃ k : Nat, k ≤ ls.length ∧ i = .int .i64 k ∧ Below w3.heap.size w3 wr) (fun i _ => ls.length - (intOf i).toNat)
  case atStart => exact ⟨0, by omega, rfl, Below.refl _ _⟩
  case round =>
    obtain ⟨k, hk, rfl, hbel⟩ := hrel
    by_cases hlt : k < ls.length
    · obtain ⟨b, off, rfl, hbl, hat⟩ := RdK.at hcell1 hlc1 hlt
      obtain ⟨b', off', rfl, hbl', hat'⟩ := RdK.at hcell2 hlc2 hlt
      obtain ⟨q0, q1, q2, q3, q4⟩ := (hat.below (bl_trans hbc3 hbel) hbl).cells
      obtain ⟨z0, z1, z2, z3, z4⟩ := (hat'.below (bl_trans hb3 hbel) hbl').cells
      have hwb : b < wr.heap.size := Nat.lt_of_lt_of_le hbl (bl_trans hbc3 hbel).size
      have hwb' : b' < wr.heap.size := Nat.lt_of_lt_of_le hbl' (bl_trans hb3 hbel).size
      have hltI : (k : Int) < (ls.length : Int) := by omega
      clear hat hat' hcell1 hcell2
      generalize ls[k] = ky at *
      go_upto_region 15 with fail
      first | refine wp_grow2 (by kernel_rfl) (by kernel_rfl) ?_ | refine wp_grow (by kernel_rfl) (by kernel_rfl) ?_
      repeat (go_big_quiet_step (fail))
      refine wpQuiet_nil ?_
      rintro _ ⟨X, rfl⟩
      go_wp2_with fail
      go_roundw
      case rel => first | exact ⟨k + 1, by omega, by go_num, bl_trans hbel (GW.grow X)⟩ | ((repeat apply Exists.intro); exact ⟨⟨k + 1, by omega, by go_num, bl_trans hbel (GW.grow X)⟩, rfl⟩)
      case measure => simp [intOf]; omega
    · obtain rfl : k = ls.length := by omega
      obtain ⟨w4, hw4⟩ : ∃ w4 : World, w4 = wr := ⟨_, rfl⟩
      subst hw4
      have hbw4 : Below w.heap.size w w4 := bl_trans hbw3 hbel
      have hrd4 := hrd3.below hbel
      have hxi4 : Box w4 w.heap.size #[.bool app, .bool nl, .bool bk] 26 := (hbel.block _ hx3l).trans hxi3
      have cK := known_any w4 (hg.below hbw4)
      by_cases hlong2 : 1000 < ls.length
      · have hn5 : n = 5 ∧ bs = [] := by
          rcases HA.out with h | h | h | h
          · exact h.2
          all_goals exact absurd hlong2 (by omega)
        obtain ⟨rfl, rfl⟩ := hn5
        rw [show ([] : List Int).length = 0 from rfl]
        clear hcell1 hcell2 hrd3 hrd4
        go_wp2_with (first | (go_at_call 12; (with_reducible refine (cK).mono ?_); rintro e w5 ⟨rfl, hb5⟩))
        go_ret
        exact ⟨rfl, bl_trans hbw4 hb5⟩
      · have hx4c := hxi4.cell
        have hx4l := hxi4.lt
        go_wp2_with fail
        go_loopw [13, 14, 15] (fun want no i wr => ∃ k : Nat, k ≤ ls.length ∧ i = .int .i64 k ∧ want = .string (WantK (ls.take k) app nl bk) ∧ no = .int .i64 (noN (NoK (ls.take k) nl bk)) ∧ BadK (ls.take k) = false ∧ (WantK (ls.take k) app nl bk).size ≤ 60 * k ∧ Below w4.heap.size w4 wr) (fun _ _ i _ => ls.length - (intOf i).toNat)
        case atStart => exact ⟨0, by omega, rfl, rfl, rfl, rfl, Nat.le_refl _, Below.refl _ _⟩
        case round =>
          obtain ⟨k, hk, rfl, rfl, rfl, hbad, hws, hbel5⟩ := hrel
          have hbw5 : Below w.heap.size w wr := bl_trans hbw4 hbel5
          have hbc5 : Below wc.heap.size wc wr := bl_trans hbc3 (bl_trans hbel hbel5)
          have hxi5 : Box wr w.heap.size #[.bool app, .bool nl, .bool bk] 26 := (hbel5.block _ hx4l).trans hxi4
          have hx5c := hxi5.cell
          have hx5l := hxi5.lt
          by_cases hlt : k < ls.length
          · obtain ⟨b, off, rfl, hbl, hat⟩ := RdK.at hcell1 hlc1 hlt
            obtain ⟨q0, q1, q2, q3, q4⟩ := (hat.below hbc5 hbl).cells
            have hwb : b < wr.heap.size := Nat.lt_of_lt_of_le hbl hbc5.size
            have hltI : (k : Int) < (ls.length : Int) := by omega
            have hbt := badK_take ls k hlt
            have hbl2 := badK_le ls (k + 1)
            rw [hbad, Bool.false_or] at hbt
            rw [hbt] at hbl2
            have HBT := Lib.hid hbt
            have HBL := Lib.hid hbl2
            have HNT := Lib.hid (noK_take ls nl bk k hlt)
            have HWT := Lib.hid (want_take ls app nl bk k hlt)
            have cV := fun W => rvalid_any ls[k].code ls[k].rune ls[k].sh ls[k].al ls[k].ct W
            have hws2 := Lib.hid (wK_size ls[k] app nl bk)
            have cb := fun W (hv : validK ls[k].code ls[k].rune = true) => rbytes_any ls[k].code ls[k].rune ls[k].sh ls[k].al ls[k].ct app nl bk W hv
            unfold RBytesE at cb
            have eI : bytesI ls[k].code ls[k].rune ls[k].sh ls[k].ct nl bk = iK ls[k] nl bk := rfl
            have eS : (if iK ls[k] nl bk = true then bytesS ls[k].code ls[k].rune ls[k].sh ls[k].al ls[k].ct app nl bk else ⟨#[]⟩) = wK ls[k] app nl bk := rfl
            rw [eI, eS] at cb
            have eV : validK ls[k].code ls[k].rune = vK ls[k] := rfl
            rw [eV] at cV cb
            clear hat hcell1 hcell2 hbt hbl2 hbad eI eS eV hrd hrd2
            generalize WantK (ls.take k) app nl bk = want at *
            generalize NoK (ls.take k) nl bk = nok at *
            generalize wK ls[k] app nl bk = S at *
            generalize iK ls[k] nl bk = ik at *
            generalize hvk : vK ls[k] = vk at *
            generalize ls[k] = ky at *
            cases vk
            · have hn2 : n = 2 ∧ bs = [] := by
                have hb := HBL.out rfl
                rcases HA.out with h | h | h | h
                · exact absurd h.1 (by omega)
                · exact h.2.2
                · rw [h.2.1] at hb; cases hb
                · rw [h.2.1] at hb; cases hb
              obtain ⟨rfl, rfl⟩ := hn2
              rw [show ([] : List Int).length = 0 from rfl]
              clear cb hrd3 hrd4 hvk
              have hG : Gl wr := hg.below hbw5
              go_wp2_with (first | (go_at_call 9; (with_reducible refine (cV _).mono ?_); rintro e w5 ⟨rfl, hb5⟩; have cK5 := known_any w5 (hg.below (bl_trans (hbw5) hb5))) | (go_at_call 12; (with_reducible refine (cK5).mono ?_); rintro e w6 ⟨rfl, hb6⟩))
              go_ret
              exact ⟨rfl, bl_trans (bl_trans hbw5 hb5) hb6⟩
            · have cb2 := fun W => cb W rfl
              clear cb
              have hS := hws2.out rfl
              have hSs : (want ++ S).size ≤ 60 * (k + 1) := by (rw [ByteArray.size_append]; omega)
              have HSs := Lib.hid hSs
              clear hvk hSs
              go_upto_region 25 with (first | (go_at_call 9; (with_reducible refine (cV _).mono ?_); rintro e w5 ⟨rfl, hb5⟩; have hxi6 : Box w5 w.heap.size #[.bool app, .bool nl, .bool bk] 26 := (hb5.block _ hx5l).trans hxi5; have hx6c := hxi6.cell; have hx6l := hxi6.lt; have r0 := (hb5.cell (p := ⟨b, off + k * 5, none⟩) hwb).trans q0; have r1 := (hb5.cell (p := ⟨b, off + k * 5 + 1, none⟩) hwb).trans q1; have r2 := (hb5.cell (p := ⟨b, off + k * 5 + 2, none⟩) hwb).trans q2; have r3 := (hb5.cell (p := ⟨b, off + k * 5 + 3, none⟩) hwb).trans q3; have r4 := (hb5.cell (p := ⟨b, off + k * 5 + 4, none⟩) hwb).trans q4; have hwb5 : b < w5.heap.size := Nat.lt_of_lt_of_le hwb hb5.size))
              first | refine wp_grow2 (by kernel_rfl) (by kernel_rfl) ?_ | refine wp_grow (by kernel_rfl) (by kernel_rfl) ?_
              repeat (go_big_quiet_step ((go_at_call 13; with_reducible exact GW.call (cb2 _))))
              refine wpQuiet_nil ?_
              rintro _ ⟨X, rfl⟩
              cases ik
              all_goals
                go_wp2_with fail
                go_roundw
                case rel => first | exact ⟨k + 1, by omega, by go_num, by rw [HWT.out], by (rw [HNT.out]; cases nok <;> rfl), HBT.out, by (rw [HWT.out]; exact HSs.out), bl_trans hbel5 (bl_trans hb5 (GW.grow X))⟩ | ((repeat apply Exists.intro); exact ⟨⟨k + 1, by omega, by go_num, by rw [HWT.out], by (rw [HNT.out]; cases nok <;> rfl), HBT.out, by (rw [HWT.out]; exact HSs.out), bl_trans hbel5 (bl_trans hb5 (GW.grow X))⟩, rfl⟩)
                case measure => simp [intOf]; omega
          · obtain rfl : k = ls.length := by omega
            rw [List.take_length] at hbad hws ⊢
            have hrd5 := hrd4.below hbel5
            have cK5 := known_any wr (hg.below hbw5)
            have hcs : (NoK ls nl bk = true ∧ n = 9 ∧ bs = []) ∨ (NoK ls nl bk = false ∧ n = 0 ∧ bs = outK ls app nl bk) := by
              rcases HA.out with h | h | h | h
              · exact absurd h.1 (by omega)
              · rw [hbad] at h; exact absurd h.2.1 (by decide)
              · exact .inl h.2.2
              · exact .inr h.2.2
            have hso := strOf_out ls app nl bk
            clear hcell1 hcell2 hrd hrd2 hrd3 hrd4 hbad HA
            rcases hcs with ⟨h1, rfl, rfl⟩ | ⟨h1, rfl, rfl⟩
            · rw [h1]
              rw [show ([] : List Int).length = 0 from rfl, show noN true = 9 from rfl]
              clear h1 hso hrd5
              go_wp2_with (first | (go_at_call 12; (with_reducible refine (cK5).mono ?_); rintro e w6 ⟨rfl, hb6⟩))
              go_ret
              exact ⟨rfl, bl_trans hbw5 hb6⟩
            · have kc := run_str (P := Tryd.prog) 44 9 5 Tryd.underlying44 Tryd.underlying5 Tryd.underlying9 hrd5
              rw [hso h1] at kc
              rw [h1, show noN false = 0 from rfl]
              clear h1 hso hrd5
              generalize WantK ls app nl bk = want at *
              go_wp2_with (first | (go_at_call 12; (with_reducible refine (cK5).mono ?_); rintro e w6 ⟨rfl, hb6⟩))
              go_ret
              exact ⟨rfl, bl_trans hbw5 hb6⟩

set_option maxRecDepth 100000 in
theorem keysAll_lifted (os : Os) (started : os.Started) (H : Type) (enc : TypeId × Value → H) :
    ReturnsInHanded {} Tryd.checked os 7 .any (fun w args => (Rows.keysAllSpec.pre enc Tryd.prog Tryd.f7 [] false w args ∧ laidMetH Tryd.prog laid5 w) ∧ sizedMet enc Tryd.prog Tryd.f7 (OpenSpec.ofChange Rows.keysAllSpec) false w args)
      (Rows.keysAllSpec.post enc Tryd.prog Tryd.f7 false true false false) := by
  refine returnsInHanded_of_change_and (C := Tryd.checked) (X := fun w _ => laidMetH Tryd.prog laid5 w) (fun _ _ _ hh h => h.of_heap hh) Tryd.own started (by kernel_rfl) Tryd.func7
    (ChangeSpec.witness_shaped (enc := enc) (C := Tryd.checked) (os := os) (X := fun w _ => laidMetH Tryd.prog laid5 w) false (World.laidAll Tryd.prog os laid5) #[.agg #[.bool false, .bool false, .bool false], .slice none 0 0, .int .i64 0] 8 (World.laidAll_os _ _ _) (World.shaped_of_ZipB (by kernel_rfl) (by kernel_rfl)) (by kernel_rfl) (by kernel_rfl) (by kernel_rfl) (door_met os _)) ?_
  intro W base args ds gs before hval0 hW _ _ hL _
  have hval : ∀ (j : Nat) t v, Tryd.f7.params[j]? = some t → args[j]? = some v → Value.okWide Tryd.prog W .any base t v := hval0
  have hW' := hW
  obtain ⟨p, q, hA0, hV, rfl, hfz, hnd⟩ := hW
  have hA : DataW.TrodAll enc Tryd.prog W 0 (fun _ => true) true Tryd.f7.params.toList args.toList ds p := hA0
  rw [Tryd.params7] at hA hval
  obtain ⟨v0, v1, v2, d0, d1, d2, p0, p1, p2, rfl, rfl, rfl, h0, h1, h2⟩ := trodAll_three hA
  obtain ⟨rfl, rfl⟩ := trodVars_none hV
  obtain ⟨app, nl, bk, rfl⟩ := open_input (hval 0 26 v0 rfl rfl) h0
  obtain ⟨ks, hks, hkr⟩ := open_keys (hval 1 48 v1 rfl rfl) h1
  obtain ⟨many, rfl, hmn⟩ := open_num Tryd.underlying3 (hval 2 3 v2 rfl rfl) h2
  clear hA0 hval0
  have hT := gl_of_laid hL
  refine (keysAll_any _ ks app nl bk many W hT hks hkr (wf_i64 hmn)).mono fun e W' ⟨he, hw⟩ => ?_
  exact ⟨_, he, post_law Tryd.laidOut rfl hW' (by kernel_rfl) rfl Tryd.underlying4 rfl hw⟩

theorem keysAll_row : Rows.KeysAllSaid :=
  OpenClaim.holds_of_wide 7 Tryd.f7 rfl rfl rfl rfl rfl rfl rfl ⟨rfl, rfl, rfl, rfl, rfl⟩ rfl rfl rfl rfl rfl (by kernel_rfl) Tryd.func7 (by kernel_rfl)
    (of_decide_eq_true (by kernel_rfl)) (by unfold Func.isWrapper; first | (rw [if_pos (by decide +kernel)]; kernel_rfl) | (rw [if_neg (by decide +kernel)]; exact ⟨rfl, rfl⟩))
    (fun os started H enc _ => keysAll_lifted os started H enc)

set_option maxHeartbeats 8000000 in
set_option maxRecDepth 100000 in
/-- THE TIED CARD. -/
theorem keysAll_holds : Rows.KeysAllCardSaid :=
  Claim7.holds_tied_plain_at .later [] [.data, .data, .data, .data, .pinned] true (true, "890afae7ed2c885f344a8cf78685aad67095242f2643ec5516ae53b0677103bb") false
    keysAll_row (fun _ h => by cases h) (by kernel_rfl) (fun _ h => by cases h) keysAll_row_tie rfl ⟨rfl, rfl⟩ (by kernel_rfl) rfl
    (fun f fn hf hfn => by
      obtain rfl : f = 7 := Option.some.inj ((show Tryd.prog.funcNamed "scrollback/scrollbacklaw49.KeysAll" = some 7 by kernel_rfl).symm.trans hf) |>.symm
      obtain rfl : fn = Tryd.f7 := (Option.some.inj (Tryd.func7.symm.trans hfn)).symm
      exact ⟨by kernel_rfl, fun j t ht => by
        rw [Tryd.params7] at ht
        have hm : t ∈ [26, 48, 3] := by simpa using Array.mem_of_getElem? ht
        have hall : ([26, 48, 3].all fun u => !Tryd.prog.wantsStandIn u) = true := by kernel_rfl
        exact (show Tryd.prog.wantsStandIn t = false by simpa using List.all_eq_true.1 hall t hm)⟩)
    (by kernel_rfl)

end Go.Proofs.YtofjdjjbgnfngaaDoor
