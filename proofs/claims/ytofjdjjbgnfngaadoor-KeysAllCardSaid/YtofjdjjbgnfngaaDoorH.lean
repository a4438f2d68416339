/- keys: the key with a name. -/
import Derived.Test.YtofjdjjbgnfngaaDoorE
import Derived.Lib.TrimU
import Derived.Outline
set_option linter.unusedSimpArgs false
set_option linter.unusedVariables false
set_option linter.unnecessarySimpa false
namespace Go.Proofs.YtofjdjjbgnfngaaDoor
open Go.RowKit

def cutP (s p : ByteArray) : ByteArray := ⟨(Lib.trimPrefix s.data.toList p.data.toList).toArray⟩
def hasP (s p : ByteArray) : Bool := Lib.hasPrefix s.data.toList p.data.toList
def restN (s : ByteArray) : Nat → ByteArray
  | 0 => s
  | 1 => cutP s ⟨#[67, 45]⟩
  | 2 => cutP (cutP s ⟨#[67, 45]⟩) ⟨#[65, 45]⟩
  | _ => cutP (cutP (cutP s ⟨#[67, 45]⟩) ⟨#[65, 45]⟩) ⟨#[83, 45]⟩
def flagN (s : ByteArray) (j : Nat) : Bool := if j = 0 then hasP s ⟨#[67, 45]⟩ else if j = 1 then hasP (cutP s ⟨#[67, 45]⟩) ⟨#[65, 45]⟩ else hasP (cutP (cutP s ⟨#[67, 45]⟩) ⟨#[65, 45]⟩) ⟨#[83, 45]⟩
theorem cut_any (s p : ByteArray) (w : World) : Calls Tryd.prog 23 #[.string s, .string p] w fun e w' => e = .returned (.tuple #[.string (cutP s p), .bool (hasP s p)]) ∧ w' = w := Tryd.strings_CutPrefix s p w
/-- The library's tables, as they are laid. -/
structure Gl (w : World) : Prop where
  t : Tab w
  u : Lib.Utf8Tabs 0 1 w
def keyCode (s : ByteArray) : Int := let i := Lib.idxOfS nameL (restN s 3); if 0 ≤ i then 2 + i else 1
def keyRune (s : ByteArray) : Int := if 0 ≤ Lib.idxOfS nameL (restN s 3) then (0 : Int) else if restN s 3 = ⟨#[83, 112, 97, 99, 101]⟩ then (32 : Int) else (((Lib.decodeGo (restN s 3)).1 : Nat) : Int)
theorem idx_range (zs : List ByteArray) (x : ByteArray) (i : Nat) : -1 ≤ Lib.idxFromS zs x i ∧ Lib.idxFromS zs x i < i + zs.length := by
  induction zs generalizing i with
  | nil => simp [Lib.idxFromS]; omega
  | cons z zs ih =>
    unfold Lib.idxFromS
    split
    · simp; omega
    · have := ih (i + 1)
      simp at *
      omega
def byOk (s : ByteArray) : Bool := validK (keyCode s) (keyRune s) && decide (nameS (keyCode s) (keyRune s) (flagN s 2) (flagN s 1) (flagN s 0) = s)
def gN (s : ByteArray) (i j : Nat) : Bool := if i < j then flagN s i else false
def ByE (s : ByteArray) (w : World) (e : Ending) (w' : World) : Prop := e = .returned (.tuple #[.agg (if byOk s = true then #[.int .i64 (keyCode s), .int .i32 (keyRune s), .bool (flagN s 2), .bool (flagN s 1), .bool (flagN s 0)] else #[.int .i64 0, .int .i32 0, .bool false, .bool false, .bool false]), .int .i64 (if byOk s = true then 0 else 6)]) ∧ Below w.heap.size w w'
theorem Gl.below {w w' : World} (h : Gl w) (hb : Below w.heap.size w w') : Gl w' := ⟨h.t.below hb, fun c hc => by
    rw [hb.cell (p := ⟨0, c, none⟩) (World.block_lt_of_cell? w _ (h.u.1 c hc))]
    exact h.u.1 c hc, fun i hi => by
    have h1 := h.u.2 i hi
    exact ⟨by rw [hb.cell (p := ⟨1, 2 * i, none⟩) (World.block_lt_of_cell? w _ h1.1)]; exact h1.1, by rw [hb.cell (p := ⟨1, 2 * i + 1, none⟩) (World.block_lt_of_cell? w _ h1.2)]; exact h1.2⟩⟩
theorem dec_range (s : ByteArray) : (Lib.decodeGo s).1 ≤ 1114111 := by
  unfold Lib.decodeGo
  split
  · decide
  · have := Lib.decodeL_rune s.data.toList
    unfold Lib.decodeL at this
    exact this
theorem beq_toList (a b : ByteArray) (h : a ≠ b) : (a.toList == b.toList) = false := by
  rw [beq_eq_false_iff_ne]
  intro e
  rw [ByteArray.toList_eq, ByteArray.toList_eq] at e
  exact h (ByteArray.ext (Array.toList_inj.1 e))
set_option maxHeartbeats 8000000 in
set_option maxRecDepth 100000 in
theorem byName_any (s : ByteArray) (w : World) (hg : Gl w) (hsz : s.size ≤ 1000) : Calls Tryd.prog 16 #[.string s] w (ByE s w) := by
  go_enter Tryd.func16, Tryd.ntmps16
  go_wp2_with fail
  have xr0 : Box (((w.alloc (.cells #[.int .i64 0, .int .i32 0, .bool false, .bool false, .bool false] 24)).alloc (.cells #[.int .i64 0, .int .i32 0, .bool false, .bool false, .bool false] 24)).alloc (.cells #[.pointer (some ⟨w.heap.size + 1, 4, none⟩), .pointer (some ⟨w.heap.size + 1, 3, none⟩), .pointer (some ⟨w.heap.size + 1, 2, none⟩)] 55)) w.heap.size #[.int .i64 0, .int .i32 0, .bool false, .bool false, .bool false] 24 := Box.alloc (Box.alloc (Box.new _ _ _ rfl) _) _
  have xk0 : Box (((w.alloc (.cells #[.int .i64 0, .int .i32 0, .bool false, .bool false, .bool false] 24)).alloc (.cells #[.int .i64 0, .int .i32 0, .bool false, .bool false, .bool false] 24)).alloc (.cells #[.pointer (some ⟨w.heap.size + 1, 4, none⟩), .pointer (some ⟨w.heap.size + 1, 3, none⟩), .pointer (some ⟨w.heap.size + 1, 2, none⟩)] 55)) (w.heap.size + 1) #[.int .i64 0, .int .i32 0, .bool (gN s 2 0), .bool (gN s 1 0), .bool (gN s 0 0)] 24 := Box.alloc (Box.new _ _ _ (by simp)) _
  have xp0 : Box (((w.alloc (.cells #[.int .i64 0, .int .i32 0, .bool false, .bool false, .bool false] 24)).alloc (.cells #[.int .i64 0, .int .i32 0, .bool false, .bool false, .bool false] 24)).alloc (.cells #[.pointer (some ⟨w.heap.size + 1, 4, none⟩), .pointer (some ⟨w.heap.size + 1, 3, none⟩), .pointer (some ⟨w.heap.size + 1, 2, none⟩)] 55)) (w.heap.size + 1 + 1) #[.pointer (some ⟨w.heap.size + 1, 4, none⟩), .pointer (some ⟨w.heap.size + 1, 3, none⟩), .pointer (some ⟨w.heap.size + 1, 2, none⟩)] 55 := Box.new _ _ _ (by simp)
  have hb0 : Below w.heap.size w (((w.alloc (.cells #[.int .i64 0, .int .i32 0, .bool false, .bool false, .bool false] 24)).alloc (.cells #[.int .i64 0, .int .i32 0, .bool false, .bool false, .bool false] 24)).alloc (.cells #[.pointer (some ⟨w.heap.size + 1, 4, none⟩), .pointer (some ⟨w.heap.size + 1, 3, none⟩), .pointer (some ⟨w.heap.size + 1, 2, none⟩)] 55)) := bl_alloc (bl_alloc (bl_alloc (Below.refl _ _) _) _) _
  generalize ((w.alloc (.cells #[.int .i64 0, .int .i32 0, .bool false, .bool false, .bool false] 24)).alloc (.cells #[.int .i64 0, .int .i32 0, .bool false, .bool false, .bool false] 24)).alloc (.cells #[.pointer (some ⟨w.heap.size + 1, 4, none⟩), .pointer (some ⟨w.heap.size + 1, 3, none⟩), .pointer (some ⟨w.heap.size + 1, 2, none⟩)] 55) = W0 at *
  obtain ⟨br, hbr⟩ : ∃ br, w.heap.size = br := ⟨_, rfl⟩
  obtain ⟨bk, hbk⟩ : ∃ bk, w.heap.size + 1 = bk := ⟨_, rfl⟩
  obtain ⟨bp, hbp⟩ : ∃ bp, w.heap.size + 1 + 1 = bp := ⟨_, rfl⟩
  have h1 : br ≠ bk := by omega
  have h2 : bp ≠ bk := by omega
  have h3 : br ≠ bp := by omega
  have h4 : w.heap.size ≤ br := by omega
  have h5 : w.heap.size ≤ bk := by omega
  rw [hbp] at xp0 ⊢
  rw [hbk] at xk0 xp0 ⊢
  have HBR := Lib.hid hbr
  rw [show Value.pointer (some ⟨w.heap.size, 0, none⟩) = Value.pointer (some ⟨br, 0, none⟩) by rw [HBR.out]]
  rw [hbr] at xr0
  clear hbr hbk hbp
  go_loopw [5, 17] (fun rv iv wr => ∃ j : Nat, j ≤ 3 ∧ iv = .int .i64 j ∧ rv = .string (restN s j) ∧ Box wr bk #[.int .i64 0, .int .i32 0, .bool (gN s 2 j), .bool (gN s 1 j), .bool (gN s 0 j)] 24 ∧ Box wr bp #[.pointer (some ⟨bk, 4, none⟩), .pointer (some ⟨bk, 3, none⟩), .pointer (some ⟨bk, 2, none⟩)] 55 ∧ Box wr br #[.int .i64 0, .int .i32 0, .bool false, .bool false, .bool false] 24 ∧ Below w.heap.size w wr) (fun _ iv _ => 3 - (intOf iv).toNat)
  case atStart => exact ⟨0, by omega, rfl, rfl, xk0, xp0, xr0, hb0⟩
  case round =>
    obtain ⟨j, hj, rfl, rfl, xk, xp, xr, hbel⟩ := hrel
    clear xk0 xp0 xr0 hb0
    by_cases hlt : j < 3
    · have hj3 : j = 0 ∨ j = 1 ∨ j = 2 := by omega
      rcases hj3 with rfl | rfl | rfl
      · have cp := xp.cell 0
        have lp := xp.lt
        have xk1 : Box wr bk _ _ := xk
        have ck := xk.cell
        have fk := xk.free
        have lk := xk.lt
        have cC := fun W => cut_any (restN s 0) ⟨#[67, 45]⟩ W
        have e1 : cutP (restN s 0) ⟨#[67, 45]⟩ = restN s 1 := rfl
        have e2 : hasP (restN s 0) ⟨#[67, 45]⟩ = flagN s 0 := rfl
        rw [e1, e2] at cC
        clear e1 e2
        go_wp2_with (go_at_call 23; (with_reducible refine (cC _).mono ?_); rintro e w1 ⟨rfl, rfl⟩)
        go_roundw
        case rel => exact ⟨1, by omega, by go_num, rfl, Box.as (Box.alloc (Box.set xk 4 _) _) (by rfl), Box.alloc (Box.set_other xp h2 _ _) _, Box.alloc (Box.set_other xr h1 _ _) _, bl_alloc (hbel.setCell h5 _) _⟩
        case measure => simp [intOf]
      · have cp := xp.cell 1
        have lp := xp.lt
        have xk1 : Box wr bk _ _ := xk
        have ck := xk.cell
        have fk := xk.free
        have lk := xk.lt
        have cC := fun W => cut_any (restN s 1) ⟨#[65, 45]⟩ W
        have e1 : cutP (restN s 1) ⟨#[65, 45]⟩ = restN s 2 := rfl
        have e2 : hasP (restN s 1) ⟨#[65, 45]⟩ = flagN s 1 := rfl
        rw [e1, e2] at cC
        clear e1 e2
        go_wp2_with (go_at_call 23; (with_reducible refine (cC _).mono ?_); rintro e w1 ⟨rfl, rfl⟩)
        go_roundw
        case rel => exact ⟨2, by omega, by go_num, rfl, Box.as (Box.alloc (Box.set xk 3 _) _) (by rfl), Box.alloc (Box.set_other xp h2 _ _) _, Box.alloc (Box.set_other xr h1 _ _) _, bl_alloc (hbel.setCell h5 _) _⟩
        case measure => simp [intOf]
      · have cp := xp.cell 2
        have lp := xp.lt
        have xk1 : Box wr bk _ _ := xk
        have ck := xk.cell
        have fk := xk.free
        have lk := xk.lt
        have cC := fun W => cut_any (restN s 2) ⟨#[83, 45]⟩ W
        have e1 : cutP (restN s 2) ⟨#[83, 45]⟩ = restN s 3 := rfl
        have e2 : hasP (restN s 2) ⟨#[83, 45]⟩ = flagN s 2 := rfl
        rw [e1, e2] at cC
        clear e1 e2
        go_wp2_with (go_at_call 23; (with_reducible refine (cC _).mono ?_); rintro e w1 ⟨rfl, rfl⟩)
        go_roundw
        case rel => exact ⟨3, by omega, by go_num, rfl, Box.as (Box.alloc (Box.set xk 2 _) _) (by rfl), Box.alloc (Box.set_other xp h2 _ _) _, Box.alloc (Box.set_other xr h1 _ _) _, bl_alloc (hbel.setCell h5 _) _⟩
        case measure => simp [intOf]
    · obtain rfl : j = 3 := by omega
      have hgr := hg.below hbel
      obtain ⟨xkk, xkG⟩ : Box wr bk #[.int .i64 0, .int .i32 0, .bool (flagN s 2), .bool (flagN s 1), .bool (flagN s 0)] 24 ∧ True := ⟨xk, trivial⟩
      clear xk xkG
      have hir := idx_range nameL (restN s 3) 0
      have HKC : Hid (keyCode s = if 0 ≤ Lib.idxFromS nameL (restN s 3) 0 then 2 + Lib.idxFromS nameL (restN s 3) 0 else 1) := rfl
      have HKR : Hid (keyRune s = if 0 ≤ Lib.idxFromS nameL (restN s 3) 0 then (0 : Int) else if restN s 3 = ⟨#[83, 112, 97, 99, 101]⟩ then (32 : Int) else (((Lib.decodeGo (restN s 3)).1 : Nat) : Int)) := rfl
      have HOK : Hid (byOk s = (validK (keyCode s) (keyRune s) && decide (nameS (keyCode s) (keyRune s) (flagN s 2) (flagN s 1) (flagN s 0) = s))) := rfl
      have hdr := dec_range (restN s 3)
      have cX := fun (g c : Nat) (W : World) (h : ∀ j s, nameL[j]? = some s → W.cell? ⟨g, j, none⟩ = some (.string s)) => Tryd.slices_Index_string g 0 26 c nameL (restN s 3) W (by rw [nameL_len]; omega) (by omega) (fun j hj => by
        rw [Nat.zero_add]
        refine h j _ ?_
        rw [List.getElem?_eq_getElem hj]
        simp [List.getD, hj])
      rw [show nameL.take 26 = nameL from rfl] at cX
      unfold Lib.idxOfS at cX
      have cD := fun W (h : Gl W) => Tryd.utf8_DecodeRuneInString (restN s 3) W h.u
      generalize Lib.idxFromS nameL (restN s 3) 0 = ix at *
      generalize (Lib.decodeGo (restN s 3)).2 = dn at *
      generalize (Lib.decodeGo (restN s 3)).1 = dr at *
      generalize restN s 3 = rr at *
      generalize hf0 : flagN s 0 = f0 at *
      have HF0 := Lib.hid hf0
      clear hf0
      generalize hf1 : flagN s 1 = f1 at *
      have HF1 := Lib.hid hf1
      clear hf1
      generalize hf2 : flagN s 2 = f2 at *
      have HF2 := Lib.hid hf2
      clear hf2
      rw [nameL_len] at hir
      have hir2 : ix < 26 := by omega
      have hrr := hir.1
      clear hir
      by_cases hix : 0 ≤ ix
      · clear cD
        as_aux_lemma =>
          have HKC2 : Hid (keyCode s = (2 + ix)) := by unfold Hid; rw [HKC.out, if_pos hix]
          have HKR2 : Hid (keyRune s = 0) := by unfold Hid; rw [HKR.out, if_pos hix]
          have HOK2 : Hid (byOk s = (validK (2 + ix) 0 && decide (nameS (2 + ix) 0 f2 f1 f0 = s))) := by unfold Hid; rw [HOK.out, HKC2.out, HKR2.out]
          clear HKC HKR HOK
          have hv : validK (2 + ix) 0 = true := decide_eq_true (by omega)
          rw [hv, Bool.true_and] at HOK2
          have cN := fun W ht => name_ok (2 + ix) 0 f2 f1 f0 W ht (by omega) hv
          clear hv
          generalize nameS (2 + ix) 0 f2 f1 f0 = nm at *
          by_cases hn : nm = s
          · subst hn
            have HB : Hid (byOk nm = true) := by unfold Hid; rw [HOK2.out]; simp
            go_wp2_with (first | (go_at_call 25; (with_reducible refine (names_any _ hgr.t).mono ?_); rintro e w1 ⟨g, c, rfl, hg1, hg2, hg3, hg4, hb1⟩; have xk1 : Box w1 bk _ _ := (hb1.block bk xkk.lt).trans xkk; have xr1 : Box w1 br _ _ := (hb1.block br xr.lt).trans xr; have hl1 := bl_trans hbel hb1; have cI := cX g c w1 hg4; have fk1 := xk1.free; have lk1 := xk1.lt; have ck1 := xk1.cell; clear hg4 hg3) | (go_at_call 24; (with_reducible refine cI.mono ?_); rintro e w2 ⟨rfl, rfl⟩; clear cI) | (go_at_call 17; have hlS : Below w.heap.size w (w2.setCell ⟨bk, 0, none⟩ (.int .i64 (2 + ix))) := hl1.setCell h5 _; have xkS : Box (w2.setCell ⟨bk, 0, none⟩ (.int .i64 (2 + ix))) bk #[.int .i64 (2 + ix), .int .i32 0, .bool f2, .bool f1, .bool f0] 24 := Box.as (Box.set xk1 0 _) (by rfl); have xrS : Box (w2.setCell ⟨bk, 0, none⟩ (.int .i64 (2 + ix))) br _ _ := Box.set_other xr1 h1 _ _; (with_reducible refine (cN _ (hg.below hlS).t).mono ?_); rintro e w5 ⟨rfl, hb5⟩; have xk5 : Box w5 bk _ _ := (hb5.block bk xkS.lt).trans xkS; have xr5 : Box w5 br _ _ := (hb5.block br xrS.lt).trans xrS; have hl5 := bl_trans hlS hb5; have ck5 := xk5.cell; have lk5 := xk5.lt; have lr5 := xr5.lt; have fr5 := xr5.free; have cr5 := xr5.cell))
            refine ret_row_tmp (n := 5) rfl rfl Tryd.underlying24 rfl (by kernel_rfl) rfl ⟨_, by simp (maxDischargeDepth := 6) [go_sem, Box.row xr5, xr5.lt] <;> rfl, rfl, ?_⟩
            exact ⟨by rw [HB.out, if_pos rfl, if_pos rfl, HKC2.out, HKR2.out, HF0.out, HF1.out, HF2.out]; rfl, (by repeat (first | exact hl5 | refine Below.setCell ?_ h4 _))⟩
          · have HB : Hid (byOk s = false) := by unfold Hid; rw [HOK2.out]; simpa using hn
            have hq := beq_toList nm s hn
            have hq2 : (nm.toList != s.toList) = true := by rw [bne, hq]; rfl
            go_wp2_with (first | (go_at_call 25; (with_reducible refine (names_any _ hgr.t).mono ?_); rintro e w1 ⟨g, c, rfl, hg1, hg2, hg3, hg4, hb1⟩; have xk1 : Box w1 bk _ _ := (hb1.block bk xkk.lt).trans xkk; have xr1 : Box w1 br _ _ := (hb1.block br xr.lt).trans xr; have hl1 := bl_trans hbel hb1; have cI := cX g c w1 hg4; have fk1 := xk1.free; have lk1 := xk1.lt; have ck1 := xk1.cell; clear hg4 hg3) | (go_at_call 24; (with_reducible refine cI.mono ?_); rintro e w2 ⟨rfl, rfl⟩; clear cI) | (go_at_call 17; have hlS : Below w.heap.size w (w2.setCell ⟨bk, 0, none⟩ (.int .i64 (2 + ix))) := hl1.setCell h5 _; have xkS : Box (w2.setCell ⟨bk, 0, none⟩ (.int .i64 (2 + ix))) bk #[.int .i64 (2 + ix), .int .i32 0, .bool f2, .bool f1, .bool f0] 24 := Box.as (Box.set xk1 0 _) (by rfl); have xrS : Box (w2.setCell ⟨bk, 0, none⟩ (.int .i64 (2 + ix))) br _ _ := Box.set_other xr1 h1 _ _; (with_reducible refine (cN _ (hg.below hlS).t).mono ?_); rintro e w5 ⟨rfl, hb5⟩; have xk5 : Box w5 bk _ _ := (hb5.block bk xkS.lt).trans xkS; have xr5 : Box w5 br _ _ := (hb5.block br xrS.lt).trans xrS; have hl5 := bl_trans hlS hb5; have ck5 := xk5.cell; have lk5 := xk5.lt; have lr5 := xr5.lt; have fr5 := xr5.free; have cr5 := xr5.cell))
            refine ret_row_tmp (n := 5) rfl rfl Tryd.underlying24 rfl (by kernel_rfl) rfl ⟨_, by simp (maxDischargeDepth := 6) [go_sem, Box.row xr5, xr5.lt] <;> rfl, rfl, ?_⟩
            exact ⟨by rw [HB.out, if_neg (by decide), if_neg (by decide)]; rfl, (by repeat (first | exact hl5 | refine Below.setCell ?_ h4 _))⟩
      · have hix2 : ix < 0 := by omega
        by_cases hsp : rr = ⟨#[83, 112, 97, 99, 101]⟩
        · clear cD
          as_aux_lemma =>
            have HKC2 : Hid (keyCode s = 1) := by unfold Hid; rw [HKC.out, if_neg hix]
            have HKR2 : Hid (keyRune s = 32) := by unfold Hid; rw [HKR.out, if_neg hix, if_pos hsp]
            have HOK2 : Hid (byOk s = (validK 1 32 && decide (nameS 1 32 f2 f1 f0 = s))) := by unfold Hid; rw [HOK.out, HKC2.out, HKR2.out]
            clear HKC HKR HOK
            subst hsp
            have hv : validK 1 32 = true := decide_eq_true (by omega)
            rw [hv, Bool.true_and] at HOK2
            have cN := fun W ht => name_ok 1 32 f2 f1 f0 W ht (by omega) hv
            clear hv
            generalize nameS 1 32 f2 f1 f0 = nm at *
            by_cases hn : nm = s
            · subst hn
              have HB : Hid (byOk nm = true) := by unfold Hid; rw [HOK2.out]; simp
              go_wp2_with (first | (go_at_call 25; (with_reducible refine (names_any _ hgr.t).mono ?_); rintro e w1 ⟨g, c, rfl, hg1, hg2, hg3, hg4, hb1⟩; have xk1 : Box w1 bk _ _ := (hb1.block bk xkk.lt).trans xkk; have xr1 : Box w1 br _ _ := (hb1.block br xr.lt).trans xr; have hl1 := bl_trans hbel hb1; have cI := cX g c w1 hg4; have fk1 := xk1.free; have lk1 := xk1.lt; have ck1 := xk1.cell; clear hg4 hg3) | (go_at_call 24; (with_reducible refine cI.mono ?_); rintro e w2 ⟨rfl, rfl⟩; clear cI) | (go_at_call 17; have hlS : Below w.heap.size w ((w2.setCell ⟨bk, 0, none⟩ (.int .i64 1)).setCell ⟨bk, 1, none⟩ (.int .i32 32)) := (hl1.setCell h5 _).setCell h5 _; have xkS : Box ((w2.setCell ⟨bk, 0, none⟩ (.int .i64 1)).setCell ⟨bk, 1, none⟩ (.int .i32 32)) bk #[.int .i64 1, .int .i32 32, .bool f2, .bool f1, .bool f0] 24 := Box.as (Box.set (Box.set xk1 0 _) 1 _) (by rfl); have xrS : Box ((w2.setCell ⟨bk, 0, none⟩ (.int .i64 1)).setCell ⟨bk, 1, none⟩ (.int .i32 32)) br _ _ := Box.set_other (Box.set_other xr1 h1 _ _) h1 _ _; (with_reducible refine (cN _ (hg.below hlS).t).mono ?_); rintro e w5 ⟨rfl, hb5⟩; have xk5 : Box w5 bk _ _ := (hb5.block bk xkS.lt).trans xkS; have xr5 : Box w5 br _ _ := (hb5.block br xrS.lt).trans xrS; have hl5 := bl_trans hlS hb5; have ck5 := xk5.cell; have lk5 := xk5.lt; have lr5 := xr5.lt; have fr5 := xr5.free; have cr5 := xr5.cell))
              refine ret_row_tmp (n := 5) rfl rfl Tryd.underlying24 rfl (by kernel_rfl) rfl ⟨_, by simp (maxDischargeDepth := 6) [go_sem, Box.row xr5, xr5.lt] <;> rfl, rfl, ?_⟩
              exact ⟨by rw [HB.out, if_pos rfl, if_pos rfl, HKC2.out, HKR2.out, HF0.out, HF1.out, HF2.out]; rfl, (by repeat (first | exact hl5 | refine Below.setCell ?_ h4 _))⟩
            · have HB : Hid (byOk s = false) := by unfold Hid; rw [HOK2.out]; simpa using hn
              have hq := beq_toList nm s hn
              have hq2 : (nm.toList != s.toList) = true := by rw [bne, hq]; rfl
              go_wp2_with (first | (go_at_call 25; (with_reducible refine (names_any _ hgr.t).mono ?_); rintro e w1 ⟨g, c, rfl, hg1, hg2, hg3, hg4, hb1⟩; have xk1 : Box w1 bk _ _ := (hb1.block bk xkk.lt).trans xkk; have xr1 : Box w1 br _ _ := (hb1.block br xr.lt).trans xr; have hl1 := bl_trans hbel hb1; have cI := cX g c w1 hg4; have fk1 := xk1.free; have lk1 := xk1.lt; have ck1 := xk1.cell; clear hg4 hg3) | (go_at_call 24; (with_reducible refine cI.mono ?_); rintro e w2 ⟨rfl, rfl⟩; clear cI) | (go_at_call 17; have hlS : Below w.heap.size w ((w2.setCell ⟨bk, 0, none⟩ (.int .i64 1)).setCell ⟨bk, 1, none⟩ (.int .i32 32)) := (hl1.setCell h5 _).setCell h5 _; have xkS : Box ((w2.setCell ⟨bk, 0, none⟩ (.int .i64 1)).setCell ⟨bk, 1, none⟩ (.int .i32 32)) bk #[.int .i64 1, .int .i32 32, .bool f2, .bool f1, .bool f0] 24 := Box.as (Box.set (Box.set xk1 0 _) 1 _) (by rfl); have xrS : Box ((w2.setCell ⟨bk, 0, none⟩ (.int .i64 1)).setCell ⟨bk, 1, none⟩ (.int .i32 32)) br _ _ := Box.set_other (Box.set_other xr1 h1 _ _) h1 _ _; (with_reducible refine (cN _ (hg.below hlS).t).mono ?_); rintro e w5 ⟨rfl, hb5⟩; have xk5 : Box w5 bk _ _ := (hb5.block bk xkS.lt).trans xkS; have xr5 : Box w5 br _ _ := (hb5.block br xrS.lt).trans xrS; have hl5 := bl_trans hlS hb5; have ck5 := xk5.cell; have lk5 := xk5.lt; have lr5 := xr5.lt; have fr5 := xr5.free; have cr5 := xr5.cell))
              refine ret_row_tmp (n := 5) rfl rfl Tryd.underlying24 rfl (by kernel_rfl) rfl ⟨_, by simp (maxDischargeDepth := 6) [go_sem, Box.row xr5, xr5.lt] <;> rfl, rfl, ?_⟩
              exact ⟨by rw [HB.out, if_neg (by decide), if_neg (by decide)]; rfl, (by repeat (first | exact hl5 | refine Below.setCell ?_ h4 _))⟩
        · skip
          as_aux_lemma =>
            have HKC2 : Hid (keyCode s = 1) := by unfold Hid; rw [HKC.out, if_neg hix]
            have HKR2 : Hid (keyRune s = (dr : Int)) := by unfold Hid; rw [HKR.out, if_neg hix, if_neg hsp]
            have HOK2 : Hid (byOk s = (validK 1 (dr : Int) && decide (nameS 1 (dr : Int) f2 f1 f0 = s))) := by unfold Hid; rw [HOK.out, HKC2.out, HKR2.out]
            clear HKC HKR HOK
            have hs1 := beq_toList rr _ hsp
            rw [show (⟨#[83, 112, 97, 99, 101]⟩ : ByteArray).toList = [83, 112, 97, 99, 101] from by rw [ByteArray.toList_eq]] at hs1
            clear hsp
            cases hv : validK 1 (dr : Int)
            · have HB : Hid (byOk s = false) := by unfold Hid; rw [HOK2.out, hv]; rfl
              have cN := fun W (_ : Tab W) => name_bad 1 (dr : Int) f2 f1 f0 W hv
              clear hv
              go_wp2_with (first | (go_at_call 25; (with_reducible refine (names_any _ hgr.t).mono ?_); rintro e w1 ⟨g, c, rfl, hg1, hg2, hg3, hg4, hb1⟩; have xk1 : Box w1 bk _ _ := (hb1.block bk xkk.lt).trans xkk; have xr1 : Box w1 br _ _ := (hb1.block br xr.lt).trans xr; have hl1 := bl_trans hbel hb1; have cI := cX g c w1 hg4; have fk1 := xk1.free; have lk1 := xk1.lt; have ck1 := xk1.cell; clear hg4 hg3) | (go_at_call 24; (with_reducible refine cI.mono ?_); rintro e w2 ⟨rfl, rfl⟩; clear cI) | (go_at_call 26; have hl3 : Below w.heap.size w (w2.setCell ⟨bk, 0, none⟩ (.int .i64 1)) := hl1.setCell h5 _; have xk3 := Box.set xk1 0 (.int .i64 1); have xr3 : Box (w2.setCell ⟨bk, 0, none⟩ (.int .i64 1)) br _ _ := Box.set_other xr1 h1 _ _; (with_reducible refine (cD _ (hg.below hl3)).mono ?_); rintro e w4 ⟨rfl, hb4⟩; have xk4 : Box w4 bk _ _ := (hb4.block bk xk3.lt).trans xk3; have xr4 : Box w4 br _ _ := (hb4.block br xr3.lt).trans xr3; have hl4 := bl_trans hl3 hb4; have ck4 := xk4.cell; have lk4 := xk4.lt; have fk4 := xk4.free; clear ck1 fk1 lk1) | (go_at_call 17; have hlS : Below w.heap.size w (w4.setCell ⟨bk, 1, none⟩ (.int .i32 dr)) := hl4.setCell h5 _; have xkS : Box (w4.setCell ⟨bk, 1, none⟩ (.int .i32 dr)) bk #[.int .i64 1, .int .i32 (dr : Int), .bool f2, .bool f1, .bool f0] 24 := Box.as (Box.set xk4 1 _) (by rfl); have xrS : Box (w4.setCell ⟨bk, 1, none⟩ (.int .i32 dr)) br _ _ := Box.set_other xr4 h1 _ _; (with_reducible refine (cN _ (hg.below hlS).t).mono ?_); rintro e w5 ⟨rfl, hb5⟩; have xk5 : Box w5 bk _ _ := (hb5.block bk xkS.lt).trans xkS; have xr5 : Box w5 br _ _ := (hb5.block br xrS.lt).trans xrS; have hl5 := bl_trans hlS hb5; have ck5 := xk5.cell; have lk5 := xk5.lt; have lr5 := xr5.lt; have fr5 := xr5.free; have cr5 := xr5.cell))
              refine ret_row_tmp (n := 5) rfl rfl Tryd.underlying24 rfl (by kernel_rfl) rfl ⟨_, by simp (maxDischargeDepth := 6) [go_sem, Box.row xr5, xr5.lt] <;> rfl, rfl, ?_⟩
              exact ⟨by rw [HB.out, if_neg (by decide), if_neg (by decide)]; rfl, (by repeat (first | exact hl5 | refine Below.setCell ?_ h4 _))⟩
            · rw [hv, Bool.true_and] at HOK2
              have cN := fun W ht => name_ok 1 (dr : Int) f2 f1 f0 W ht (by omega) hv
              clear hv
              generalize nameS 1 (dr : Int) f2 f1 f0 = nm at *
              by_cases hn : nm = s
              · subst hn
                have HB : Hid (byOk nm = true) := by unfold Hid; rw [HOK2.out]; simp
                go_wp2_with (first | (go_at_call 25; (with_reducible refine (names_any _ hgr.t).mono ?_); rintro e w1 ⟨g, c, rfl, hg1, hg2, hg3, hg4, hb1⟩; have xk1 : Box w1 bk _ _ := (hb1.block bk xkk.lt).trans xkk; have xr1 : Box w1 br _ _ := (hb1.block br xr.lt).trans xr; have hl1 := bl_trans hbel hb1; have cI := cX g c w1 hg4; have fk1 := xk1.free; have lk1 := xk1.lt; have ck1 := xk1.cell; clear hg4 hg3) | (go_at_call 24; (with_reducible refine cI.mono ?_); rintro e w2 ⟨rfl, rfl⟩; clear cI) | (go_at_call 26; have hl3 : Below w.heap.size w (w2.setCell ⟨bk, 0, none⟩ (.int .i64 1)) := hl1.setCell h5 _; have xk3 := Box.set xk1 0 (.int .i64 1); have xr3 : Box (w2.setCell ⟨bk, 0, none⟩ (.int .i64 1)) br _ _ := Box.set_other xr1 h1 _ _; (with_reducible refine (cD _ (hg.below hl3)).mono ?_); rintro e w4 ⟨rfl, hb4⟩; have xk4 : Box w4 bk _ _ := (hb4.block bk xk3.lt).trans xk3; have xr4 : Box w4 br _ _ := (hb4.block br xr3.lt).trans xr3; have hl4 := bl_trans hl3 hb4; have ck4 := xk4.cell; have lk4 := xk4.lt; have fk4 := xk4.free; clear ck1 fk1 lk1) | (go_at_call 17; have hlS : Below w.heap.size w (w4.setCell ⟨bk, 1, none⟩ (.int .i32 dr)) := hl4.setCell h5 _; have xkS : Box (w4.setCell ⟨bk, 1, none⟩ (.int .i32 dr)) bk #[.int .i64 1, .int .i32 (dr : Int), .bool f2, .bool f1, .bool f0] 24 := Box.as (Box.set xk4 1 _) (by rfl); have xrS : Box (w4.setCell ⟨bk, 1, none⟩ (.int .i32 dr)) br _ _ := Box.set_other xr4 h1 _ _; (with_reducible refine (cN _ (hg.below hlS).t).mono ?_); rintro e w5 ⟨rfl, hb5⟩; have xk5 : Box w5 bk _ _ := (hb5.block bk xkS.lt).trans xkS; have xr5 : Box w5 br _ _ := (hb5.block br xrS.lt).trans xrS; have hl5 := bl_trans hlS hb5; have ck5 := xk5.cell; have lk5 := xk5.lt; have lr5 := xr5.lt; have fr5 := xr5.free; have cr5 := xr5.cell))
                refine ret_row_tmp (n := 5) rfl rfl Tryd.underlying24 rfl (by kernel_rfl) rfl ⟨_, by simp (maxDischargeDepth := 6) [go_sem, Box.row xr5, xr5.lt] <;> rfl, rfl, ?_⟩
                exact ⟨by rw [HB.out, if_pos rfl, if_pos rfl, HKC2.out, HKR2.out, HF0.out, HF1.out, HF2.out]; rfl, (by repeat (first | exact hl5 | refine Below.setCell ?_ h4 _))⟩
              · have HB : Hid (byOk s = false) := by unfold Hid; rw [HOK2.out]; simpa using hn
                have hq := beq_toList nm s hn
                have hq2 : (nm.toList != s.toList) = true := by rw [bne, hq]; rfl
                go_wp2_with (first | (go_at_call 25; (with_reducible refine (names_any _ hgr.t).mono ?_); rintro e w1 ⟨g, c, rfl, hg1, hg2, hg3, hg4, hb1⟩; have xk1 : Box w1 bk _ _ := (hb1.block bk xkk.lt).trans xkk; have xr1 : Box w1 br _ _ := (hb1.block br xr.lt).trans xr; have hl1 := bl_trans hbel hb1; have cI := cX g c w1 hg4; have fk1 := xk1.free; have lk1 := xk1.lt; have ck1 := xk1.cell; clear hg4 hg3) | (go_at_call 24; (with_reducible refine cI.mono ?_); rintro e w2 ⟨rfl, rfl⟩; clear cI) | (go_at_call 26; have hl3 : Below w.heap.size w (w2.setCell ⟨bk, 0, none⟩ (.int .i64 1)) := hl1.setCell h5 _; have xk3 := Box.set xk1 0 (.int .i64 1); have xr3 : Box (w2.setCell ⟨bk, 0, none⟩ (.int .i64 1)) br _ _ := Box.set_other xr1 h1 _ _; (with_reducible refine (cD _ (hg.below hl3)).mono ?_); rintro e w4 ⟨rfl, hb4⟩; have xk4 : Box w4 bk _ _ := (hb4.block bk xk3.lt).trans xk3; have xr4 : Box w4 br _ _ := (hb4.block br xr3.lt).trans xr3; have hl4 := bl_trans hl3 hb4; have ck4 := xk4.cell; have lk4 := xk4.lt; have fk4 := xk4.free; clear ck1 fk1 lk1) | (go_at_call 17; have hlS : Below w.heap.size w (w4.setCell ⟨bk, 1, none⟩ (.int .i32 dr)) := hl4.setCell h5 _; have xkS : Box (w4.setCell ⟨bk, 1, none⟩ (.int .i32 dr)) bk #[.int .i64 1, .int .i32 (dr : Int), .bool f2, .bool f1, .bool f0] 24 := Box.as (Box.set xk4 1 _) (by rfl); have xrS : Box (w4.setCell ⟨bk, 1, none⟩ (.int .i32 dr)) br _ _ := Box.set_other xr4 h1 _ _; (with_reducible refine (cN _ (hg.below hlS).t).mono ?_); rintro e w5 ⟨rfl, hb5⟩; have xk5 : Box w5 bk _ _ := (hb5.block bk xkS.lt).trans xkS; have xr5 : Box w5 br _ _ := (hb5.block br xrS.lt).trans xrS; have hl5 := bl_trans hlS hb5; have ck5 := xk5.cell; have lk5 := xk5.lt; have lr5 := xr5.lt; have fr5 := xr5.free; have cr5 := xr5.cell))
                refine ret_row_tmp (n := 5) rfl rfl Tryd.underlying24 rfl (by kernel_rfl) rfl ⟨_, by simp (maxDischargeDepth := 6) [go_sem, Box.row xr5, xr5.lt] <;> rfl, rfl, ?_⟩
                exact ⟨by rw [HB.out, if_neg (by decide), if_neg (by decide)]; rfl, (by repeat (first | exact hl5 | refine Below.setCell ?_ h4 _))⟩

end Go.Proofs.YtofjdjjbgnfngaaDoor
