/- modes: Text. -/
import Derived.Test.YtcmflmmidipckaaDoorJ
import Derived.Outline
import Derived.Test.YtcmflmmidipckaaDoorTab
set_option linter.unusedSimpArgs false
set_option linter.unusedVariables false
set_option linter.unnecessarySimpa false
namespace Go.Proofs.YtcmflmmidipckaaDoor
open Go.RowKit

/-- The modes in the order of their texts. -/
def ordL : List (Int × Int) := [(0, 4), (63, 1), (63, 6), (63, 7), (63, 25), (63, 1000), (63, 1002), (63, 1003), (63, 1006), (63, 2004), (63, 47), (63, 1047), (63, 1049)]
def newM : Md := ⟨true, false, false, true, false, false, false, 0, 0⟩
def pieceM (m : Md) (x : Int × Int) : List UInt8 := if getR m x.1 x.2 = getR newM x.1 x.2 then [] else [27, 91] ++ ((if x.1 = 0 then [] else [63]) ++ (Lib.itoa x.2 ++ [if getR m x.1 x.2 = 1 then 104 else 108]))
def textK (m : Md) (k : Nat) : List UInt8 := (ordL.take k).flatMap (pieceM m)
/-- The order, as it is laid. -/
def ordC : Array Value := #[.int .i32 0, .int .i64 4, .int .i32 63, .int .i64 1, .int .i32 63, .int .i64 6, .int .i32 63, .int .i64 7, .int .i32 63, .int .i64 25, .int .i32 63, .int .i64 1000, .int .i32 63, .int .i64 1002, .int .i32 63, .int .i64 1003, .int .i32 63, .int .i64 1006, .int .i32 63, .int .i64 2004, .int .i32 63, .int .i64 47, .int .i32 63, .int .i64 1047, .int .i32 63, .int .i64 1049]
def GlobO (w : World) : Prop := ∃ t fr, w.heap[2]? = some (.cells ordC t fr)
theorem GlobO.below {w w' : World} (h : GlobO w) (hb : Below w.heap.size w w') : GlobO w' := by
  obtain ⟨t, fr, h⟩ := h
  exact ⟨t, fr, (hb.block _ (Array.getElem?_eq_some_iff.1 h).1).trans h⟩
theorem Bu.below {w w' : World} {b : Nat} {bs : List Value} (h : Bu w b bs) (hb : Below w.heap.size w w') : Bu w' b bs := by
  have key : ∀ p, BuA w b p bs → BuA w' b p bs := by
    rintro p ⟨h1, v, h2, h3, h4⟩
    refine ⟨h1, v, (hb.block b (Array.getElem?_eq_some_iff.1 h2).1).trans h2, ⟨h3.1, ?_⟩, h4⟩
    rcases h3.2 with h5 | ⟨g, cap, cur, e1, e2, e3, e4⟩
    · exact .inl h5
    · exact .inr ⟨g, cap, cur, e1, e2, (hb.block g (Array.getElem?_eq_some_iff.1 e3).1).trans e3, e4⟩
  rcases h with h | h
  · exact .inl (key _ h)
  · exact .inr (key _ h)
theorem Bu.lt' {w : World} {b : Nat} {bs : List Value} (h : Bu w b bs) : b < w.heap.size := by
  rcases h with h | h <;> exact h.lt
theorem Wr.box {b k : Nat} {w w' : World} {cs : Array Value} {t : TypeId} (h : Wr b w w') (hx : Box w k cs t) (hk : k ≠ b) (ht : t ≠ 5) : Box w' k cs t := h.oth k cs t _ hk hx ht
def ordAt (k : Nat) : Int × Int := ordL.getD k (0, 0)
theorem index_ord (k : Nat) (hk : k < 13) (W : World) : (Instr.index 68 (.agg ordC) (.int .i64 k)).run Tryd.prog W = .ok (.agg #[.int .i32 (ordAt k).1, .int .i64 (ordAt k).2]) W := by
  match k, hk with
  | 0, _ => rfl
  | 1, _ => rfl
  | 2, _ => rfl
  | 3, _ => rfl
  | 4, _ => rfl
  | 5, _ => rfl
  | 6, _ => rfl
  | 7, _ => rfl
  | 8, _ => rfl
  | 9, _ => rfl
  | 10, _ => rfl
  | 11, _ => rfl
  | 12, _ => rfl
theorem ord_facts (k : Nat) (hk : k < 13) : ((ordAt k).1 = 0 ∨ (ordAt k).1 = 63) ∧ isM (ordAt k).1 (ordAt k).2 = true ∧ 0 ≤ (ordAt k).2 ∧ (ordAt k).2 ≤ 9999 := by
  have key : ∀ j : Fin 13, ((ordAt j.val).1 = 0 ∨ (ordAt j.val).1 = 63) ∧ isM (ordAt j.val).1 (ordAt j.val).2 = true ∧ 0 ≤ (ordAt j.val).2 ∧ (ordAt j.val).2 ≤ 9999 := by decide +kernel
  exact key ⟨k, hk⟩
theorem textK_succ (m : Md) (k : Nat) (hk : k < 13) : textK m (k + 1) = textK m k ++ pieceM m (ordAt k) := by
  unfold textK
  rw [List.take_succ_eq_append_getElem (show k < ordL.length from hk), List.flatMap_append, List.flatMap_singleton]
  congr 2
  unfold ordAt
  rw [List.getD_eq_getElem?_getD, List.getElem?_eq_getElem (show k < ordL.length from hk)]
  rfl
theorem pieceM_len (m : Md) (k : Nat) (hk : k < 13) : (pieceM m (ordAt k)).length ≤ 30 := by
  obtain ⟨_, _, h1, h2⟩ := ord_facts k hk
  have := Lib.itoa_length_le (ordAt k).2 (by omega) (by omega)
  unfold pieceM
  split
  · simp
  · split <;> simp <;> omega
theorem textK_len (m : Md) (k : Nat) (hk : k ≤ 13) : (textK m k).length ≤ 30 * k := by
  induction k with
  | zero => simp [textK]
  | succ k ih =>
    rw [textK_succ m k (by omega), List.length_append]
    have h1 := ih (by omega)
    have h2 := pieceM_len m k (by omega)
    omega
theorem wS (b : Nat) (l s : List UInt8) (w : World) (h : Bu w b (Lib.byteCells l)) (hl : l.length ≤ 10000) (hs : s.length ≤ 10000) :
    Calls Tryd.prog 31 #[.pointer (some ⟨b, 0, none⟩), .string ⟨s.toArray⟩] w fun e w' => ∃ n, e = .returned (.tuple #[.int .i64 n, .nilIface]) ∧ Bu w' b (Lib.byteCells (l ++ s)) ∧ Wr b w w' := by
  refine (writeString_any b _ ⟨s.toArray⟩ w h (by rw [show (⟨s.toArray⟩ : ByteArray).size = s.length from by simp [ByteArray.size]]; simp [Lib.byteCells]; omega)).mono ?_
  rintro e w' ⟨rfl, h1, h2⟩
  refine ⟨_, rfl, ?_, h2⟩
  have e : Lib.byteCells (l ++ s) = Lib.byteCells l ++ Lib.strCells ⟨s.toArray⟩ := by simp [Lib.byteCells, Lib.strCells]
  rw [e]; exact h1
theorem wB (b : Nat) (l : List UInt8) (c : UInt8) (n : Int) (w : World) (h : Bu w b (Lib.byteCells l)) (hl : l.length ≤ 10000) (hn : (c.toNat : Int) = n) :
    Calls Tryd.prog 34 #[.pointer (some ⟨b, 0, none⟩), .int .u8 n] w fun e w' => e = .returned .nilIface ∧ Bu w' b (Lib.byteCells (l ++ [c])) ∧ Wr b w w' := by
  refine (writeByte_any b _ n w h (by simp [Lib.byteCells]; omega)).mono ?_
  rintro e w' ⟨rfl, h1, h2⟩
  refine ⟨rfl, ?_, h2⟩
  have e : Lib.byteCells (l ++ [c]) = Lib.byteCells l ++ [.int .u8 n] := by simp [Lib.byteCells, hn]
  rw [e]; exact h1
theorem wR (b : Nat) (l : List UInt8) (w : World) (h : Bu w b (Lib.byteCells l)) (hl : l.length ≤ 10000) :
    Calls Tryd.prog 32 #[.pointer (some ⟨b, 0, none⟩), .int .i32 63] w fun e w' => e = .returned (.tuple #[.int .i64 1, .nilIface]) ∧ Bu w' b (Lib.byteCells (l ++ [63])) ∧ Wr b w w' := by
  refine (writeRune_any b _ 63 w h (by omega) (by simp [Lib.byteCells]; omega)).mono ?_
  rintro e w' ⟨rfl, h1, h2⟩
  refine ⟨rfl, ?_, h2⟩
  have e : Lib.byteCells (l ++ [63]) = Lib.byteCells l ++ [.int .u8 63] := by simp [Lib.byteCells]
  rw [e]; exact h1
theorem get_new {W : World} (X : GW W) (p n : Int) (h : Glob W) : Calls Tryd.prog 22 #[.agg #[.bool true, .bool false, .bool false, .bool true, .bool false, .bool false, .bool false, .int .i64 0, .int .i64 0], .int .i32 p, .int .i64 n] X.world fun e w' => e = .returned (.tuple #[.int .i64 (getR newM p n), .int .i64 0]) ∧ ∃ Y : GW W, w' = Y.world :=
  GW.call (get_any newM p n X.world (h.below X.grow))
set_option maxHeartbeats 4000000 in
set_option maxRecDepth 100000 in
theorem text_any (m : Md) (w : World) (hg : Glob w) (ho : GlobO w) (ht : Tab w) (hv : validM m = true) : Calls Tryd.prog 25 #[.agg #[.bool m.aw, .bool m.ori, .bool m.ins, .bool m.vis, .bool m.app, .bool m.pas, .bool m.sgr, .int .i64 m.ptr, .int .i64 m.alt]] w fun e w' => e = .returned (.tuple #[.string ⟨(textK m 13).toArray⟩, .int .i64 0]) ∧ Below w.heap.size w w' := by
  have cV := fun W (hb : Below w.heap.size w W) => valid_any m W (hg.below hb)
  rw [hv] at cV
  go_enter Tryd.func25, Tryd.ntmps25
  obtain ⟨oc, hoc⟩ : ∃ oc, ordC = oc := ⟨_, rfl⟩
  go_wp2_with (first | (go_at_call 10; (with_reducible refine (cV _ (bl_alloc (Below.refl _ _) _)).mono ?_); rintro e w1 ⟨rfl, hb1⟩; have hl1 : Below w.heap.size w w1 := bl_trans (bl_alloc (Below.refl _ _) _) hb1; have hmx : Box w1 w.heap.size _ _ := (hb1.block w.heap.size (by simp)).trans (Box.new w #[.bool m.aw, .bool m.ori, .bool m.ins, .bool m.vis, .bool m.app, .bool m.pas, .bool m.sgr, .int .i64 m.ptr, .int .i64 m.alt] 23 rfl); have hmlt0 := hmx.lt; have hg1 := hg.below hl1; have ho1 := ho.below hl1; clear hb1; obtain ⟨to, fo, hor⟩ := ho1; rw [hoc] at hor) | (refine wpList_load_row rfl 68 _ rfl 2 rfl to oc fo _ ((heap_alloc_past w1 _ _ (Array.getElem?_eq_some_iff.1 hor).1).trans hor) Tryd.underlying68 rfl (by rw [← hoc]; kernel_rfl) ?_))
  go_loopw [15] (fun i wr => ∃ (k : Nat), k ≤ 13 ∧ i = .int .i64 k ∧ Bu wr w1.heap.size (Lib.byteCells (textK m k)) ∧ Box wr w.heap.size #[.bool m.aw, .bool m.ori, .bool m.ins, .bool m.vis, .bool m.app, .bool m.pas, .bool m.sgr, .int .i64 m.ptr, .int .i64 m.alt] 23 ∧ Below w1.heap.size w1 wr) (fun i _ => 13 - (intOf i).toNat)
  case atStart => exact ⟨0, by omega, rfl, .inl ⟨Nat.le_refl _, .slice none 0 0, Box.new w1 _ _ rfl, World.ownsRow_nil _ _ _ _, by simp [Value.ownBlock]⟩, hmx.alloc _, (Below.refl _ _).alloc (Nat.le_refl _) _⟩
  case round =>
    obtain ⟨k, hk, rfl, hbu, hmw, hbel⟩ := hrel
    by_cases hlt : k < 13
    · have kI := fun W => index_ord k hlt W
      obtain ⟨f1, f2, f3, f4⟩ := ord_facts k hlt
      have HTK := Lib.hid (textK_succ m k hlt)
      have htl := textK_len m k hk
      rw [hoc] at kI
      obtain ⟨x, hx⟩ : ∃ x, ordAt k = x := ⟨_, rfl⟩
      rw [hx] at kI f1 f2 f3 f4 HTK
      obtain ⟨p, n⟩ := x
      simp only at kI f1 f2 f3 f4
      have hgr := hg1.below hbel
      have hbz := hbel.size
      have cG := fun W (hb : Below wr.heap.size wr W) => get_any m p n W (hgr.below hb)
      have hcm := hmw.cell
      have hlm := hmw.lt
      go_wp2_with (first | (go_at_call 22; (with_reducible refine (cG _ (bl_alloc (Below.refl _ _) _)).mono ?_); rintro e w2 ⟨rfl, hb2⟩; have hx2 : Box w2 wr.heap.size _ _ := (hb2.block wr.heap.size (by simp)).trans (Box.new wr #[.int .i32 p, .int .i64 n] 67 rfl); have hcx := hx2.cell; have hlx := hx2.lt; have hg2 := hgr.below (bl_trans (bl_alloc (Below.refl _ _) _) hb2); have hl2 : Below wr.heap.size wr w2 := bl_trans (bl_alloc (Below.refl _ _) _) hb2))
      first | refine wp_grow2 (by kernel_rfl) (by kernel_rfl) ?_ | refine wp_grow (by kernel_rfl) (by kernel_rfl) ?_
      repeat (go_big_quiet_step (first | (go_at_call 8; exact GW.call (new_any _)) | (go_at_call 22; exact get_new _ p n hg2)))
      refine wpQuiet_nil ?_
      rintro _ ⟨X, rfl⟩
      have HPM : Hid (pieceM m (p, n) = if getR m p n = getR newM p n then [] else [27, 91] ++ ((if p = 0 then [] else [63]) ++ (Lib.itoa n ++ [if getR m p n = 1 then 104 else 108]))) := rfl
      generalize getR newM p n = rn at *
      generalize getR m p n = rm at *
      have hWX : Below wr.heap.size wr X.world := bl_trans hl2 X.grow
      have hu0 : Bu X.world w1.heap.size (Lib.byteCells (textK m k)) := hbu.below hWX
      have hm0 : Box X.world w.heap.size _ _ := (hWX.block _ hlm).trans hmw
      have hx0 : Box X.world wr.heap.size _ _ := (X.grow.block _ hlx).trans hx2
      have hl0 : Below w1.heap.size w1 X.world := hbel.trans (hWX.mono hbz)
      have hmlt : w.heap.size < w1.heap.size := hmlt0
      have hbb : w1.heap.size < wr.heap.size := hbu.lt'
      have hit := Lib.itoa_length_le n (by omega) (by omega)
      by_cases hrr : rm = rn
      · have e : textK m (k + 1) = textK m k := by rw [HTK.out, HPM.out, if_pos hrr, List.append_nil]
        go_wp2_with fail
        go_roundw
        case rel => exact ⟨k + 1, by omega, by go_num, by rw [e]; exact hu0, hm0, hl0⟩
        case measure => simp [intOf]; omega
      · rcases f1 with f1 | f1
        · subst f1
          by_cases h1 : rm = 1
          · have e : textK m (k + 1) = (((textK m k) ++ [27, 91]) ++ Lib.itoa n) ++ [104] := by
              rw [HTK.out, HPM.out, if_neg hrr]
              simp [h1]
            have HE := Lib.hid e
            clear e
            go_wp2_with (first | (go_at_call 31; (with_reducible refine (wS _ (textK m k) [27, 91] _ hu0 (by omega) (by decide)).mono ?_); rintro e v1 ⟨_, rfl, hu1, hw1⟩; have hx1 := hw1.box hx0 (by omega) (by decide); have hm1 := hw1.box hm0 (by omega) (by decide); have hcx1 := hx1.cell; have hlx1 := hx1.lt; have hl1' : Below w1.heap.size w1 v1 := hl0.trans hw1.bel; clear hw1) | (go_at_call 33; (with_reducible refine (itoa_any n _ (by omega) (by omega) (ht.below (hl1.trans (hl1'.mono hl1.size)))).mono ?_); rintro e vi ⟨rfl, hbi⟩; have hui := hu1.below hbi; have hxi := (hbi.block _ hlx1).trans hx1; have hmi := (hbi.block _ hm1.lt).trans hm1; have hli' : Below w1.heap.size w1 vi := hl1'.trans (hbi.mono hl1'.size)) | (go_at_call 31; (with_reducible refine (wS _ ((textK m k) ++ [27, 91]) (Lib.itoa n) _ hui (by simp; omega) (by omega)).mono ?_); rintro e v5 ⟨_, rfl, hu5, hw5⟩; have hx5 := hw5.box hxi (by omega) (by decide); have hm5 := hw5.box hmi (by omega) (by decide); have hcx5 := hx5.cell; have hlx5 := hx5.lt; have hl5' : Below w1.heap.size w1 v5 := hli'.trans hw5.bel; clear hw5) | (go_at_call 34; (with_reducible refine (wB _ (((textK m k) ++ [27, 91]) ++ Lib.itoa n) 104 104 _ hu5 (by simp; omega) rfl).mono ?_); rintro e v6 ⟨rfl, hu6, hw6⟩; have hx6 := hw6.box hx5 (by omega) (by decide); have hm6 := hw6.box hm5 (by omega) (by decide); have hcx6 := hx6.cell; have hlx6 := hx6.lt; have hl6' : Below w1.heap.size w1 v6 := hl5'.trans hw6.bel; clear hw6))
            go_roundw
            case rel => exact ⟨k + 1, by omega, by go_num, by rw [HE.out]; exact hu6, hm6, hl6'⟩
            case measure => simp [intOf]; omega
          · have e : textK m (k + 1) = (((textK m k) ++ [27, 91]) ++ Lib.itoa n) ++ [108] := by
              rw [HTK.out, HPM.out, if_neg hrr]
              simp [h1]
            have HE := Lib.hid e
            clear e
            go_wp2_with (first | (go_at_call 31; (with_reducible refine (wS _ (textK m k) [27, 91] _ hu0 (by omega) (by decide)).mono ?_); rintro e v1 ⟨_, rfl, hu1, hw1⟩; have hx1 := hw1.box hx0 (by omega) (by decide); have hm1 := hw1.box hm0 (by omega) (by decide); have hcx1 := hx1.cell; have hlx1 := hx1.lt; have hl1' : Below w1.heap.size w1 v1 := hl0.trans hw1.bel; clear hw1) | (go_at_call 33; (with_reducible refine (itoa_any n _ (by omega) (by omega) (ht.below (hl1.trans (hl1'.mono hl1.size)))).mono ?_); rintro e vi ⟨rfl, hbi⟩; have hui := hu1.below hbi; have hxi := (hbi.block _ hlx1).trans hx1; have hmi := (hbi.block _ hm1.lt).trans hm1; have hli' : Below w1.heap.size w1 vi := hl1'.trans (hbi.mono hl1'.size)) | (go_at_call 31; (with_reducible refine (wS _ ((textK m k) ++ [27, 91]) (Lib.itoa n) _ hui (by simp; omega) (by omega)).mono ?_); rintro e v5 ⟨_, rfl, hu5, hw5⟩; have hx5 := hw5.box hxi (by omega) (by decide); have hm5 := hw5.box hmi (by omega) (by decide); have hcx5 := hx5.cell; have hlx5 := hx5.lt; have hl5' : Below w1.heap.size w1 v5 := hli'.trans hw5.bel; clear hw5) | (go_at_call 34; (with_reducible refine (wB _ (((textK m k) ++ [27, 91]) ++ Lib.itoa n) 108 108 _ hu5 (by simp; omega) rfl).mono ?_); rintro e v6 ⟨rfl, hu6, hw6⟩; have hx6 := hw6.box hx5 (by omega) (by decide); have hm6 := hw6.box hm5 (by omega) (by decide); have hcx6 := hx6.cell; have hlx6 := hx6.lt; have hl6' : Below w1.heap.size w1 v6 := hl5'.trans hw6.bel; clear hw6))
            go_roundw
            case rel => exact ⟨k + 1, by omega, by go_num, by rw [HE.out]; exact hu6, hm6, hl6'⟩
            case measure => simp [intOf]; omega
        · subst f1
          by_cases h1 : rm = 1
          · have e : textK m (k + 1) = ((((textK m k) ++ [27, 91]) ++ [63]) ++ Lib.itoa n) ++ [104] := by
              rw [HTK.out, HPM.out, if_neg hrr]
              simp [h1]
            have HE := Lib.hid e
            clear e
            go_wp2_with (first | (go_at_call 31; (with_reducible refine (wS _ (textK m k) [27, 91] _ hu0 (by omega) (by decide)).mono ?_); rintro e v1 ⟨_, rfl, hu1, hw1⟩; have hx1 := hw1.box hx0 (by omega) (by decide); have hm1 := hw1.box hm0 (by omega) (by decide); have hcx1 := hx1.cell; have hlx1 := hx1.lt; have hl1' : Below w1.heap.size w1 v1 := hl0.trans hw1.bel; clear hw1) | (go_at_call 32; (with_reducible refine (wR _ ((textK m k) ++ [27, 91]) _ hu1 (by simp; omega)).mono ?_); rintro e v2 ⟨rfl, hu2, hw2⟩; have hx2 := hw2.box hx1 (by omega) (by decide); have hm2 := hw2.box hm1 (by omega) (by decide); have hcx2 := hx2.cell; have hlx2 := hx2.lt; have hl2' : Below w1.heap.size w1 v2 := hl1'.trans hw2.bel; clear hw2) | (go_at_call 33; (with_reducible refine (itoa_any n _ (by omega) (by omega) (ht.below (hl1.trans (hl2'.mono hl1.size)))).mono ?_); rintro e vi ⟨rfl, hbi⟩; have hui := hu2.below hbi; have hxi := (hbi.block _ hlx2).trans hx2; have hmi := (hbi.block _ hm2.lt).trans hm2; have hli' : Below w1.heap.size w1 vi := hl2'.trans (hbi.mono hl2'.size)) | (go_at_call 31; (with_reducible refine (wS _ (((textK m k) ++ [27, 91]) ++ [63]) (Lib.itoa n) _ hui (by simp; omega) (by omega)).mono ?_); rintro e v5 ⟨_, rfl, hu5, hw5⟩; have hx5 := hw5.box hxi (by omega) (by decide); have hm5 := hw5.box hmi (by omega) (by decide); have hcx5 := hx5.cell; have hlx5 := hx5.lt; have hl5' : Below w1.heap.size w1 v5 := hli'.trans hw5.bel; clear hw5) | (go_at_call 34; (with_reducible refine (wB _ ((((textK m k) ++ [27, 91]) ++ [63]) ++ Lib.itoa n) 104 104 _ hu5 (by simp; omega) rfl).mono ?_); rintro e v6 ⟨rfl, hu6, hw6⟩; have hx6 := hw6.box hx5 (by omega) (by decide); have hm6 := hw6.box hm5 (by omega) (by decide); have hcx6 := hx6.cell; have hlx6 := hx6.lt; have hl6' : Below w1.heap.size w1 v6 := hl5'.trans hw6.bel; clear hw6))
            go_roundw
            case rel => exact ⟨k + 1, by omega, by go_num, by rw [HE.out]; exact hu6, hm6, hl6'⟩
            case measure => simp [intOf]; omega
          · have e : textK m (k + 1) = ((((textK m k) ++ [27, 91]) ++ [63]) ++ Lib.itoa n) ++ [108] := by
              rw [HTK.out, HPM.out, if_neg hrr]
              simp [h1]
            have HE := Lib.hid e
            clear e
            go_wp2_with (first | (go_at_call 31; (with_reducible refine (wS _ (textK m k) [27, 91] _ hu0 (by omega) (by decide)).mono ?_); rintro e v1 ⟨_, rfl, hu1, hw1⟩; have hx1 := hw1.box hx0 (by omega) (by decide); have hm1 := hw1.box hm0 (by omega) (by decide); have hcx1 := hx1.cell; have hlx1 := hx1.lt; have hl1' : Below w1.heap.size w1 v1 := hl0.trans hw1.bel; clear hw1) | (go_at_call 32; (with_reducible refine (wR _ ((textK m k) ++ [27, 91]) _ hu1 (by simp; omega)).mono ?_); rintro e v2 ⟨rfl, hu2, hw2⟩; have hx2 := hw2.box hx1 (by omega) (by decide); have hm2 := hw2.box hm1 (by omega) (by decide); have hcx2 := hx2.cell; have hlx2 := hx2.lt; have hl2' : Below w1.heap.size w1 v2 := hl1'.trans hw2.bel; clear hw2) | (go_at_call 33; (with_reducible refine (itoa_any n _ (by omega) (by omega) (ht.below (hl1.trans (hl2'.mono hl1.size)))).mono ?_); rintro e vi ⟨rfl, hbi⟩; have hui := hu2.below hbi; have hxi := (hbi.block _ hlx2).trans hx2; have hmi := (hbi.block _ hm2.lt).trans hm2; have hli' : Below w1.heap.size w1 vi := hl2'.trans (hbi.mono hl2'.size)) | (go_at_call 31; (with_reducible refine (wS _ (((textK m k) ++ [27, 91]) ++ [63]) (Lib.itoa n) _ hui (by simp; omega) (by omega)).mono ?_); rintro e v5 ⟨_, rfl, hu5, hw5⟩; have hx5 := hw5.box hxi (by omega) (by decide); have hm5 := hw5.box hmi (by omega) (by decide); have hcx5 := hx5.cell; have hlx5 := hx5.lt; have hl5' : Below w1.heap.size w1 v5 := hli'.trans hw5.bel; clear hw5) | (go_at_call 34; (with_reducible refine (wB _ ((((textK m k) ++ [27, 91]) ++ [63]) ++ Lib.itoa n) 108 108 _ hu5 (by simp; omega) rfl).mono ?_); rintro e v6 ⟨rfl, hu6, hw6⟩; have hx6 := hw6.box hx5 (by omega) (by decide); have hm6 := hw6.box hm5 (by omega) (by decide); have hcx6 := hx6.cell; have hlx6 := hx6.lt; have hl6' : Below w1.heap.size w1 v6 := hl5'.trans hw6.bel; clear hw6))
            go_roundw
            case rel => exact ⟨k + 1, by omega, by go_num, by rw [HE.out]; exact hu6, hm6, hl6'⟩
            case measure => simp [intOf]; omega
    · obtain rfl : k = 13 := by omega
      have hbb := hbu.lt'
      go_wp2_with (go_at_call 35; (with_reducible refine (string_any _ _ _ hbu (by omega)).mono ?_); rintro e w2 ⟨rfl, hb2⟩)
      go_ret2
      exact ⟨rfl, hl1.trans ((hbel.trans hb2).mono hl1.size)⟩

end Go.Proofs.YtcmflmmidipckaaDoor
