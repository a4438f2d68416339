/- paste: the law's right. -/
import Derived.Test.YtnihneffgbhjjaaDoorJ
import Derived.Deep.CutBlock
import Derived.Deep.DeepCutAuto
import Derived.Outline
set_option linter.unusedSimpArgs false
set_option linter.unusedVariables false
set_option linter.unnecessarySimpa false
namespace Go.Proofs.YtnihneffgbhjjaaDoor
open Go.RowKit

theorem OwnS.store {w : World} {B g : Nat} {v : Value} {ss : List ByteArray} (h : OwnS w B v ss) (hg : v.ownBlock = some g) (j : Nat) (hj : j < ss.length) (t : ByteArray) : OwnS (w.setCell ⟨g, j, none⟩ (.string t)) B v (ss.set j t) := by
  rcases h.2 with ⟨rfl, h0⟩ | ⟨g', cap, cur, rfl, hb, hgg, hnc, hcm, hcs, ht⟩
  · simp [Value.ownBlock] at hg
  · simp [Value.ownBlock] at hg
    subst hg
    refine ⟨by simp, .inr ⟨g', cap, cur.setIfInBounds j (.string t), by simp, hb, heap_setCell_same w g' j cur 9 _ hgg, by simpa using hnc, hcm, by simpa using hcs, ?_⟩⟩
    rw [List.length_set, List.map_set, ← ht]
    simp only [Array.toList_setIfInBounds]
    rw [List.take_set]
theorem ownS_free {w : World} {B g n c : Nat} {ss : List ByteArray} (h : OwnS w B (.slice (some ⟨g, 0, none⟩) n c) ss) (j : Nat) : w.frozen? ⟨g, j, none⟩ = false := by
  rcases h.2 with ⟨hv, _⟩ | ⟨g', cap, cur, hv, _, hgg, _⟩
  · cases hv
  · injection hv with hv
    injection hv with hv
    injection hv with hv
    subst hv
    exact frozen_of_row w g j cur 9 hgg
/-- The look while it is reckoned. -/
def lkV (a b c d : Int) (e : Bool) : Array Value := #[.int .i64 a, .int .i64 b, .int .i64 c, .int .i64 d, .bool e]
theorem Bar.cell {D : Nat} {w w' : World} (h : Bar D w w') (g o : Nat) (hg : g ≠ D) (hl : g < w.heap.size) : w'.cell? ⟨g, o, none⟩ = w.cell? ⟨g, o, none⟩ := World.cell?_of_block (h.block g hg hl)
set_option maxHeartbeats 8000000 in
set_option maxRecDepth 100000 in
theorem right_any (vb : Value) (size : Int) (l : List Int) (w : World) (hg : Gl w) (hb : Rd w .u8 vb l) (hl : ∀ x ∈ l, Byte x) (hlen : l.length ≤ 1048576) (hs1 : -9223372036854775808 ≤ size) (hs2 : size ≤ 9223372036854775807) :
    Calls Tryd.prog 9 #[vb, .int .i64 size] w fun e w' => e = .returned (.bool true) ∧ Below w.heap.size w w' := by
  have hdl := clnD_len l hl
  have hlf := leftR_le (decL l)
  have hdl2 := decL_len l hl
  have hbl := clnB_len l hl
  have cCl := fun W (h : Below w.heap.size w W) => cleaned_any vb l W (hb.below h) hl (by omega)
  have cC := fun W (h : Below w.heap.size w W) => cleans_ok vb l W (hb.below h) hl hlen
  have cPf := fun W (h : Below w.heap.size w W) => pastes_ok vb false l W (hb.below h) hl hlen
  have cPt := fun W (h : Below w.heap.size w W) => pastes_ok vb true l W (hb.below h) hl hlen
  have cL := fun W (h : Below w.heap.size w W) => looks_ok vb l W (hg.below h) (hb.below h) hl hlen
  have cE := fun v W (h : Rd W .i32 v (clnD l)) => encode_any v (clnD l) W h (by omega)
  have cPa := fun W (h : Below w.heap.size w W) (hs : size < 4) => parts_arg vb size l W (hb.below h) hl hlen hs
  have cPo := fun wv W (h : Below w.heap.size w W) (hs : 4 ≤ size) (hw : RdS W wv ((pcsL size (clnD l)).map fun p => strOfNums (encL p))) => parts_ok vb wv size l W (hg.below h) (hb.below h) hl hlen hs hs2 hw
  rw [pasteB_false] at cPf
  unfold CldE at cCl
  unfold RetOwn at cE
  have e0 : encL (clnD l) = clnB l := rfl
  rw [e0] at cE
  clear e0
  have HPN := Lib.hid (pasteB_nil l)
  have HPT := Lib.hid (pasteB_true l)
  have hSn : (strOfNums (clnB l)).size = (clnB l).length := strOf_size _
  have hnil : (clnD l = [] ∧ clnB l = [] ) ∨ (clnD l ≠ [] ∧ clnB l ≠ []) := by
    cases h : clnD l with
    | nil => exact .inl ⟨rfl, by unfold clnB; rw [h]; rfl⟩
    | cons a t =>
      refine .inr ⟨by simp, fun e => ?_⟩
      have := (encL_length (clnD l)).1
      have e2 : (encL (clnD l)).length = 0 := by show (clnB l).length = 0; rw [e]; rfl
      rw [e2, h] at this
      simp at this
  have HLV : Hid (lookV l = lkV (if clnD l = [] then 0 else 1 + ((clnD l).count 13 : Int)) (clnD l).length (leftR (decL l)) (((clnD l).count 65533 : Int) - (occ3 l : Int)) (decide (1 < (if clnD l = [] then 0 else 1 + ((clnD l).count 13 : Int))) || decide (0 < (leftR (decL l) : Int)))) := Lib.hid rfl
  generalize lookV l = lv at *
  generalize leftR (decL l) = left at *
  generalize clnD l = ds at *
  obtain ⟨p0, n0, c0, hve⟩ := hb.shape
  subst hve
  obtain ⟨pb, cb, hve, hlc, hcm, hcell⟩ := hb
  injection hve with hve1 hve2 hve3
  subst hve1 hve2 hve3
  unfold maxLen at hcm
  generalize hgS : strOfNums (clnB l) = S at *
  have HS := Lib.hid hgS
  have HN := Lib.hid hnil
  clear hgS hnil hSn
  go_enter Tryd.func9, Tryd.ntmps9
  go_upto_region 5 with (first | (go_at_call 18; (with_reducible refine (cCl _ (Below.refl _ _)).mono ?_); rintro e w1 ⟨v5, rfl, hown1, hb1⟩; have hrd1 := hown1.rd; obtain ⟨p5, c5, hv5, hq1, hq2, hq3⟩ := hrd1; subst hv5; have hrd1 : Rd w1 .i32 (.slice p5 ds.length c5) ds := ⟨p5, c5, rfl, hq1, hq2, hq3⟩) | (go_at_call 10; (with_reducible refine (cE _ _ hrd1).mono ?_); rintro e w2 ⟨u, rfl, hown2, hb2⟩; have ku := run_str (P := Tryd.prog) 22 9 5 Tryd.underlying22 Tryd.underlying5 Tryd.underlying9 hown2.rd; rw [HS.out] at ku; obtain ⟨pu, nu, cu, hue⟩ := hown2.rd.shape; subst hue; have hb12 := bl_trans hb1 hb2) | (go_at_call 11; (with_reducible refine (cC _ hb12).mono ?_); rintro e w3 ⟨rfl, hb3⟩; have hb13 := bl_trans hb12 hb3) | (go_at_call 12; (with_reducible refine (cPf _ hb13).mono ?_); rintro e w4 ⟨rfl, hb4⟩; have hb14 := bl_trans hb13 hb4; have hb24 := bl_trans hb3 hb4))
  go_cut [53] (fun t wx => t = .bool false ∧ Below w4.heap.size w4 wx)
  case first =>
    rcases HN.out with ⟨h1, h2⟩ | ⟨h1, h2⟩
    · have hSe := HS.out
      rw [h2] at hSe
      have hPe := HPN.out h2
      rw [hPe] at cPt
      have hS0 : S.size = 0 := by (rw [← hSe]; rfl)
      clear hSe hPe h1 h2
      go_wp2_with (first | (go_at_call 12; (with_reducible refine (cPt _ hb14).mono ?_); rintro e w5 ⟨rfl, hb5⟩))
      go_meet
      exact ⟨rfl, hb5⟩
    · have hSe := HS.out
      have hPe := HPT.out h2
      rw [hPe] at cPt
      have hpos : 0 < S.size := by rw [← hSe, strOf_size]; exact List.length_pos_iff.2 h2
      have hz : ((S.size : Int) == 0) = false := by (rw [beq_eq_false_iff_ne]; omega)
      have hz2 : (S.size == 0) = false := by (rw [beq_eq_false_iff_ne]; omega)
      have hSz : S.size ≤ 4 * l.length + 4 := by rw [← hSe, strOf_size]; exact hbl
      clear hSe hPe h1 h2
      go_wp2_with (first | (go_at_call 12; (with_reducible refine (cPt _ hb14).mono ?_); rintro e w5 ⟨rfl, hb5⟩))
      go_meet
      exact ⟨rfl, hb5⟩
  case rest =>
  obtain ⟨rfl, hbc⟩ := hcut
  clear cC cPf cPt HPN HPT cCl cE ku hown2
  have hb15 := bl_trans hb14 hbc
  have hb25 := bl_trans hb24 hbc
  have hown5 := (hown1.kept hb2).kept hb25
  have hrd5 := hown5.rd
  obtain ⟨w5, hw5⟩ : ∃ w5, wc = w5 := ⟨_, rfl⟩
  subst hw5
  clear hbc hb14 hb24 hb13 hb12 hb3 hb4 hb2
  go_upto_if 60 with fail
  have hb8 : w.heap.size ≤ wc.heap.size := hb15.size
  have hx0 : Box (wc.alloc (.cells (lkV 0 ds.length left 0 false) 33)) wc.heap.size (lkV 0 ds.length left 0 false) 33 := Box.new _ _ _ rfl
  have hW0 : Below w.heap.size w (wc.alloc (.cells (lkV 0 ds.length left 0 false) 33)) := bl_alloc hb15 _
  have hlt8 : wc.heap.size < (wc.alloc (.cells (lkV 0 ds.length left 0 false) 33)).heap.size := hx0.lt
  have hcell5 : ∀ k (hk : k < ds.length), ∃ g off, p5 = some ⟨g, off, none⟩ ∧ g < wc.heap.size ∧ (wc.alloc (.cells (lkV 0 ds.length left 0 false) 33)).cell? ⟨g, off + k, none⟩ = some (.int .i32 ds[k]) := by
    obtain ⟨p6, c6, hv6, hz1, hz2, hz3⟩ := hrd5
    injection hv6 with hv7 hv8 hv9
    subst hv7 hv9
    intro k hk
    obtain ⟨g, off, hp, hgl, hc⟩ := Rd.at hz3 hz1 hk
    exact ⟨g, off, hp, hgl, ((bl_alloc (Below.refl wc.heap.size wc) _).cell (p := ⟨g, off + k, none⟩) hgl).trans hc⟩
  have hcellb : ∀ k (hk : k < l.length), ∃ g off, p0 = some ⟨g, off, none⟩ ∧ g < wc.heap.size ∧ (wc.alloc (.cells (lkV 0 ds.length left 0 false) 33)).cell? ⟨g, off + k, none⟩ = some (.int .u8 l[k]) := by
    intro k hk
    obtain ⟨g, off, hp, hgl, hc⟩ := Rd.at hcell hlc hk
    exact ⟨g, off, hp, by omega, (hW0.cell (p := ⟨g, off + k, none⟩) hgl).trans hc⟩
  have H5 := Lib.hid hcell5
  have HB := Lib.hid hcellb
  clear hcell5 hcellb hcell hrd5 hrd1 hq1 hq2 hq3
  have e8 : (#[.int .i64 0, .int .i64 ds.length, .int .i64 left, .int .i64 0, .bool false] : Array Value) = lkV 0 ds.length left 0 false := rfl
  rw [e8]
  clear e8
  obtain ⟨W0, hWe⟩ : ∃ W0, wc.alloc (.cells (lkV 0 ds.length left 0 false) 33) = W0 := ⟨_, rfl⟩
  obtain ⟨b8, hbe⟩ : ∃ b8, wc.heap.size = b8 := ⟨_, rfl⟩
  rw [hWe] at hx0 hW0 hlt8 H5 HB ⊢
  rw [hbe] at hx0 hlt8 H5 HB hb8 ⊢
  clear hWe hbe hb15 hb25 hown5 hown1
  have hdn : ds.length ≤ 1048577 := by omega
  have hln : left ≤ 1048577 := by omega
  clear hdl hdl2 hlf hbl
  go_cut [8] (fun v wx => v = .pointer (some ⟨b8, 0, none⟩) ∧ Bar b8 W0 wx ∧ Box wx b8 (lkV (if ds = [] then 0 else 1) ds.length left 0 false) 33)
  case first =>
    have hc0 := hx0.cell
    have hf0 := hx0.free
    rcases HN.out with ⟨h1, h2⟩ | ⟨h1, h2⟩
    · subst h1
      clear h2
      go_wp2_with fail
      go_meet
      exact ⟨rfl, Bar.refl _ _, hx0⟩
    · have hpos : 0 < ds.length := List.length_pos_iff.2 h1
      have HI : Hid ((if ds = [] then 0 else 1 : Int) = 1) := Lib.hid (if_neg h1)
      clear h1 h2
      go_wp2_with fail
      go_meet
      exact ⟨rfl, Bar.set (Bar.refl _ _) 0 _, by rw [HI.out]; exact hx0.set 0 _⟩
  case rest =>
  obtain ⟨rfl, hbar, hx⟩ := hcut
  obtain ⟨L0, hL0⟩ : ∃ L0 : Int, (if ds = [] then 0 else 1 : Int) = L0 := ⟨_, rfl⟩
  have hL0b : 0 ≤ L0 ∧ L0 ≤ 1 := by rw [← hL0]; split <;> omega
  rw [hL0] at hx
  have HL0 := Lib.hid hL0
  clear hL0 hx0
  go_wp2_with fail
  go_loopw [9] (fun i wr => ∃ k : Nat, k ≤ ds.length ∧ i = .int .i64 k ∧ Bar b8 W0 wr ∧ Box wr b8 (lkV (L0 + ((ds.take k).count 13 : Int)) ds.length left ((ds.take k).count 65533 : Int) false) 33) (fun i _ => ds.length - (intOf i).toNat)
  case atStart => exact ⟨0, by omega, rfl, hbar, by simpa using hx⟩
  case round =>
    clear hbar hx
    obtain ⟨k, hk, rfl, hbar, hx⟩ := hrel
    by_cases hlt : k < ds.length
    · obtain ⟨g, off, hp, hgl, hc⟩ := H5.out k hlt
      have hcr : ∀ W, Bar b8 W0 W → W.cell? ⟨g, off + k, none⟩ = some (.int .i32 ds[k]) := fun W h => (h.cell g (off + k) (by omega) (by omega)).trans hc
      have hcr1 := hcr wr hbar
      have hc13 := Lib.hid (cnt_take 13 ds k hlt)
      have hcff := Lib.hid (cnt_take 65533 ds k hlt)
      have hk1 : (ds.take k).count 13 ≤ k := Nat.le_trans List.count_le_length (List.length_take_le _ _)
      have hk2 : (ds.take k).count 65533 ≤ k := Nat.le_trans List.count_le_length (List.length_take_le _ _)
      have hgw : g < wr.heap.size := by have := hbar.size; omega
      have hbw := hx.lt
      subst hp
      clear hc
      generalize ds[k] = r at *
      generalize (ds.take k).count 13 = c13 at *
      generalize (ds.take k).count 65533 = cff at *
      have hltI : (k : Int) < (ds.length : Int) := by omega
      have hxc : ∀ o, wr.cell? ⟨b8, o, none⟩ = (#[.int .i64 (L0 + (c13 : Int)), .int .i64 ds.length, .int .i64 left, .int .i64 (cff : Int), .bool false] : Array Value)[o]? := hx.cell
      have hxf := hx.free
      by_cases h13 : r = 13
      · subst h13
        have HC : Hid ((ds.take (k + 1)).count 13 = c13 + 1) := Lib.hid (by rw [hc13.out, if_pos rfl])
        have HF : Hid ((ds.take (k + 1)).count 65533 = cff) := Lib.hid (by rw [hcff.out, if_neg (by decide), Nat.add_zero])
        have hcr2 := hcr (wr.setCell ⟨b8, 0, none⟩ (.int .i64 (L0 + (c13 : Int) + 1))) (hbar.set 0 _)
        clear hcr
        go_wp2_with fail
        go_roundw
        case rel => first | exact ⟨k + 1, by omega, by go_num, hbar.set 0 _, by (rw [HC.out, HF.out]; refine Box.as (hx.set 0 _) ?_; simp [lkV]; omega)⟩ | ((repeat apply Exists.intro); exact ⟨⟨k + 1, by omega, by go_num, hbar.set 0 _, by (rw [HC.out, HF.out]; refine Box.as (hx.set 0 _) ?_; simp [lkV]; omega)⟩, rfl⟩)
        case measure => simp [intOf]; omega
      · have n13 : (r == 13) = false := by (rw [beq_eq_false_iff_ne]; exact h13)
        have HC : Hid ((ds.take (k + 1)).count 13 = c13) := Lib.hid (by rw [hc13.out, if_neg h13, Nat.add_zero])
        by_cases hff : r = 65533
        · subst hff
          have HF : Hid ((ds.take (k + 1)).count 65533 = cff + 1) := Lib.hid (by rw [hcff.out, if_pos rfl])
          clear hcr h13
          go_wp2_with fail
          go_roundw
          case rel => first | exact ⟨k + 1, by omega, by go_num, hbar.set 3 _, by (rw [HC.out, HF.out]; refine Box.as (hx.set 3 _) ?_; simp [lkV])⟩ | ((repeat apply Exists.intro); exact ⟨⟨k + 1, by omega, by go_num, hbar.set 3 _, by (rw [HC.out, HF.out]; refine Box.as (hx.set 3 _) ?_; simp [lkV])⟩, rfl⟩)
          case measure => simp [intOf]; omega
        · have nff : (r == 65533) = false := by (rw [beq_eq_false_iff_ne]; exact hff)
          have HF : Hid ((ds.take (k + 1)).count 65533 = cff) := Lib.hid (by rw [hcff.out, if_neg hff, Nat.add_zero])
          clear hcr h13 hff
          go_wp2_with fail
          go_roundw
          case rel => first | exact ⟨k + 1, by omega, by go_num, hbar, by (rw [HC.out, HF.out]; exact hx)⟩ | ((repeat apply Exists.intro); exact ⟨⟨k + 1, by omega, by go_num, hbar, by (rw [HC.out, HF.out]; exact hx)⟩, rfl⟩)
          case measure => simp [intOf]; omega
    · obtain rfl : k = ds.length := by omega
      rw [List.take_length] at hx
      obtain ⟨w6, hw6⟩ : ∃ w6 : World, w6 = wr := ⟨_, rfl⟩
      subst hw6
      have hc1 : ds.count 13 ≤ ds.length := List.count_le_length
      have hc2 : ds.count 65533 ≤ ds.length := List.count_le_length
      have hoc := occ3_le l
      generalize hg13 : ds.count 13 = c13 at *
      generalize hgff : ds.count 65533 = cff at *
      have H13 := Lib.hid hg13
      have HFF := Lib.hid hgff
      clear hg13 hgff
      obtain ⟨ol, hol⟩ : ∃ ol, occ3 l = ol := ⟨_, rfl⟩
      rw [hol] at hoc HLV
      have HOL := Lib.hid hol
      clear hol
      go_wp2_with fail
      go_loopw [10] (fun i wr => ∃ k : Nat, k ≤ l.length ∧ i = .int .i64 k ∧ Bar b8 W0 wr ∧ Box wr b8 (lkV (L0 + (c13 : Int)) ds.length left ((cff : Int) - (ol : Int) + (occ3 (l.drop k) : Int)) false) 33) (fun i _ => l.length - (intOf i).toNat)
      case atStart => exact ⟨0, by omega, rfl, hbar, by (rw [List.drop_zero, HOL.out, Int.sub_add_cancel]; exact hx)⟩
      case round =>
        clear hbar hx
        obtain ⟨k, hk, rfl, hbar, hx⟩ := hrel
        have hbw := hx.lt
        have hxf := hx.free
        have hod := occ3_le (l.drop k)
        rw [List.length_drop] at hod
        by_cases hlt : k + 2 < l.length
        · obtain ⟨g, off, hp, hgl, hca⟩ := HB.out k (by omega)
          obtain ⟨g', off', hp', _, hcb⟩ := HB.out (k + 1) (by omega)
          obtain ⟨g'', off'', hp'', _, hcc⟩ := HB.out (k + 2) (by omega)
          have e1 := hp.symm.trans hp'
          have e2 := hp.symm.trans hp''
          injection e1 with e1
          injection e1 with e1 e1'
          injection e2 with e2
          injection e2 with e2 e2'
          subst e1 e1' e2 e2'
          have hr0 : wr.cell? ⟨g, off + k, none⟩ = some (.int .u8 l[k]) := (hbar.cell g _ (by omega) (by omega)).trans hca
          have hr1 : wr.cell? ⟨g, off + (k + 1), none⟩ = some (.int .u8 l[k + 1]) := (hbar.cell g _ (by omega) (by omega)).trans hcb
          have hr2 : wr.cell? ⟨g, off + (k + 2), none⟩ = some (.int .u8 l[k + 2]) := (hbar.cell g _ (by omega) (by omega)).trans hcc
          have hod1 := Lib.hid (occ3_drop l k hlt)
          have hgw : g < wr.heap.size := by have := hbar.size; omega
          have hlk : k + 2 < l.length ∧ k + 1 < l.length ∧ k < l.length := by omega
          obtain ⟨hlk2, hlk1, hlk0⟩ := hlk
          subst hp
          clear hca hcb hcc hp' hp'' hl
          generalize l[k] = a at *
          generalize l[k + 1] = b at *
          generalize l[k + 2] = c at *
          have hod2 := occ3_le (l.drop (k + 1))
          rw [List.length_drop] at hod2
          generalize hoo : occ3 (l.drop k) = oc at *
          obtain ⟨od, hod4⟩ : ∃ od, occ3 (l.drop (k + 1)) = od := ⟨_, rfl⟩
          rw [hod4] at hod1 hod2
          have HOD := Lib.hid hod4
          clear hod4
          have hod3 : oc ≤ od + 1 := by have := hod1.out; split at this <;> omega
          have hxc : ∀ o, wr.cell? ⟨b8, o, none⟩ = (#[.int .i64 (L0 + (c13 : Int)), .int .i64 ds.length, .int .i64 left, .int .i64 ((cff : Int) - (ol : Int) + (oc : Int)), .bool false] : Array Value)[o]? := hx.cell
          have hcs : (a = 239 ∧ b = 191 ∧ c = 189) ∨ (a ≠ 239) ∨ (a = 239 ∧ b ≠ 191) ∨ (a = 239 ∧ b = 191 ∧ c ≠ 189) := by omega
          clear hoo
          rcases hcs with ⟨rfl, rfl, rfl⟩ | h | ⟨rfl, h⟩ | ⟨rfl, rfl, h⟩
          · have HO : Hid (oc = 1 + od) := Lib.hid (by rw [hod1.out, if_pos ⟨rfl, rfl, rfl⟩])
            clear hod1
            go_wp2_with fail
            go_roundw
            case rel => first | exact ⟨k + 1, by omega, by go_num, hbar.set 3 _, by (rw [HOD.out]; refine Box.as (hx.set 3 _) ?_; have := HO.out; simp [lkV]; omega)⟩ | ((repeat apply Exists.intro); exact ⟨⟨k + 1, by omega, by go_num, hbar.set 3 _, by (rw [HOD.out]; refine Box.as (hx.set 3 _) ?_; have := HO.out; simp [lkV]; omega)⟩, rfl⟩)
            case measure => simp [intOf]; omega
          · have HO : Hid (oc = od) := Lib.hid (by rw [hod1.out, if_neg (by omega), Nat.zero_add])
            have n1 : (a == 239) = false := by (rw [beq_eq_false_iff_ne]; exact h)
            clear hod1 h
            go_wp2_with fail
            go_roundw
            case rel => first | exact ⟨k + 1, by omega, by go_num, hbar, by (rw [HOD.out, ← HO.out]; exact hx)⟩ | ((repeat apply Exists.intro); exact ⟨⟨k + 1, by omega, by go_num, hbar, by (rw [HOD.out, ← HO.out]; exact hx)⟩, rfl⟩)
            case measure => simp [intOf]; omega
          · have HO : Hid (oc = od) := Lib.hid (by rw [hod1.out, if_neg (by omega), Nat.zero_add])
            have n1 : (b == 191) = false := by (rw [beq_eq_false_iff_ne]; exact h)
            clear hod1 h
            go_wp2_with fail
            go_roundw
            case rel => first | exact ⟨k + 1, by omega, by go_num, hbar, by (rw [HOD.out, ← HO.out]; exact hx)⟩ | ((repeat apply Exists.intro); exact ⟨⟨k + 1, by omega, by go_num, hbar, by (rw [HOD.out, ← HO.out]; exact hx)⟩, rfl⟩)
            case measure => simp [intOf]; omega
          · have HO : Hid (oc = od) := Lib.hid (by rw [hod1.out, if_neg (by omega), Nat.zero_add])
            have n1 : (c == 189) = false := by (rw [beq_eq_false_iff_ne]; exact h)
            clear hod1 h
            go_wp2_with fail
            go_roundw
            case rel => first | exact ⟨k + 1, by omega, by go_num, hbar, by (rw [HOD.out, ← HO.out]; exact hx)⟩ | ((repeat apply Exists.intro); exact ⟨⟨k + 1, by omega, by go_num, hbar, by (rw [HOD.out, ← HO.out]; exact hx)⟩, rfl⟩)
            case measure => simp [intOf]; omega
        · have hz : occ3 (l.drop k) = 0 := occ3_short _ (by rw [List.length_drop]; omega)
          rw [hz] at hx hod
          rw [show (cff : Int) - (ol : Int) + ((0 : Nat) : Int) = (cff : Int) - (ol : Int) by omega] at hx
          have HLL : Hid (lv = lkV (L0 + (c13 : Int)) ds.length left ((cff : Int) - (ol : Int)) (decide (1 < L0 + (c13 : Int)) || decide (0 < (left : Int)))) := Lib.hid (by
            have e := HLV.out
            have h0 := HL0.out
            have hz13 : ds = [] → c13 = 0 := fun h => by rw [← H13.out, h]; rfl
            by_cases h : ds = []
            · rw [if_pos h] at h0 e
              rw [e, hz13 h, ← h0]
              rfl
            · rw [if_neg h] at h0 e
              rw [e, ← h0])
          clear HLV HL0 hz hod
          have hoc2 := hoc
          have hxc : ∀ o, wr.cell? ⟨b8, o, none⟩ = (#[.int .i64 (L0 + (c13 : Int)), .int .i64 ds.length, .int .i64 left, .int .i64 ((cff : Int) - (ol : Int)), .bool false] : Array Value)[o]? := hx.cell
          have hrisk : ∃ rk : Bool, (decide (1 < L0 + (c13 : Int)) || decide (0 < (left : Int))) = rk := ⟨_, rfl⟩
          obtain ⟨rk, hrk⟩ := hrisk
          rw [hrk] at HLL
          have HRK := Lib.hid hrk
          clear hrk
          go_upto_region 22 with fail
          go_cut [8] (fun v wx => v = .pointer (some ⟨b8, 0, none⟩) ∧ Bar b8 W0 wx ∧ Box wx b8 (lkV (L0 + (c13 : Int)) ds.length left ((cff : Int) - (ol : Int)) rk) 33)
          case first =>
            go_wp2_with fail
            all_goals
              go_meet
              refine ⟨rfl, hbar.set 4 _, Box.as (hx.set 4 _) ?_⟩
              have := HRK.out
              simp [lkV] at *
              simp_all
          case rest =>
          obtain ⟨rfl, hbar3, hx3⟩ := hcut
          clear hbar hx hxc hxf hbw
          obtain ⟨w6, hw6⟩ : ∃ w6 : World, w6 = wc := ⟨_, rfl⟩
          subst hw6
          have hbX := Bar.to_below hW0 hbar3 hb8
          rw [HLL.out] at cL
          have hxc : ∀ o, w6.cell? ⟨b8, o, none⟩ = (#[.int .i64 (L0 + (c13 : Int)), .int .i64 ds.length, .int .i64 left, .int .i64 ((cff : Int) - (ol : Int)), .bool rk] : Array Value)[o]? := hx3.cell
          have hbw := hx3.lt
          unfold lkV at cL
          by_cases hs4 : size < 4
          · go_wp2_with (first | (go_at_call 13; (with_reducible refine (cL _ hbX).mono ?_); rintro e w7 ⟨rfl, hb7⟩) | (go_at_call 14; (with_reducible refine (cPa _ (bl_trans hbX hb7) hs4).mono ?_); rintro e w9 ⟨rfl, hb9⟩))
            go_ret
            exact ⟨rfl, bl_trans (bl_trans hbX hb7) hb9⟩
          · have hs5 : 4 ≤ size := by omega
            clear cPa HLL HRK hs4
            go_wp2_with (first | (go_at_call 13; (with_reducible refine (cL _ hbX).mono ?_); rintro e w7 ⟨rfl, hb7⟩; have hbX7 := bl_trans hbX hb7; have hs7 := hb7.size))
            clear cL hxc
            go_loopw [11, 12] (fun v i wr => ∃ k : Nat, k ≤ ds.length ∧ i = .int .i64 k ∧ OwnS wr w7.heap.size v (stS ((ds.take k).foldl (mrg size) [])) ∧ Below w7.heap.size w7 wr) (fun _ i _ => ds.length - (intOf i).toNat)
            case atStart => exact ⟨0, by omega, rfl, World.ownsRow_nil _ _ _ _, Below.refl _ _⟩
            case round =>
              obtain ⟨k, hk, rfl, hown, hbel⟩ := hrel
              by_cases hlt : k < ds.length
              · obtain ⟨g, off, hp, hgl, hc⟩ := H5.out k hlt
                have hcr : wr.cell? ⟨g, off + k, none⟩ = some (.int .i32 ds[k]) := (hbel.cell (p := ⟨g, off + k, none⟩) (by show g < _; omega)).trans ((hb7.cell (p := ⟨g, off + k, none⟩) (by show g < _; omega)).trans ((hbar3.cell g (off + k) (by omega) (by omega)).trans hc))
                have HM := Lib.hid (mrg_take size ds k hlt)
                have hal := mrg_foldlen size (ds.take k) []
                have hfl := mrg_foldflat size (ds.take k) []
                rw [List.length_take] at hal
                have hgw : g < wr.heap.size := by have := hbel.size; omega
                have hbs := hbel.size
                have hltI : (k : Int) < (ds.length : Int) := by omega
                subst hp
                clear hc
                generalize ds[k] = r at *
                generalize (ds.take k).foldl (mrg size) [] = acc at *
                have hal2 : acc.length ≤ k := by simp at hal; omega
                have cE1 := fun W v (h : Rd W .i32 v [r]) => encode_any v [r] W h (by simp)
                unfold RetOwn at cE1
                have hE := enc1_length r
                have hTs : (strOfNums (encL [r])).size ≤ 4 := by rw [strOf_size]; have := (encL_length [r]).2; simpa using this
                have HE1 : Hid ((strOfNums (encL [r])).size = (enc1 r).length) := Lib.hid (by rw [strOf_size]; simp [encL])
                obtain ⟨T, hT⟩ : ∃ T, strOfNums (encL [r]) = T := ⟨_, rfl⟩
                rw [hT] at hTs HE1
                have HT := Lib.hid hT
                have kT : ∀ W v, Rd W .u8 v (encL [r]) → (convert 22 9 v).run Tryd.prog W = .ok (.string T) W := fun W v h => by
                  have := run_str (P := Tryd.prog) 22 9 5 Tryd.underlying22 Tryd.underlying5 Tryd.underlying9 h
                  rw [hT] at this; exact this
                have KT := Lib.hid kT
                clear hT kT
                have hTl : (T.size : Int) ≤ 4 := by omega
                have HFL := Lib.hid hfl
                clear hfl
                rcases List.eq_nil_or_concat acc with rfl | ⟨acc', p, rfl⟩
                · have HS2 : Hid (stS ((ds.take (k + 1)).foldl (mrg size) []) = stS [] ++ [T]) := Lib.hid (by rw [HM.out, ← HT.out]; rfl)
                  rcases hown.2 with ⟨hv, _⟩ | ⟨g3, c3, cur3, hv, _⟩
                  all_goals
                    subst hv
                    have e3 : (stS []).length = 0 := rfl
                    have hown : OwnS wr w7.heap.size _ (stS []) := hown
                    first | rw [e3] at hown ⊢ | skip
                    clear e3 hal
                    go_wp2_with (first | (go_at_call 10; (with_reducible refine (cE1 _ _ (Rd.lit1 wr 21 .i32 r wr.heap.size rfl)).mono ?_); rintro e w8 ⟨u, rfl, hou, hb8'⟩; have ku := KT.out _ _ hou.rd; obtain ⟨pu, nu, cu, hue⟩ := hou.rd.shape; subst hue; have hbr8 := bl_trans (bl_alloc (Below.refl wr.heap.size wr) _) hb8'; have hown8 := hown.kept hbr8; have hs8 := hbr8.size) | (at_builtin; refine wpList_appS rfl (.tmp 174) (.tmp 176) rfl w7.heap.size _ _ T w8.heap.size (hown8.kept (bl_alloc (Below.refl _ _) _)) (by rw [(Box.new w8 #[_] 9 rfl).cell]; rfl) rfl rfl (by unfold stS; rw [List.length_map]; omega) (by simp; omega) ?_; intro v9 w9 hown9 hb9))
                    go_roundw
                    case rel => first | exact ⟨k + 1, by omega, by go_num, by (rw [HS2.out]; exact hown9), (bl_trans hbel hbr8).trans ((Below.alloc (Below.refl _ _) (by omega) _).trans hb9)⟩ | ((repeat apply Exists.intro); exact ⟨⟨k + 1, by omega, by go_num, by (rw [HS2.out]; exact hown9), (bl_trans hbel hbr8).trans ((Below.alloc (Below.refl _ _) (by omega) _).trans hb9)⟩, rfl⟩)
                    case measure => simp [intOf]; omega
                · rw [List.concat_eq_append] at HM hown hal2 HFL
                  have hpl : p.length ≤ k := by
                    have e := congrArg List.length HFL.out
                    simp at e
                    omega
                  have hSp : (strOfNums (encL p)).size ≤ 4 * k := by (rw [strOf_size]; have := (encL_length p).2; omega)
                  have hSl : (stS (acc' ++ [p])).length = acc'.length + 1 := by unfold stS; simp
                  have HSS := Lib.hid (stS_snoc acc' p)
                  obtain ⟨g3, c3, rfl, hB3, hg3, hlc3, hcm3, hcl3⟩ := hown.cells (by rw [HSS.out]; simp)
                  have hcn : wr.cell? ⟨g3, acc'.length, none⟩ = some (.string (strOfNums (encL p))) := hcl3 _ _ (by rw [HSS.out]; simp [stS])
                  have HMS := Lib.hid (HM.out.trans (mrg_snoc size acc' p r))
                  have hsl2 : (stS (acc' ++ [p])).length ≤ 100000000 := by (rw [hSl]; simp at hal2; omega)
                  rw [hSl] at hown hlc3 ⊢
                  have hal3 : acc'.length + 1 ≤ k := by simpa using hal2
                  have HSZ : Hid ((strOfNums (encL p)).size = (encL p).length) := Lib.hid (strOf_size _)
                  have HEN := Lib.hid (enc_snoc p r)
                  rw [HT.out] at HEN
                  clear hcl3 hSl hal hal2 HM HFL
                  obtain ⟨Sp, hSpe⟩ : ∃ Sp, strOfNums (encL p) = Sp := ⟨_, rfl⟩
                  rw [hSpe] at hSp hcn HSZ HEN HSS
                  have HSp := Lib.hid hSpe
                  clear hSpe
                  by_cases hfit : (Sp.size : Int) + (T.size : Int) ≤ size
                  · have HS2 : Hid (stS ((ds.take (k + 1)).foldl (mrg size) []) = (stS (acc' ++ [p])).set acc'.length (Sp ++ T)) := Lib.hid (by
                      have e1 := HSZ.out
                      have e2 := HE1.out
                      rw [HMS.out, if_pos (by omega), stS_snoc, HSS.out, HEN.out]
                      have : acc'.length = (stS acc').length := by unfold stS; simp
                      rw [this]; simp)
                    have hSTs : (Sp ++ T).size ≤ 8000000 := by (rw [ByteArray.size_append]; omega)
                    go_wp2_with (first | (go_at_call 10; (with_reducible refine (cE1 _ _ (Rd.lit1 wr 21 .i32 r wr.heap.size rfl)).mono ?_); rintro e w8 ⟨u, rfl, hou, hb8'⟩; have ku := KT.out _ _ hou.rd; obtain ⟨pu, nu, cu, hue⟩ := hou.rd.shape; subst hue; have hbr8 := bl_trans (bl_alloc (Below.refl wr.heap.size wr) _) hb8'; have hown8 := hown.kept hbr8; have hs8 := hbr8.size; have hcn8 := (hbr8.cell (p := ⟨g3, acc'.length, none⟩) hg3).trans hcn; have hfn8 := ownS_free hown8 acc'.length; have hg38 : g3 < w8.heap.size := by omega))
                    go_roundw
                    case rel => first | exact ⟨k + 1, by omega, by go_num, by (rw [HS2.out]; exact hown8.store rfl acc'.length (by rw [HSS.out]; simp [stS]) _), (bl_trans hbel hbr8).setCell (p := ⟨g3, acc'.length, none⟩) hB3 _⟩ | ((repeat apply Exists.intro); exact ⟨⟨k + 1, by omega, by go_num, by (rw [HS2.out]; exact hown8.store rfl acc'.length (by rw [HSS.out]; simp [stS]) _), (bl_trans hbel hbr8).setCell (p := ⟨g3, acc'.length, none⟩) hB3 _⟩, rfl⟩)
                    case measure => simp [intOf]; omega
                  · have HS2 : Hid (stS ((ds.take (k + 1)).foldl (mrg size) []) = stS (acc' ++ [p]) ++ [T]) := Lib.hid (by
                      have e1 := HSZ.out
                      have e2 := HE1.out
                      rw [HMS.out, if_neg (by omega), stS_snoc, HT.out])
                    go_wp2_with (first | (go_at_call 10; (with_reducible refine (cE1 _ _ (Rd.lit1 wr 21 .i32 r wr.heap.size rfl)).mono ?_); rintro e w8 ⟨u, rfl, hou, hb8'⟩; have ku := KT.out _ _ hou.rd; obtain ⟨pu, nu, cu, hue⟩ := hou.rd.shape; subst hue; have hbr8 := bl_trans (bl_alloc (Below.refl wr.heap.size wr) _) hb8'; have hown8 := hown.kept hbr8; have hs8 := hbr8.size; have hcn8 := (hbr8.cell (p := ⟨g3, acc'.length, none⟩) hg3).trans hcn; have hfn8 := ownS_free hown8 acc'.length; have hg38 : g3 < w8.heap.size := by omega) | (at_builtin; refine wpList_appS rfl (.tmp 174) (.tmp 176) rfl w7.heap.size _ _ T w8.heap.size (hown8.kept (bl_alloc (Below.refl _ _) _)) (by rw [(Box.new w8 #[_] 9 rfl).cell]; rfl) rfl rfl (by omega) (by simp; omega) ?_; intro v9 w9 hown9 hb9))
                    go_roundw
                    case rel => first | exact ⟨k + 1, by omega, by go_num, by (rw [HS2.out]; exact hown9), (bl_trans hbel hbr8).trans ((Below.alloc (Below.refl _ _) (by omega) _).trans hb9)⟩ | ((repeat apply Exists.intro); exact ⟨⟨k + 1, by omega, by go_num, by (rw [HS2.out]; exact hown9), (bl_trans hbel hbr8).trans ((Below.alloc (Below.refl _ _) (by omega) _).trans hb9)⟩, rfl⟩)
                    case measure => simp [intOf]; omega
              · obtain rfl : k = ds.length := by omega
                rw [List.take_length, mrg_pcs size hs5] at hown
                go_wp2_with (first | (go_at_call 14; (with_reducible refine (cPo _ _ (bl_trans hbX7 hbel) hs5 (OwnS.rds hown)).mono ?_); rintro e w9 ⟨rfl, hb9⟩))
                go_ret
                exact ⟨rfl, bl_trans (bl_trans hbX7 hbel) hb9⟩

end Go.Proofs.YtnihneffgbhjjaaDoor
