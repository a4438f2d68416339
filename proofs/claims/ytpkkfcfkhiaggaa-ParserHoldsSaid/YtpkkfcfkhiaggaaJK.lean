/- parser: Write, Reset, Copy. Printed by mk_j.py. parser: Reset, Copy. Printed by mk_k.py. -/
import Derived.Test.YtpkkfcfkhiaggaaI
import Derived.Test.YtpkkfcfkhiaggaaMF
import Derived.Test.YtpkkfcfkhiaggaaUFM
import Derived.Deep.CutBlock
import Derived.Deep.DeepCutAuto
import Derived.Outline
import Derived.Great.BuildSlice
import Derived.Laws.CopyOwn
set_option linter.unusedSimpArgs false
set_option linter.unusedVariables false
set_option linter.unnecessarySimpa false
namespace Go.Proofs.Ytpkkfcfkhiaggaa
open Go.RowKit
open Go.Proofs.Ytpkkfcfkhiaggaa.Pm (fineR addB addO bldQ refL bldC BldV bldC_len)

theorem run_few (p : Ps) (l : List Int) : (psRun p l).2.length ≤ 2 * l.length := by
  induction l generalizing p with
  | nil => exact Nat.zero_le _
  | cons r l ih =>
    have h1 := step_few p r
    have h2 := ih (psStep p r).1
    show (_ ++ _ : List Ac).length ≤ _
    rw [List.length_append, List.length_cons]; omega
theorem PVx.fed {w w1 : World} {D : Nat} {X : Nat → Prop} {p : Ps} {bv tv bv' : Value} {m lo hi : Int} {ls s : List Int} (h : PVx w D X p bv tv m lo hi ls) (hX : ∀ g, X g → g < w.heap.size) (hb : Bar D w w1) (hd : DecV w1 D 31 ([.int .i64 p.st, .int .i32 p.pf, .string (strOfNums p.it)] ++ bldC ls p.ws.length p.ov ++ [tv]) bv' s) (hbv : bv' = bv ∨ Fresh w bv') (hwf : Wf s) : PV w1 D X (p.feed s) := by
  obtain ⟨m', lo', hi', hx, hrd, hap, hdec⟩ := hd
  have ho : ∀ g, bv'.ownBlock = some g → g ≠ D ∧ ¬ X g := by
    rcases hbv with rfl | hf
    · exact h.ob
    · intro g e
      have h1 := hrd.fresh hf g e
      have h2 := h.box.2.lt
      exact ⟨by omega, fun hx => by have := hX g hx; omega⟩
  exact ⟨bv', tv, m', lo', hi', ls, ⟨⟨h.box.1, Box.as hx (by show _ = (pcells _ _ _ _ p.st p.pf (strOfNums p.it) ls p.ws.length p.ov tv).toArray; unfold pcells; simp)⟩, hrd, rd_bar h.rt (fun e => (h.ot D e).1 rfl) hb, ho, h.ot, hdec, hwf, h.lw, h.tk, h.ok, h.ib, h.il, h.tb, h.tl⟩⟩
theorem Stepd.from {D : Nat} {X : Nat → Prop} {w w1 w' : World} {q : Ps × List Ac} {e : Ending} (h : Stepd D X w1 q e w') (hb : Bar D w w1) : Stepd D X w q e w' := by
  obtain ⟨v, xs, h1, h2, h3, h4, h5⟩ := h
  exact ⟨v, xs, h1, h2, h3.weaken hb.size, hb.trans h4, h5⟩
set_option maxHeartbeats 4000000 in
set_option maxRecDepth 100000 in
theorem pwrite_any (D : Nat) (X : Nat → Prop) (p : Ps) (v : Value) (l : List Int) (w : World) (hpv : PV w D X p) (hX : ∀ g, X g → g < w.heap.size) (hb : Rd w .u8 v l) (hap : v.ownBlock ≠ some D) (hl : ∀ x ∈ l, Byte x) (hlen : l.length ≤ 10000000) : Calls Try.prog 11 #[.pointer (some ⟨D, 0, none⟩), v] w (Stepd D X w (psWrite p l)) := by
  obtain ⟨bv, tv, m, lo, hi, ls, h⟩ := hpv
  have cF := feed_any D _ _ bv v p.bs l w h.decv h.wf hb (apart_of hap) hl (by omega)
  have hfl := feed_len l p.bs h.wf hl
  have hbl := h.wf.len
  have hsw := feedS_wf l p.bs h.wf hl
  unfold psWrite
  generalize feedO p.bs l = rs at *
  generalize feedS p.bs l = s at *
  have hD := h.box.2.lt
  go_enter Try.func11, Try.ntmps11
  go_wp2_with (first | (go_at_call 31; (with_reducible refine cF.mono ?_); rintro e w1 ⟨vr, bv', rfl, hor, hb1, hd1, hbv, hoff⟩; obtain ⟨qr, nr, hvr⟩ := Rd.lits hor.rd; subst hvr))
  have hp1 := h.fed hX hb1 hd1 hbv hsw
  have hrd1 := hor.rd
  have hoD : (Value.slice qr rs.length nr).ownBlock ≠ some D := fun e => by have := (hor.block D e).1; omega
  have hX1 : ∀ g, X g → g < w1.heap.size := fun g hg => Nat.lt_of_lt_of_le (hX g hg) hb1.size
  have hD1 : D < w1.heap.size := Nat.lt_of_lt_of_le hD hb1.size
  generalize p.feed s = p1 at *
  clear cF hd1 hbv hoff hor hsw hb hX hl
  go_loopw [5, 16] (fun o i wr => ∃ k : Nat, k ≤ rs.length ∧ i = .int .i64 k ∧ Stepd D X w1 (psRun p1 (rs.take k)) (.returned o) wr) (fun _ i _ => rs.length - (intOf i).toNat)
  case atStart => exact ⟨0, by omega, rfl, stepd_nil (Bar.refl _ _) hp1⟩
  case round =>
    obtain ⟨k, hk, rfl, hst⟩ := hrel
    by_cases hlt : k < rs.length
    · obtain ⟨v0, xs, he0, k1, k2, k3, k4⟩ := hst
      injection he0 with he0
      subst he0
      have hrw := rd_bar hrd1 hoD k3
      obtain ⟨q9, c9, he9, hlc, hcm, hcell⟩ := hrw
      injection he9 with e1 e2 e3
      subst e1 e3
      obtain ⟨bb, off, hq, hbb, hc9⟩ := Rd.at hcell hlc hlt
      subst hq
      clear hcell
      unfold maxLen at hcm
      have hfew := run_few p1 (rs.take k)
      rw [List.length_take] at hfew
      have hxl := len_fst k1
      have hsn := psRun_snoc p1 (rs.take k) rs[k]
      rw [← List.take_succ_eq_append_getElem hlt] at hsn
      have c2 := pstep_any D _ (psRun p1 (rs.take k)).1 rs[k] wr k4 (fun g h => h.elim (fun h => Nat.lt_of_lt_of_le (hX1 g h) k3.size) (fun h => h.elim (fun h => (k2.plt g h).2) (fun h => (k2.lt g h).2)))
      have hf2 := step_few (psRun p1 (rs.take k)).1 rs[k]
      generalize psRun p1 (rs.take k) = q1 at *
      generalize hr0 : rs[k] = r0 at *
      generalize psStep q1.1 r0 = q2 at *
      have HSN := Lib.hid hsn
      clear hsn hr0
      have z1 : (0 : Int) ≤ (k : Int) := by omega
      have z2 : (k : Int) < (rs.length : Int) := by omega
      go_wp2_with (first | (go_at_call 18; (with_reducible refine c2.mono ?_); rintro e w2 ⟨v2, xs2, rfl, m1, m2, m3, m4⟩; have s2 := len_fst m1; have hsz := (k3.trans m3).size) | (at_builtin; refine wpList_appX rfl _ _ rfl w1.heap.size _ v2 xs xs2 (k2.bar m3 hD1) (m2.weaken k3.size) (fun g hg => fun e => by have := (k2.lt g e).2; have := (m2.plt g hg).1; omega) rfl rfl (by omega) hsz ?_; intro v' w3 hown hgr hwh))
      go_roundw
      case rel => exact ⟨k + 1, by omega, by go_num, by rw [HSN.out]; exact stepd_two hD1 k2 k3 m2 m3 m4 hgr hwh hown (by rw [List.map_append, k1, m1])⟩
      case measure => simp [intOf]; omega
    · obtain rfl : k = rs.length := by omega
      rw [List.take_length] at hst
      generalize psRun p1 rs = q1 at *
      go_wp2_with fail
      go_ret
      exact hst.from hb1
def zeroC : Array Value := (pcells (.slice none 0 0) 0 0 0 0 0 ⟨#[]⟩ (List.replicate 16 0) 0 false (.slice none 0 0)).toArray
/-- The zero value is a parser at its start. -/
theorem PV.zero {w : World} {D : Nat} (X : Nat → Prop) (h : Box w D #[.slice none 0 0, .int .i64 0, .int .u8 0, .int .u8 0, .int .i64 0, .int .i32 0, .string ⟨#[]⟩, .int .i64 0, .int .i64 0, .int .i64 0, .int .i64 0, .int .i64 0, .int .i64 0, .int .i64 0, .int .i64 0, .int .i64 0, .int .i64 0, .int .i64 0, .int .i64 0, .int .i64 0, .int .i64 0, .int .i64 0, .int .i64 0, .int .i64 0, .bool false, .slice none 0 0] 31) : PV w D X ps0 :=
  ⟨.slice none 0 0, .slice none 0 0, 0, 0, 0, List.replicate 16 0, ⟨⟨rfl, h⟩, Rd.nil _ _, Rd.nil _ _, fun g e => (by cases e), fun g e => (by cases e), fun k => absurd rfl k, .nil, Nat.zero_le _, rfl, by simp [ps0], by simp [ps0], Nat.zero_le _, by simp [ps0], Nat.zero_le _⟩⟩

end Go.Proofs.Ytpkkfcfkhiaggaa
namespace Go.Proofs.Ytpkkfcfkhiaggaa
open Go.RowKit
open Go.Proofs.Ytpkkfcfkhiaggaa.Pm (fineR addB addO bldQ refL bldC BldV bldC_len)

theorem setRow_box {w : World} {g : Nat} {old cs : Array Value} {t : TypeId} (h : Box w g old t) : Box (w.setRow g cs) g cs t := setRow_heap w g old cs t (0, 0) h
theorem PVx.copied {w w1 : World} {D : Nat} {X : Nat → Prop} {p : Ps} {bv tv : Value} {m lo hi : Int} {ls : List Int} (h : PVx w D X p bv tv m lo hi ls) (hbl : Below w.heap.size w w1) (hb : BX w1 w.heap.size bv m lo hi p.st p.pf (strOfNums p.it) ls p.ws.length p.ov tv) : PV w1 w.heap.size (fun g => X g ∨ g = D) p := by
  refine ⟨bv, tv, m, lo, hi, ls, { h with box := hb, rb := h.rb.below hbl, rt := h.rt.below hbl, ob := fun g e => ⟨?_, fun k => k.elim (h.ob g e).2 (h.ob g e).1⟩, ot := fun g e => ⟨?_, fun k => k.elim (h.ot g e).2 (h.ot g e).1⟩ }⟩
  · have := h.rb.in g e; omega
  · have := h.rt.in g e; omega
theorem setRow_bar (w : World) (g : Nat) (cs : Array Value) : Bar g w (w.setRow g cs) := ⟨setRow_os w g cs, setRow_tape w g cs, setRow_output w g cs, by simp, fun k hk _ => setRow_other w g k cs hk⟩
set_option maxHeartbeats 4000000 in
set_option maxRecDepth 100000 in
theorem pcopy_any (D : Nat) (X : Nat → Prop) (p : Ps) (w : World) (hpv : PV w D X p) : Calls Try.prog 20 #[.pointer (some ⟨D, 0, none⟩)] w fun e w' => e = .returned (.pointer (some ⟨w.heap.size, 0, none⟩)) ∧ PV w' w.heap.size (fun g => X g ∨ g = D) p ∧ PV w' D X p ∧ Below w.heap.size w w' := by
  obtain ⟨bv, tv, m, lo, hi, ls, h⟩ := hpv
  have hpv : PV w D X p := ⟨bv, tv, m, lo, hi, ls, h⟩
  have HT := Lib.hid h.tk
  obtain ⟨a0, a1, a2, a3, a4, a5, a6, a7, a8, a9, a10, a11, a12, a13, a14, a15, hls⟩ := Pm.sixteen ls h.box.1
  have HLS := Lib.hid hls
  obtain ⟨qb, nb, hbv⟩ := Rd.lits h.rb
  obtain ⟨qt, nt, htv⟩ := Rd.lits h.rt
  have HBV := Lib.hid hbv
  have HTV := Lib.hid htv
  have HN : ∃ n : Int, Hid (((p.ws.length : Nat) : Int) = n) := ⟨_, rfl⟩
  obtain ⟨n, HN⟩ := HN
  have hx : Box w D #[.slice qb p.bs.length nb, .int .i64 m, .int .u8 lo, .int .u8 hi, .int .i64 p.st, .int .i32 p.pf, .string (strOfNums p.it), .int .i64 a0, .int .i64 a1, .int .i64 a2, .int .i64 a3, .int .i64 a4, .int .i64 a5, .int .i64 a6, .int .i64 a7, .int .i64 a8, .int .i64 a9, .int .i64 a10, .int .i64 a11, .int .i64 a12, .int .i64 a13, .int .i64 a14, .int .i64 a15, .int .i64 n, .bool p.ov, .slice qt p.tx.length nt] 31 := by
    have := h.box.2
    rw [hls, hbv, htv, HN.out] at this
    exact this
  clear hls hbv htv
  have hg : w.heap[D]? = some (.cells #[.slice qb p.bs.length nb, .int .i64 m, .int .u8 lo, .int .u8 hi, .int .i64 p.st, .int .i32 p.pf, .string (strOfNums p.it), .int .i64 a0, .int .i64 a1, .int .i64 a2, .int .i64 a3, .int .i64 a4, .int .i64 a5, .int .i64 a6, .int .i64 a7, .int .i64 a8, .int .i64 a9, .int .i64 a10, .int .i64 a11, .int .i64 a12, .int .i64 a13, .int .i64 a14, .int .i64 a15, .int .i64 n, .bool p.ov, .slice qt p.tx.length nt] 31 (0, 0)) := hx
  have x3 := hx.lt
  have hnew : Box ((w.alloc (.cells #[.slice none 0 0, .int .i64 0, .int .u8 0, .int .u8 0, .int .i64 0, .int .i32 0, .string ⟨#[]⟩, .int .i64 0, .int .i64 0, .int .i64 0, .int .i64 0, .int .i64 0, .int .i64 0, .int .i64 0, .int .i64 0, .int .i64 0, .int .i64 0, .int .i64 0, .int .i64 0, .int .i64 0, .int .i64 0, .int .i64 0, .int .i64 0, .int .i64 0, .bool false, .slice none 0 0] 31)).setRow w.heap.size #[.slice qb p.bs.length nb, .int .i64 m, .int .u8 lo, .int .u8 hi, .int .i64 p.st, .int .i32 p.pf, .string (strOfNums p.it), .int .i64 a0, .int .i64 a1, .int .i64 a2, .int .i64 a3, .int .i64 a4, .int .i64 a5, .int .i64 a6, .int .i64 a7, .int .i64 a8, .int .i64 a9, .int .i64 a10, .int .i64 a11, .int .i64 a12, .int .i64 a13, .int .i64 a14, .int .i64 a15, .int .i64 n, .bool p.ov, .slice qt p.tx.length nt]) w.heap.size #[.slice qb p.bs.length nb, .int .i64 m, .int .u8 lo, .int .u8 hi, .int .i64 p.st, .int .i32 p.pf, .string (strOfNums p.it), .int .i64 a0, .int .i64 a1, .int .i64 a2, .int .i64 a3, .int .i64 a4, .int .i64 a5, .int .i64 a6, .int .i64 a7, .int .i64 a8, .int .i64 a9, .int .i64 a10, .int .i64 a11, .int .i64 a12, .int .i64 a13, .int .i64 a14, .int .i64 a15, .int .i64 n, .bool p.ov, .slice qt p.tx.length nt] 31 := setRow_box (Box.new w #[.slice none 0 0, .int .i64 0, .int .u8 0, .int .u8 0, .int .i64 0, .int .i32 0, .string ⟨#[]⟩, .int .i64 0, .int .i64 0, .int .i64 0, .int .i64 0, .int .i64 0, .int .i64 0, .int .i64 0, .int .i64 0, .int .i64 0, .int .i64 0, .int .i64 0, .int .i64 0, .int .i64 0, .int .i64 0, .int .i64 0, .int .i64 0, .int .i64 0, .bool false, .slice none 0 0] 31 rfl)
  have hbl : Below w.heap.size w ((w.alloc (.cells #[.slice none 0 0, .int .i64 0, .int .u8 0, .int .u8 0, .int .i64 0, .int .i32 0, .string ⟨#[]⟩, .int .i64 0, .int .i64 0, .int .i64 0, .int .i64 0, .int .i64 0, .int .i64 0, .int .i64 0, .int .i64 0, .int .i64 0, .int .i64 0, .int .i64 0, .int .i64 0, .int .i64 0, .int .i64 0, .int .i64 0, .int .i64 0, .int .i64 0, .bool false, .slice none 0 0] 31)).setRow w.heap.size #[.slice qb p.bs.length nb, .int .i64 m, .int .u8 lo, .int .u8 hi, .int .i64 p.st, .int .i32 p.pf, .string (strOfNums p.it), .int .i64 a0, .int .i64 a1, .int .i64 a2, .int .i64 a3, .int .i64 a4, .int .i64 a5, .int .i64 a6, .int .i64 a7, .int .i64 a8, .int .i64 a9, .int .i64 a10, .int .i64 a11, .int .i64 a12, .int .i64 a13, .int .i64 a14, .int .i64 a15, .int .i64 n, .bool p.ov, .slice qt p.tx.length nt]) := below_setRow ((Below.refl _ _).alloc (Nat.le_refl _) _) (Nat.le_refl _) _
  have hbx : BX ((w.alloc (.cells #[.slice none 0 0, .int .i64 0, .int .u8 0, .int .u8 0, .int .i64 0, .int .i32 0, .string ⟨#[]⟩, .int .i64 0, .int .i64 0, .int .i64 0, .int .i64 0, .int .i64 0, .int .i64 0, .int .i64 0, .int .i64 0, .int .i64 0, .int .i64 0, .int .i64 0, .int .i64 0, .int .i64 0, .int .i64 0, .int .i64 0, .int .i64 0, .int .i64 0, .bool false, .slice none 0 0] 31)).setRow w.heap.size #[.slice qb p.bs.length nb, .int .i64 m, .int .u8 lo, .int .u8 hi, .int .i64 p.st, .int .i32 p.pf, .string (strOfNums p.it), .int .i64 a0, .int .i64 a1, .int .i64 a2, .int .i64 a3, .int .i64 a4, .int .i64 a5, .int .i64 a6, .int .i64 a7, .int .i64 a8, .int .i64 a9, .int .i64 a10, .int .i64 a11, .int .i64 a12, .int .i64 a13, .int .i64 a14, .int .i64 a15, .int .i64 n, .bool p.ov, .slice qt p.tx.length nt]) w.heap.size bv m lo hi p.st p.pf (strOfNums p.it) ls p.ws.length p.ov tv := ⟨h.box.1, by rw [HLS.out, HBV.out, HTV.out, HN.out]; exact hnew⟩
  have hres := h.copied hbl hbx
  clear hbx
  have hold := hpv.past hbl
  clear hx hnew HT
  go_enter Try.func20, Try.ntmps20
  go_wp2_with (first | (refine wpList_load_row rfl 31 (.tmp 7) rfl D rfl 31 #[.slice qb p.bs.length nb, .int .i64 m, .int .u8 lo, .int .u8 hi, .int .i64 p.st, .int .i32 p.pf, .string (strOfNums p.it), .int .i64 a0, .int .i64 a1, .int .i64 a2, .int .i64 a3, .int .i64 a4, .int .i64 a5, .int .i64 a6, .int .i64 a7, .int .i64 a8, .int .i64 a9, .int .i64 a10, .int .i64 a11, .int .i64 a12, .int .i64 a13, .int .i64 a14, .int .i64 a15, .int .i64 n, .bool p.ov, .slice qt p.tx.length nt] (0, 0) _ hg Try.underlying31 rfl (by kernel_rfl) ?_) | (refine wpList_store_rowTo rfl 31 (.tmp 3) (.tmp 8) rfl rfl w.heap.size #[.slice qb p.bs.length nb, .int .i64 m, .int .u8 lo, .int .u8 hi, .int .i64 p.st, .int .i32 p.pf, .string (strOfNums p.it), .int .i64 a0, .int .i64 a1, .int .i64 a2, .int .i64 a3, .int .i64 a4, .int .i64 a5, .int .i64 a6, .int .i64 a7, .int .i64 a8, .int .i64 a9, .int .i64 a10, .int .i64 a11, .int .i64 a12, .int .i64 a13, .int .i64 a14, .int .i64 a15, .int .i64 n, .bool p.ov, .slice qt p.tx.length nt] rfl rfl 31 #[.slice none 0 0, .int .i64 0, .int .u8 0, .int .u8 0, .int .i64 0, .int .i32 0, .string ⟨#[]⟩, .int .i64 0, .int .i64 0, .int .i64 0, .int .i64 0, .int .i64 0, .int .i64 0, .int .i64 0, .int .i64 0, .int .i64 0, .int .i64 0, .int .i64 0, .int .i64 0, .int .i64 0, .int .i64 0, .int .i64 0, .int .i64 0, .int .i64 0, .bool false, .slice none 0 0] (heap_alloc_new w _) (by kernel_rfl) (by kernel_rfl) (by kernel_rfl) ?_))
  go_ret
  exact ⟨rfl, by with_reducible exact hres, by with_reducible exact hold, by with_reducible exact hbl⟩
set_option maxHeartbeats 4000000 in
set_option maxRecDepth 100000 in
theorem preset_any (D : Nat) (X : Nat → Prop) (p : Ps) (w : World) (hpv : PV w D X p) : Calls Try.prog 19 #[.pointer (some ⟨D, 0, none⟩)] w fun e w' => e = .returned (.tuple #[]) ∧ Bar D w w' ∧ PV w' D X ps0 := by
  obtain ⟨bv, tv, m, lo, hi, ls, h⟩ := hpv
  have hpv : PV w D X p := ⟨bv, tv, m, lo, hi, ls, h⟩
  have HT := Lib.hid h.tk
  obtain ⟨a0, a1, a2, a3, a4, a5, a6, a7, a8, a9, a10, a11, a12, a13, a14, a15, hls⟩ := Pm.sixteen ls h.box.1
  have HLS := Lib.hid hls
  obtain ⟨qb, nb, hbv⟩ := Rd.lits h.rb
  obtain ⟨qt, nt, htv⟩ := Rd.lits h.rt
  have HBV := Lib.hid hbv
  have HTV := Lib.hid htv
  have HN : ∃ n : Int, Hid (((p.ws.length : Nat) : Int) = n) := ⟨_, rfl⟩
  obtain ⟨n, HN⟩ := HN
  have hx : Box w D #[.slice qb p.bs.length nb, .int .i64 m, .int .u8 lo, .int .u8 hi, .int .i64 p.st, .int .i32 p.pf, .string (strOfNums p.it), .int .i64 a0, .int .i64 a1, .int .i64 a2, .int .i64 a3, .int .i64 a4, .int .i64 a5, .int .i64 a6, .int .i64 a7, .int .i64 a8, .int .i64 a9, .int .i64 a10, .int .i64 a11, .int .i64 a12, .int .i64 a13, .int .i64 a14, .int .i64 a15, .int .i64 n, .bool p.ov, .slice qt p.tx.length nt] 31 := by
    have := h.box.2
    rw [hls, hbv, htv, HN.out] at this
    exact this
  clear hls hbv htv
  have hg : w.heap[D]? = some (.cells #[.slice qb p.bs.length nb, .int .i64 m, .int .u8 lo, .int .u8 hi, .int .i64 p.st, .int .i32 p.pf, .string (strOfNums p.it), .int .i64 a0, .int .i64 a1, .int .i64 a2, .int .i64 a3, .int .i64 a4, .int .i64 a5, .int .i64 a6, .int .i64 a7, .int .i64 a8, .int .i64 a9, .int .i64 a10, .int .i64 a11, .int .i64 a12, .int .i64 a13, .int .i64 a14, .int .i64 a15, .int .i64 n, .bool p.ov, .slice qt p.tx.length nt] 31 (0, 0)) := hx
  have x3 := hx.lt
  have hb := setRow_bar w D #[.slice none 0 0, .int .i64 0, .int .u8 0, .int .u8 0, .int .i64 0, .int .i32 0, .string ⟨#[]⟩, .int .i64 0, .int .i64 0, .int .i64 0, .int .i64 0, .int .i64 0, .int .i64 0, .int .i64 0, .int .i64 0, .int .i64 0, .int .i64 0, .int .i64 0, .int .i64 0, .int .i64 0, .int .i64 0, .int .i64 0, .int .i64 0, .int .i64 0, .bool false, .slice none 0 0]
  have hz := PV.zero X (setRow_box (cs := #[.slice none 0 0, .int .i64 0, .int .u8 0, .int .u8 0, .int .i64 0, .int .i32 0, .string ⟨#[]⟩, .int .i64 0, .int .i64 0, .int .i64 0, .int .i64 0, .int .i64 0, .int .i64 0, .int .i64 0, .int .i64 0, .int .i64 0, .int .i64 0, .int .i64 0, .int .i64 0, .int .i64 0, .int .i64 0, .int .i64 0, .int .i64 0, .int .i64 0, .bool false, .slice none 0 0]) hx)
  clear hx HT
  go_enter Try.func19, Try.ntmps19
  go_wp2_with (refine wpList_store_rowTo rfl 31 (.tmp 6) (.tmp 5) rfl rfl D #[.slice none 0 0, .int .i64 0, .int .u8 0, .int .u8 0, .int .i64 0, .int .i32 0, .string ⟨#[]⟩, .int .i64 0, .int .i64 0, .int .i64 0, .int .i64 0, .int .i64 0, .int .i64 0, .int .i64 0, .int .i64 0, .int .i64 0, .int .i64 0, .int .i64 0, .int .i64 0, .int .i64 0, .int .i64 0, .int .i64 0, .int .i64 0, .int .i64 0, .bool false, .slice none 0 0] rfl rfl 31 #[.slice qb p.bs.length nb, .int .i64 m, .int .u8 lo, .int .u8 hi, .int .i64 p.st, .int .i32 p.pf, .string (strOfNums p.it), .int .i64 a0, .int .i64 a1, .int .i64 a2, .int .i64 a3, .int .i64 a4, .int .i64 a5, .int .i64 a6, .int .i64 a7, .int .i64 a8, .int .i64 a9, .int .i64 a10, .int .i64 a11, .int .i64 a12, .int .i64 a13, .int .i64 a14, .int .i64 a15, .int .i64 n, .bool p.ov, .slice qt p.tx.length nt] hg (by kernel_rfl) (by kernel_rfl) (by kernel_rfl) ?_)
  go_end0
  exact ⟨rfl, by with_reducible exact hb, by with_reducible exact hz⟩

end Go.Proofs.Ytpkkfcfkhiaggaa
