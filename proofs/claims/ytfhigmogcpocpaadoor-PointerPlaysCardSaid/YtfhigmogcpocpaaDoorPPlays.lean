/- pointer: PointerPlays returns true for every input. No condition. -/
import Derived.Test.YtfhigmogcpocpaaDoorGl
import Derived.Test.YtfhigmogcpocpaaDoorGd
import Derived.Test.YtfhigmogcpocpaaDoorQ
import Derived.Test.YtfhigmogcpocpaaDoorLate3
import Derived.Test.YtfhigmogcpocpaaDoorCards
import Derived.Test.YtfhigmogcpocpaaDoorTie
import Derived.SevenTiedAt
import Derived.Outline
set_option linter.unusedSimpArgs false
set_option linter.unusedVariables false
set_option linter.unnecessarySimpa false
namespace Go.Proofs.YtfhigmogcpocpaaDoor
open Go.ChangeShapes Go.WideShapes Go.ChangeAt Go.RowKit

structure Act10 where
  wh : Int
  k : Int
  b : Int
  r : Int
  c : Int
  sh : Bool
  al : Bool
  ct : Bool
  am : Int
  ae : Bool
def AcAt (W : World) (b off i : Nat) (x : Act10) : Prop := ∀ j, j < 10 → W.cell? ⟨b, off + i * 10 + j, none⟩ = [Value.int .i64 x.wh, .int .i64 x.k, .int .i64 x.b, .int .i64 x.r, .int .i64 x.c, .bool x.sh, .bool x.al, .bool x.ct, .int .i64 x.am, .bool x.ae][j]?
theorem AcAt.block {W W' : World} {b off i : Nat} {x : Act10} (h : AcAt W b off i x) (hb : W'.heap[b]? = W.heap[b]?) : AcAt W' b off i x := fun j hj => by
  rw [← h j hj]
  unfold World.cell?
  rw [hb]
theorem AcAt.cells {W : World} {b off i : Nat} {x : Act10} (h : AcAt W b off i x) : W.cell? ⟨b, off + i * 10, none⟩ = some (.int .i64 x.wh) ∧ W.cell? ⟨b, off + i * 10 + 1, none⟩ = some (.int .i64 x.k) ∧ W.cell? ⟨b, off + i * 10 + 2, none⟩ = some (.int .i64 x.b) ∧ W.cell? ⟨b, off + i * 10 + 3, none⟩ = some (.int .i64 x.r) ∧ W.cell? ⟨b, off + i * 10 + 4, none⟩ = some (.int .i64 x.c) ∧ W.cell? ⟨b, off + i * 10 + 5, none⟩ = some (.bool x.sh) ∧ W.cell? ⟨b, off + i * 10 + 6, none⟩ = some (.bool x.al) ∧ W.cell? ⟨b, off + i * 10 + 7, none⟩ = some (.bool x.ct) ∧ W.cell? ⟨b, off + i * 10 + 8, none⟩ = some (.int .i64 x.am) ∧ W.cell? ⟨b, off + i * 10 + 9, none⟩ = some (.bool x.ae) :=
  ⟨h 0 (by omega), h 1 (by omega), h 2 (by omega), h 3 (by omega), h 4 (by omega), h 5 (by omega), h 6 (by omega), h 7 (by omega), h 8 (by omega), h 9 (by omega)⟩
theorem spot_none2 {W : World} {a : Addr} {v : Value} (h : W.cell? a = some v) : a.spot = none ∧ a.block < W.heap.size := by
  obtain ⟨_, _, _, _, h2⟩ := World.shape?_of_cell? h
  exact ⟨h2, World.block_lt_of_cell? W _ h⟩
theorem open_acts {H : Type} {enc : TypeId × Value → H} {W : World} {b0 : Nat} {r : Reach} {v : Value} {d : DataW H} {p : List MemPlace} (hv : Value.okWide Tryd.prog W r b0 50 v) (h : DataW.Trod enc Tryd.prog W 0 (fun _ => true) true 50 v d p) :
    ∃ (len : Nat) (q : Option Addr) (cap : Nat), v = .slice q len cap ∧ ∀ i, i < len → ∃ b off x, q = some ⟨b, off, none⟩ ∧ b < W.heap.size ∧ AcAt W b off i x := by
  obtain ⟨fuel, hf⟩ := h
  obtain ⟨qv, lv, cv, rfl⟩ := okWide_slice Tryd.underlying50 hv
  refine ⟨lv, qv, cv, rfl, ?_⟩
  have hone : (Value.slice qv lv cv).cells.toList = [Value.slice qv lv cv] := rfl
  rw [hone] at hf
  rcases DataW.trod_slice Tryd.underlying50 hf with ⟨h0, _⟩ | ⟨a, len, cap, elems, rest, n, _, h1, _, _, hl, hm, hlen, hel, _, _⟩
  · cases h0; intro i hi; omega
  · cases h1
    intro i hi
    have hi2 : i < elems.length := by omega
    have h2 := hel i hi
    rw [List.getElem?_eq_getElem hi2, cellsAct, Option.bind_eq_some_iff] at h2
    obtain ⟨cs, hcs, hy⟩ := h2
    obtain ⟨hlt7, hlen7, hcell⟩ := World.cells?_some hcs
    obtain ⟨wh, k, b, r, c, sh, al, ct, am, ae, rfl⟩ := act_cells hlen7 hy
    have h3 := hel 0 (by omega)
    have hi3 : 0 < elems.length := by omega
    rw [List.getElem?_eq_getElem hi3, cellsAct, Option.bind_eq_some_iff] at h3
    obtain ⟨cs0, hcs0, hy0⟩ := h3
    obtain ⟨_, hlen0, hcell0⟩ := World.cells?_some hcs0
    have k00 := hcell0 0 (by omega)
    obtain ⟨v0, hv0⟩ : ∃ v0, cs0[0]? = some v0 := Option.isSome_iff_exists.1 (by simp [hlen0])
    rw [hv0, Nat.zero_mul] at k00
    have e00 : (a.add 0).add 0 = a.add 0 := by simp [Addr.add]
    rw [e00] at k00
    obtain ⟨q1, q2⟩ := spot_none2 k00
    obtain ⟨bl, off, spot⟩ := a
    try simp only at q1 q2
    subst q1
    have ad : ∀ j, ((⟨bl, off, none⟩ : Addr).add (i * 10)).add j = ⟨bl, off + i * 10 + j, none⟩ := fun j => by rw [Addr.add_lit, Addr.add_lit]
    refine ⟨bl, off, ⟨wh, k, b, r, c, sh, al, ct, am, ae⟩, rfl, q2, fun j hj => ?_⟩
    have := hcell j hj
    rwa [ad] at this
def PBx (W : World) (D : Nat) : Prop := ∃ cs, Box W D cs 29 ∧ cs.size = 6
theorem PBx.keep {W W' : World} {D : Nat} (h : PBx W D) (k : Keep D 0 W W') : PBx W' D := by
  obtain ⟨cs, h1, h2⟩ := h
  obtain ⟨cs', h3, h4, _⟩ := k.2 cs 29 h1
  exact ⟨cs', h3, h4.trans h2⟩
theorem PBx.below {W W' : World} {D : Nat} (h : PBx W D) (k : Below W.heap.size W W') : PBx W' D := h.keep (Keep.of_below k)
theorem PBx.bar {W W' : World} {D M : Nat} (h : PBx W D) (k : Bar M W W') (hDM : D ≠ M) : PBx W' D := by
  obtain ⟨cs, h1, h2⟩ := h
  exact ⟨cs, (k.block D hDM h1.lt).trans h1, h2⟩
theorem alike_p (D M : Nat) (p : Pt) (n : Nat) (w : World) (hp : PtB w D 0 p) (hm : MoB w M p n) : Calls Tryd.prog 17 #[.pointer (some ⟨D, 0, none⟩), .pointer (some ⟨M, 0, none⟩)] w fun e w' => e = .returned (.bool true) ∧ Below w.heap.size w w' := by
  obtain ⟨m, e, x, y, z, a0, a1, t⟩ := p
  exact alike_t D M m e x y z a0 a1 t n w hp hm
theorem mdo_q (M : Nat) (p : Pt) (n : Nat) (k b r c : Int) (sh al ct : Bool) (w : World) (h : MoB w M p n) (hn : n ≤ 1000) (hv : validE k b r c = true) : Calls Tryd.prog 11 #[.pointer (some ⟨M, 0, none⟩), .agg #[.int .i64 k, .int .i64 b, .int .i64 r, .int .i64 c, .bool sh, .bool al, .bool ct]] w (MDoE M p n k b r c sh al ct w) := by
  obtain ⟨m, e, x, y, z, a0, a1, t⟩ := p
  exact mdo_ok M m e x y z a0 a1 t n k b r c sh al ct w h hn hv
/-- Another block holds the pointer from here on. -/
theorem PM.move {w W0 W : World} {D D' M : Nat} {p p' q : Pt} {n : Nat} (h0 : PM w W0 D M p q n) (h : PM w W D M p' q n) (hb : Bar D W0 W) (hp : PtB W D' 0 p) (hD' : W0.heap.size ≤ D') : PM w W D' M p q n := by
  obtain ⟨sl, l, h1, h2, h3⟩ := h0.mo
  have hM := h1.lt
  have hwD := Nat.le_trans h0.bl.size hD'
  refine ⟨h.bl, hp, h.mo, fun v hv => ?_, hwD, h.hM, by omega⟩
  have e1 : W.cell? ⟨M, 2, none⟩ = some sl := by
    have h4 : Box W M _ _ := (hb.block M (Ne.symm h0.ne) hM).trans h1
    exact h4.cell 2
  rw [e1] at hv
  cases hv
  exact apart_of (fun e => by have := h2.in D' e; omega)
set_option maxHeartbeats 8000000 in
set_option maxRecDepth 100000 in
theorem pointerPlays_any (q : Option Addr) (len cap : Nat) (w : World) (ht : Tab w) (hq : ∀ i, i < len → ∃ b off x, q = some ⟨b, off, none⟩ ∧ b < w.heap.size ∧ AcAt w b off i x) : Calls Tryd.prog 5 #[.slice q len cap] w fun e w' => e = .returned (.bool true) ∧ Below w.heap.size w w' := by
  by_cases hl : 40 < len
  · have hl' : (40 : Int) < (len : Int) := by omega
    go_enter Tryd.func5, Tryd.ntmps5
    go_wp2_with (first | (go_at_call 12; (with_reducible refine (known_any _ ht).mono ?_); rintro e w1 ⟨rfl, hb⟩))
    go_ret
    exact ⟨rfl, hb⟩
  · have hl' : ¬ (40 : Int) < (len : Int) := by omega
    have hg : 0 < w.heap.size := tab_lt ht
    have HQ := Lib.hid hq
    clear hq
    have xd0 : Box ((w.alloc (.cells #[.int .i64 0, .bool false, .int .u8 0, .int .i64 0, .int .i64 0, .bool false] 29)).alloc (.cells #[.int .i64 0, .bool false, .slice none 0 0, .bool false, .int .i64 0, .int .i64 0] 33)) w.heap.size #[.int .i64 0, .bool false, .int .u8 0, .int .i64 0, .int .i64 0, .bool false] 29 := (Box.new _ _ _ rfl).alloc _
    have xm0 : Box ((w.alloc (.cells #[.int .i64 0, .bool false, .int .u8 0, .int .i64 0, .int .i64 0, .bool false] 29)).alloc (.cells #[.int .i64 0, .bool false, .slice none 0 0, .bool false, .int .i64 0, .int .i64 0] 33)) (w.heap.size + 1) #[.int .i64 0, .bool false, .slice none 0 0, .bool false, .int .i64 0, .int .i64 0] 33 := Box.new _ _ _ (by simp)
    have pmS : PM w ((w.alloc (.cells #[.int .i64 0, .bool false, .int .u8 0, .int .i64 0, .int .i64 0, .bool false] 29)).alloc (.cells #[.int .i64 0, .bool false, .slice none 0 0, .bool false, .int .i64 0, .int .i64 0] 33)) w.heap.size (w.heap.size + 1) ⟨0, false, false, false, false, 0, 0, false⟩ ⟨0, false, false, false, false, 0, 0, false⟩ 0 := ⟨bl_alloc (bl_alloc (Below.refl _ _) _) _, PtB.box (p := ⟨0, false, false, false, false, 0, 0, false⟩) xd0, ⟨.slice none 0 0, [], xm0, Rd.nil _ _, Apart.nil _ _ _, Nat.le_refl _, (fun b' => by simp [hasB]), by decide, by decide⟩, (fun v hv => by rw [xm0.cell 2] at hv; cases hv; exact Apart.nil _ _ _), Nat.le_refl _, by omega, by omega⟩
    have hxS : PBx ((w.alloc (.cells #[.int .i64 0, .bool false, .int .u8 0, .int .i64 0, .int .i64 0, .bool false] 29)).alloc (.cells #[.int .i64 0, .bool false, .slice none 0 0, .bool false, .int .i64 0, .int .i64 0] 33)) w.heap.size := ⟨_, xd0, rfl⟩
    clear xd0 xm0
    go_enter Tryd.func5, Tryd.ntmps5
    go_wp2_with fail
    generalize (w.alloc (.cells #[.int .i64 0, .bool false, .int .u8 0, .int .i64 0, .int .i64 0, .bool false] 29)).alloc (.cells #[.int .i64 0, .bool false, .slice none 0 0, .bool false, .int .i64 0, .int .i64 0] 33) = WS at *
    obtain ⟨M, hM⟩ : ∃ M, w.heap.size + 1 = M := ⟨_, rfl⟩
    rw [hM] at pmS ⊢
    clear hM
    go_loopw [3, 5] (fun pv iv wr => ∃ (i D : Nat) (p : Pt), i ≤ len ∧ pv = .pointer (some ⟨D, 0, none⟩) ∧ iv = .int .i64 i ∧ PM w wr D M p p i ∧ PBx wr D) (fun _ iv _ => len - (intOf iv).toNat)
    case atStart => exact ⟨0, w.heap.size, ⟨0, false, false, false, false, 0, 0, false⟩, Nat.zero_le _, rfl, rfl, pmS, hxS⟩
    case round =>
      obtain ⟨i, D, p, hi, rfl, rfl, pmr, hxr⟩ := hrel
      clear pmS hxS
      by_cases hlt : i < len
      · obtain ⟨bb, off, x, rfl, hbb, hac⟩ := HQ.out i hlt
        obtain ⟨e0, e1, e2, e3, e4, e5, e6, e7, e8, e9⟩ := (hac.block (pmr.bl.block bb hbb)).cells
        obtain ⟨wh, k, b, r, c, sh, al, ct, am, ae⟩ := x
        simp only at e0 e1 e2 e3 e4 e5 e6 e7 e8 e9
        have hbw := Nat.lt_of_lt_of_le hbb pmr.bl.size
        have r1 : (0 : Int) ≤ (i : Int) := by omega
        have r2 : (i : Int) < (len : Int) := by omega
        clear hac
        have hDM := pmr.ne
        have hgD : 0 ≠ D := by have := pmr.hD; omega
        have hlD := pmr.pt.lt
        have hlM := pmr.mo.lt
        go_upto_region 9 with fail
        have pm0 := pmr.grow (bl_alloc (Below.refl _ _) (.cells #[.int .i64 wh, .int .i64 k, .int .i64 b, .int .i64 r, .int .i64 c, .bool sh, .bool al, .bool ct, .int .i64 am, .bool ae] 52))
        have hx0 := hxr.below (bl_alloc (Below.refl _ _) (.cells #[.int .i64 wh, .int .i64 k, .int .i64 b, .int .i64 r, .int .i64 c, .bool sh, .bool al, .bool ct, .int .i64 am, .bool ae] 52))
        have xe0 : Box (wr.alloc (.cells #[.int .i64 wh, .int .i64 k, .int .i64 b, .int .i64 r, .int .i64 c, .bool sh, .bool al, .bool ct, .int .i64 am, .bool ae] 52)) wr.heap.size #[.int .i64 wh, .int .i64 k, .int .i64 b, .int .i64 r, .int .i64 c, .bool sh, .bool al, .bool ct, .int .i64 am, .bool ae] 52 := Box.new _ _ _ rfl
        generalize wr.alloc (.cells #[.int .i64 wh, .int .i64 k, .int .i64 b, .int .i64 r, .int .i64 c, .bool sh, .bool al, .bool ct, .int .i64 am, .bool ae] 52) = W0 at *
        obtain ⟨bx, hbx⟩ : ∃ bx, wr.heap.size = bx := ⟨_, rfl⟩
        have hbD : bx ≠ D := by omega
        have hbM : bx ≠ M := by omega
        rw [hbx] at xe0 ⊢
        clear hbx e0 e1 e2 e3 e4 e5 e6 e7 e8 e9 hbw hbb pmr hxr hlD hlM
        have ce0 := xe0.cell
        have le0 := xe0.lt
        have hg := hgD
        by_cases h0 : wh = 0
        · subst h0
          as_aux_lemma =>
            have cV := fun W => valid_any k b r c sh al ct W
            have cR := fun W => rvalid_any k b r c sh al ct W
            cases hv : validE k b r c
            all_goals
              rw [hv] at cV cR
              go_wp2_with fail
              first | refine wp_grow2 (by kernel_rfl) (by kernel_rfl) ?_ | refine wp_grow (by kernel_rfl) (by kernel_rfl) ?_
              repeat (go_big_quiet_step (first | (go_at_call 14; with_reducible exact GW.call (cV _)) | (go_at_call 8; with_reducible exact GW.call (cR _))))
              refine wpQuiet_nil ?_
              rintro _ ⟨X, rfl⟩
              have pm4 := pm0.grow X.grow
              have hx4 := hx0.below X.grow
              have xe4 : Box X.world bx #[.int .i64 0, .int .i64 k, .int .i64 b, .int .i64 r, .int .i64 c, .bool sh, .bool al, .bool ct, .int .i64 am, .bool ae] 52 := Box.gw xe0
              generalize X.world = W4 at *
              clear X pm0 hx0 xe0 ce0 le0
              have ce4 := xe4.cell
              have le4 := xe4.lt
            · go_wp2_with (first | (go_at_call 8; (with_reducible refine (cR _).mono ?_); rintro e w5 ⟨rfl, hb5⟩; have pm5 := pm4.grow hb5; have hx5 := hx4.below hb5; have xe5 : Box w5 bx _ _ := (hb5.block bx le4).trans xe4; have ce5 := xe5.cell; have le5 := xe5.lt) | (go_at_call 9; (with_reducible refine (does_bad D 0 p k b r c sh al ct _ hv).mono ?_); rintro e w6 ⟨rfl, hb6⟩; have pm6 := pm5.grow hb6; have hx6 := hx5.below hb6) | (go_at_call 17; (with_reducible refine (alike_p _ _ _ _ _ pm6.pt pm6.mo).mono ?_); rintro e w7 ⟨rfl, hb7⟩))
              have pmF := pm6.grow hb7
              have hpxF := hx6.below hb7
              go_roundw
              case rel => exact ⟨i + 1, D, p, by omega, rfl, by go_num, pmF.mono (by omega), hpxF⟩
              case measure => simp [intOf]; omega
            · go_wp2_with (first | (go_at_call 8; (with_reducible refine (cR _).mono ?_); rintro e w5 ⟨rfl, hb5⟩; have pm5 := pm4.grow hb5; have hx5 := hx4.below hb5; have xe5 : Box w5 bx _ _ := (hb5.block bx le4).trans xe4; have ce5 := xe5.cell; have le5 := xe5.lt))
              clear ce4 le4 xe4 pm4 hx4 ce5 le5
              refine wp_region_V (fun u1 u2 => Bar2 D M u1 u2) (by kernel_rfl) ?_
              have hTr : ∀ u1 u2 u3 : World, Bar2 D M u1 u2 → Bar2 D M u2 u3 → Bar2 D M u1 u3 := fun _ _ _ h1 h2 => h1.trans h2
              have hGr : ∀ u1 u2 : World, Gr u1 u2 → Bar2 D M u1 u2 := fun _ _ h => Bar2.of_below h
              obtain ⟨w6, hw6, pm6, xe6, hx6⟩ : ∃ w6, w5.drew = w6 ∧ PM w w6 D M p p i ∧ Box w6 bx #[.int .i64 0, .int .i64 k, .int .i64 b, .int .i64 r, .int .i64 c, .bool sh, .bool al, .bool ct, .int .i64 am, .bool ae] 52 ∧ PBx w6 D := ⟨_, rfl, pm5.grow (Below.refl _ _).drew, xe5, hx5⟩
              rw [hw6]
              clear hw6 pm5 xe5 hx5
              refine wpAnyV_takeS hTr hGr (A := ?A0) 0 rfl (by kernel_rfl) (by kernel_rfl) (by kernel_rfl) (fun _ _ _ _ h => h) ?q0 ?r0
              case q0 =>
                intro W hW
                try simp only [List.getElem_toArray, List.getElem_cons_zero, List.getElem_cons_succ]
                go_big_quiet_step (fail)
                refine wpQuiet_nil ?_
                rfl
              refine wpAnyV_takeS hTr hGr (A := ?A1) 1 rfl (by kernel_rfl) (by kernel_rfl) (by kernel_rfl) (fun _ _ _ _ h => h) ?q1 ?r1
              case q1 =>
                intro W hW
                try simp only [List.getElem_toArray, List.getElem_cons_zero, List.getElem_cons_succ]
                go_big_quiet_step (fail)
                refine wpQuiet_nil ?_
                rfl
              refine wpAnyV_takeS hTr hGr (A := ?A2) 2 rfl (by kernel_rfl) (by kernel_rfl) (by kernel_rfl) (fun _ _ _ _ h => h) ?q2 ?r2
              case q2 =>
                intro W hW
                have hxW : Box W bx _ _ := (hW.block bx hbD hbM xe6.lt).trans xe6; have cxW := hxW.cell; have lxW := hxW.lt
                try simp only [List.getElem_toArray, List.getElem_cons_zero, List.getElem_cons_succ]
                go_big_quiet_step (fail)
                refine wpQuiet_nil ?_
                rfl
              refine wpAnyV_takeS hTr hGr (A := ?A3) 3 rfl (by kernel_rfl) (by kernel_rfl) (by kernel_rfl) (fun _ _ _ _ h => h) ?q3 ?r3
              case q3 =>
                intro W hW
                try simp only [List.getElem_toArray, List.getElem_cons_zero, List.getElem_cons_succ]
                go_big_quiet_step (fail)
                refine wpQuiet_nil ?_
                rfl
              refine wpAnyV_takeS hTr hGr (A := ?A4) 4 rfl (by kernel_rfl) (by kernel_rfl) (by kernel_rfl) (fun _ _ _ _ h => h) ?q4 ?r4
              case q4 =>
                intro W hW
                try simp only [List.getElem_toArray, List.getElem_cons_zero, List.getElem_cons_succ]
                go_big_quiet_step (fail)
                refine wpQuiet_nil ?_
                rfl
              refine wpAnyV_takeS hTr hGr (A := ?A5) 5 rfl (by kernel_rfl) (by kernel_rfl) (by kernel_rfl) (fun _ _ _ _ h => h) ?q5 ?r5
              case q5 =>
                intro W hW
                have hxW : Box W bx _ _ := (hW.block bx hbD hbM xe6.lt).trans xe6; have cxW := hxW.cell; have lxW := hxW.lt
                try simp only [List.getElem_toArray, List.getElem_cons_zero, List.getElem_cons_succ]
                go_big_quiet_step (fail)
                refine wpQuiet_nil ?_
                rfl
              refine wpAnyV_one 6 (by kernel_rfl) ?_
              intro W hW
              obtain ⟨X, rfl⟩ := GW.of hW
              have pmX := pm6.grow X.grow
              have hxX := hx6.below X.grow
              refine wpOp_step rfl (fun K hK => ?_)
              go_simp
              (with_reducible refine (mdo_q M p i k b r c sh al ct _ pmX.mo (by omega) hv).mono ?_)
              rintro e w7 ⟨rfl, hmo, hbm, hma⟩
              have pm7 := pmX.mdo hmo hbm hma
              have hx7 := hxX.bar hbm hDM
              go_simp
              refine hK _ _ ⟨Bar2.right hbm, ?_⟩
              clear hK K hmo hbm hma pmX hxX hW X pm6 hx6
              try simp only [Act.put, List.getElem_toArray, List.getElem_cons_zero, List.getElem_cons_succ, List.setIfInBounds_toArray, List.set_cons_zero, List.set_cons_succ]
              refine wpAnyV_one 7 (by kernel_rfl) ?_
              intro W hW
              obtain ⟨X, rfl⟩ := GW.of hW
              have pmX := pm7.grow X.grow
              have hxX := hx7.below X.grow
              refine wpOp_step rfl (fun K hK => ?_)
              go_simp
              (with_reducible refine (does_ok D 0 p k b r c sh al ct _ _ pmX.pt (ht.below pmX.bl) hg hv rfl).mono ?_)
              rintro e w8 ⟨rfl, hpt, hkp⟩
              have pm8 := pmX.does hpt hkp
              have hx8 := hxX.keep hkp
              go_simp
              refine hK _ _ ⟨Bar2.left hkp.1, ?_⟩
              clear hK K hpt hkp pmX hxX hW X pm7 hx7
              try simp only [Act.put, List.getElem_toArray, List.getElem_cons_zero, List.getElem_cons_succ, List.setIfInBounds_toArray, List.set_cons_zero, List.set_cons_succ]
              refine wpAnyV_takeS hTr hGr (A := ?A8) 8 rfl (by kernel_rfl) (by kernel_rfl) (by kernel_rfl) (fun _ _ _ _ h => h) ?q8 ?r8
              case q8 =>
                intro W hW
                try simp only [List.getElem_toArray, List.getElem_cons_zero, List.getElem_cons_succ]
                go_big_quiet_step (fail)
                refine wpQuiet_nil ?_
                rfl
              refine wpAnyV_done (by kernel_rfl) ?_ _
              intro W hW
              have pm9 := pm8.grow hW
              have hx9 := hx8.below hW
              clear pm8 hx8 xe6 hW hTr hGr
              go_wp2_with (first | (go_at_call 17; (with_reducible refine (alike_p _ _ _ _ _ pm9.pt pm9.mo).mono ?_); rintro e w10 ⟨rfl, hb10⟩))
              have pmF := pm9.grow hb10
              have hpxF := hx9.below hb10
              go_roundw
              case rel => exact ⟨i + 1, D, afterP p k b r c, by omega, rfl, by go_num, pmF, hpxF⟩
              case measure => simp [intOf]; omega
        · by_cases h1 : wh = 1
          · subst h1
            as_aux_lemma =>
              by_cases hm : 0 ≤ am ∧ am ≤ 3
              · have hsp : setP p am ae = { p with mode := am, exact := ae } := by unfold setP; rw [if_neg (by omega)]
                have h1 : ¬ am < 0 := by omega
                have h2 : ¬ 3 < am := by omega
                have HSP := Lib.hid hsp
                clear hsp
                go_wp2_with fail
                have hsp := HSP.out
                obtain ⟨sl, l, xm, hrd, hap, hln, hmem, hm0, hm3⟩ := pm0.mo
                obtain ⟨wq, hwq⟩ : ∃ wq, wq = W0 := ⟨_, rfl⟩
                refine wp_region_V (fun u1 u2 => Bar M u1 u2) (by kernel_rfl) ?_
                have hTr : ∀ u1 u2 u3 : World, Bar M u1 u2 → Bar M u2 u3 → Bar M u1 u3 := fun _ _ _ h1 h2 => Bar.trans h1 h2
                have hGr : ∀ u1 u2 : World, Gr u1 u2 → Bar M u1 u2 := fun _ _ h1 => Below.bar _ h1
                obtain ⟨W6, hW6, xm6, xe6, hb6⟩ : ∃ W6, W0.drew = W6 ∧ Box W6 M #[.int .i64 p.mode, .bool p.exact, sl, .bool p.there, .int .i64 p.a0, .int .i64 p.a1] 33 ∧ Box W6 bx #[.int .i64 1, .int .i64 k, .int .i64 b, .int .i64 r, .int .i64 c, .bool sh, .bool al, .bool ct, .int .i64 am, .bool ae] 52 ∧ Bar M wq W6 := ⟨_, rfl, xm, xe0, hwq ▸ (Bar.refl M W0).drew⟩
                rw [hW6]
                clear hW6
                refine wpAnyV_takeS hTr hGr (A := ?A0s) 0 rfl (by kernel_rfl) (by kernel_rfl) (by kernel_rfl) (fun _ _ _ _ h => h) ?q0s ?r0s
                case q0s =>
                  intro W hW
                  try simp only [List.getElem_toArray, List.getElem_cons_zero, List.getElem_cons_succ]
                  go_big_quiet_step (fail)
                  refine wpQuiet_nil ?_
                  rfl
                refine wpAnyV_takeS hTr hGr (A := ?A1s) 1 rfl (by kernel_rfl) (by kernel_rfl) (by kernel_rfl) (fun _ _ _ _ h => h) ?q1s ?r1s
                case q1s =>
                  intro W hW
                  try simp only [List.getElem_toArray, List.getElem_cons_zero, List.getElem_cons_succ]
                  go_big_quiet_step (fail)
                  refine wpQuiet_nil ?_
                  rfl
                refine wpAnyV_takeS hTr hGr (A := ?A2s) 2 rfl (by kernel_rfl) (by kernel_rfl) (by kernel_rfl) (fun _ _ _ _ h => h) ?q2s ?r2s
                case q2s =>
                  intro W hW
                  try simp only [List.getElem_toArray, List.getElem_cons_zero, List.getElem_cons_succ]
                  go_big_quiet_step (fail)
                  refine wpQuiet_nil ?_
                  rfl
                refine wpAnyV_takeS hTr hGr (A := ?A3s) 3 rfl (by kernel_rfl) (by kernel_rfl) (by kernel_rfl) (fun _ _ _ _ h => h) ?q3s ?r3s
                case q3s =>
                  intro W hW
                  have hxW : Box W bx _ _ := (hW.block bx hbM xe6.lt).trans xe6; have cxW := hxW.cell; have lxW := hxW.lt
                  try simp only [List.getElem_toArray, List.getElem_cons_zero, List.getElem_cons_succ]
                  go_big_quiet_step (fail)
                  refine wpQuiet_nil ?_
                  rfl
                refine wpAnyV_takeS hTr hGr (A := ?A4s) 4 rfl (by kernel_rfl) (by kernel_rfl) (by kernel_rfl) (fun _ _ _ _ h => h) ?q4s ?r4s
                case q4s =>
                  intro W hW
                  try simp only [List.getElem_toArray, List.getElem_cons_zero, List.getElem_cons_succ]
                  go_big_quiet_step (fail)
                  refine wpQuiet_nil ?_
                  rfl
                refine wpAnyV_takeS hTr hGr (A := ?A5s) 5 rfl (by kernel_rfl) (by kernel_rfl) (by kernel_rfl) (fun _ _ _ _ h => h) ?q5s ?r5s
                case q5s =>
                  intro W hW
                  have hxW : Box W bx _ _ := (hW.block bx hbM xe6.lt).trans xe6; have cxW := hxW.cell; have lxW := hxW.lt
                  try simp only [List.getElem_toArray, List.getElem_cons_zero, List.getElem_cons_succ]
                  go_big_quiet_step (fail)
                  refine wpQuiet_nil ?_
                  rfl
                refine wpAnyV_takeS hTr hGr (A := ?A6s) 6 rfl (by kernel_rfl) (by kernel_rfl) (by kernel_rfl) (fun _ _ _ _ h => h) ?q6s ?r6s
                case q6s =>
                  intro W hW
                  try simp only [List.getElem_toArray, List.getElem_cons_zero, List.getElem_cons_succ]
                  go_big_quiet_step (fail)
                  refine wpQuiet_nil ?_
                  rfl
                refine wpAnyV_takeS hTr hGr (A := ?A7s) 7 rfl (by kernel_rfl) (by kernel_rfl) (by kernel_rfl) (fun _ _ _ _ h => h) ?q7s ?r7s
                case q7s =>
                  intro W hW
                  try simp only [List.getElem_toArray, List.getElem_cons_zero, List.getElem_cons_succ]
                  go_big_quiet_step (fail)
                  refine wpQuiet_nil ?_
                  rfl
                refine wpAnyV_one 8 (by kernel_rfl) ?_
                intro W hW
                have xmW : Box W M _ _ := (hW.block M xm6.lt).trans xm6
                have cW := xmW.cell
                have fW := xmW.free
                have lW := xmW.lt
                refine wpOp_step rfl (fun K hK => ?_)
                go_simp
                refine hK _ _ ⟨(Bar.refl M W).set _ _, ?_⟩
                clear hK K
                try simp only [Act.put, List.getElem_toArray, List.getElem_cons_zero, List.getElem_cons_succ, List.setIfInBounds_toArray, List.set_cons_zero, List.set_cons_succ]
                obtain ⟨W7, hW7, xm7, hb7⟩ : ∃ W7, W.setCell ⟨M, 0, none⟩ (.int .i64 am) = W7 ∧ Box W7 M _ 33 ∧ Bar M wq W7 := ⟨_, rfl, xmW.set 0 _, (hb6.below hW).set 0 _⟩
                rw [hW7]
                clear hW7 cW fW lW xmW hW xm6 hb6 W
                refine wpAnyV_takeS hTr hGr (A := ?A9s) 9 rfl (by kernel_rfl) (by kernel_rfl) (by kernel_rfl) (fun _ _ _ _ h => h) ?q9s ?r9s
                case q9s =>
                  intro W hW
                  try simp only [List.getElem_toArray, List.getElem_cons_zero, List.getElem_cons_succ]
                  go_big_quiet_step (fail)
                  refine wpQuiet_nil ?_
                  rfl
                refine wpAnyV_takeS hTr hGr (A := ?A10s) 10 rfl (by kernel_rfl) (by kernel_rfl) (by kernel_rfl) (fun _ _ _ _ h => h) ?q10s ?r10s
                case q10s =>
                  intro W hW
                  try simp only [List.getElem_toArray, List.getElem_cons_zero, List.getElem_cons_succ]
                  go_big_quiet_step (fail)
                  refine wpQuiet_nil ?_
                  rfl
                refine wpAnyV_one 11 (by kernel_rfl) ?_
                intro W hW
                have xmW : Box W M _ _ := (hW.block M xm7.lt).trans xm7
                have cW := xmW.cell
                have fW := xmW.free
                have lW := xmW.lt
                refine wpOp_step rfl (fun K hK => ?_)
                go_simp
                refine hK _ _ ⟨(Bar.refl M W).set _ _, ?_⟩
                clear hK K
                try simp only [Act.put, List.getElem_toArray, List.getElem_cons_zero, List.getElem_cons_succ, List.setIfInBounds_toArray, List.set_cons_zero, List.set_cons_succ]
                obtain ⟨W8, hW8, xm8, hb8⟩ : ∃ W8, W.setCell ⟨M, 1, none⟩ (.bool ae) = W8 ∧ Box W8 M _ 33 ∧ Bar M wq W8 := ⟨_, rfl, xmW.set 1 _, (hb7.below hW).set 1 _⟩
                rw [hW8]
                clear hW8 cW fW lW xmW hW xm7 hb7 W
                refine wpAnyV_done (by kernel_rfl) ?_ _
                intro W1 hW
                have xm9 : Box W1 M #[.int .i64 am, .bool ae, sl, .bool p.there, .int .i64 p.a0, .int .i64 p.a1] 33 := Box.as ((hW.block M xm8.lt).trans xm8) (by simp)
                have hbc : Bar M W0 W1 := hwq ▸ hb8.below hW
                have pm1 : PM w W1 D M p (setP p am ae) i := pm0.mdo ⟨sl, l, by rw [hsp]; exact xm9, hrd.bar hap hbc, hap, hln, (fun b' => by rw [hsp]; exact hmem b'), by rw [hsp]; exact hm.1, by rw [hsp]; exact hm.2⟩ hbc (fun D' hD' h v hv => by
                  have e1 : W1.cell? ⟨M, 2, none⟩ = some sl := xm9.cell 2
                  rw [e1] at hv
                  cases hv
                  exact h sl (xm.cell 2))
                have hx1 : PBx W1 D := hx0.bar hbc hDM
                have xe1 : Box W1 bx #[.int .i64 1, .int .i64 k, .int .i64 b, .int .i64 r, .int .i64 c, .bool sh, .bool al, .bool ct, .int .i64 am, .bool ae] 52 := (hbc.block bx hbM xe0.lt).trans xe0
                clear pm0 hx0 xe0 ce0 le0 xm hrd hap hln hmem hm0 hm3 hb8 xm8 xm9 hbc hW hTr hGr hwq xe6
                have ce1 := xe1.cell
                have le1 := xe1.lt
                have e0 : setE am = 0 := by unfold setE; rw [if_neg (by omega)]
                have cS := fun W h => set_any D 0 p am ae W h
                rw [e0] at cS
                clear e0
                go_wp2_with (first | (go_at_call 7; (with_reducible refine (cS _ pm1.pt).mono ?_); rintro e w7 ⟨rfl, hq, hkp⟩; have pm7 := pm1.does hq hkp; have hx7 := hx1.keep hkp) | (go_at_call 17; (with_reducible refine (alike_p _ _ _ _ _ pm7.pt pm7.mo).mono ?_); rintro e w8 ⟨rfl, hb8⟩))
                have pmF := pm7.grow hb8
                have hpxF := hx7.below hb8
                go_roundw
                case rel => exact ⟨i + 1, D, setP p am ae, by omega, rfl, by go_num, pmF.mono (by omega), hpxF⟩
                case measure => simp [intOf]; omega
              · have e0 : setE am = 2 := by unfold setE; rw [if_pos (by omega)]
                have e1 : setP p am ae = p := by unfold setP; rw [if_pos (by omega)]
                have cS := fun W h => set_any D 0 p am ae W h
                rw [e0, e1] at cS
                clear e0 e1
                by_cases h1 : am < 0
                all_goals
                  try (have h2 : 3 < am := by omega)
                  go_wp2_with (first | (go_at_call 7; (with_reducible refine (cS _ pm0.pt).mono ?_); rintro e w7 ⟨rfl, hq, hkp⟩; have pm7 := pm0.does hq hkp; have hx7 := hx0.keep hkp) | (go_at_call 17; (with_reducible refine (alike_p _ _ _ _ _ pm7.pt pm7.mo).mono ?_); rintro e w8 ⟨rfl, hb8⟩))
                  have pmF := pm7.grow hb8
                  have hpxF := hx7.below hb8
                  go_roundw
                  case rel => exact ⟨i + 1, D, p, by omega, rfl, by go_num, pmF.mono (by omega), hpxF⟩
                  case measure => simp [intOf]; omega
          · as_aux_lemma =>
              obtain ⟨pcs, hpx1, hpx2⟩ := hx0
              have hwhole := pm0.pt.whole hpx1 hpx2
              have cC := copy_any D p W0 hwhole
              clear hwhole hpx1 hpx2
              have hn0 : (wh == 0) = false := by simpa using h0
              have hn1 : (wh == 1) = false := by simpa using h1
              go_wp2_with (first | (go_at_call 16; (with_reducible refine cC.mono ?_); rintro e w4 ⟨D', rfl, hDD, hbc, hb4⟩; have pm4 := pm0.grow hb4) | (go_at_call 10; (with_reducible refine (press_any 2 0 0 _).mono ?_); rintro e w5 ⟨rfl, hb5⟩; have pm5 := pm4.grow hb5; have hbc5 : Box w5 D' _ _ := (hb5.block D' hbc.lt).trans hbc) | (go_at_call 13; (with_reducible refine (do_p D 0 p 1 2 0 0 false false false _ pm5.pt (ht.below pm5.bl) hg (by decide)).mono ?_); rintro e w6 ⟨v, xs, rfl, hrd, hxs, hpt6, hk6⟩; have pm6 := pm5.does hpt6 hk6; have hne : D' ≠ D := (by have := pm0.pt.lt; omega); have hbc6 : Box w6 D' _ _ := (hk6.1.block D' hne hbc5.lt).trans hbc5) | (go_at_call 7; (with_reducible refine (set_any D 0 _ 0 true _ pm6.pt).mono ?_); rintro e w7 ⟨rfl, hq7, hk7⟩; have pm7 := pm6.does hq7 hk7; have hbc7 : Box w7 D' _ _ := (hk7.1.block D' hne hbc6.lt).trans hbc6; have hbar7 : Bar D W0 w7 := (((Below.bar D hb4).below hb5).trans hk6.1).trans hk7.1; have pm8 := pm0.move pm7 hbar7 (PtB.box hbc7) hDD) | (go_at_call 17; (with_reducible refine (alike_p _ _ _ _ _ pm8.pt pm8.mo).mono ?_); rintro e w9 ⟨rfl, hb9⟩))
              have pmF := pm8.grow hb9
              have hpxF : PBx w9 D' := ⟨_, (hb9.block D' hbc7.lt).trans hbc7, rfl⟩
              go_roundw
              case rel => exact ⟨i + 1, D', p, by omega, rfl, by go_num, pmF.mono (by omega), hpxF⟩
              case measure => simp [intOf]; omega
      · go_wp2_with (first | (go_at_call 12; (with_reducible refine (known_any _ (ht.below pmr.bl)).mono ?_); rintro e w1 ⟨rfl, hb⟩))
        go_ret
        exact ⟨rfl, bl_trans pmr.bl hb⟩

set_option maxRecDepth 100000 in
theorem pointerPlays_lifted (os : Os) (started : os.Started) (H : Type) (enc : TypeId × Value → H) :
    ReturnsInHanded {} Tryd.checked os 5 .any (fun w args => (Rows.pointerPlaysSpec.pre enc Tryd.prog Tryd.f5 [] false w args ∧ laidMetH Tryd.prog laid3 w) ∧ sizedMet enc Tryd.prog Tryd.f5 (OpenSpec.ofChange Rows.pointerPlaysSpec) false w args)
      (Rows.pointerPlaysSpec.post enc Tryd.prog Tryd.f5 false true false false) := by
  refine returnsInHanded_of_change_and (C := Tryd.checked) (X := fun w _ => laidMetH Tryd.prog laid3 w) (fun _ _ _ hh h => h.of_heap hh) Tryd.own started (by kernel_rfl) Tryd.func5
    (ChangeSpec.witness_shaped (enc := enc) (C := Tryd.checked) (os := os) (X := fun w _ => laidMetH Tryd.prog laid3 w) false (World.doorLaid Tryd.prog 400 os) #[.slice none 0 0] 8 rfl (World.shaped_of_RefB (by kernel_rfl) (by kernel_rfl)) (by kernel_rfl) (by kernel_rfl) (by kernel_rfl) (door_met os _)) ?_
  intro W base args ds gs before hval0 hW _ _ hL _
  have hval : ∀ (j : Nat) t v, Tryd.f5.params[j]? = some t → args[j]? = some v → Value.okWide Tryd.prog W .any base t v := hval0
  have hW' := hW
  obtain ⟨p, q, hA0, hV, rfl, hfz, hnd⟩ := hW
  have hA : DataW.TrodAll enc Tryd.prog W 0 (fun _ => true) true Tryd.f5.params.toList args.toList ds p := hA0
  rw [Tryd.params5] at hA hval
  obtain ⟨v0, d0, rfl, rfl, h0⟩ := trodAll_one hA
  obtain ⟨rfl, rfl⟩ := trodVars_none hV
  obtain ⟨len, q, cap, rfl, hq⟩ := open_acts (hval 0 50 v0 rfl rfl) h0
  clear hA0 hval0
  have hT := tab_of_laid hL
  refine (pointerPlays_any q len cap W hT hq).mono fun e W' ⟨he, hw⟩ => ?_
  exact ⟨_, he, post_law Tryd.laidOut rfl hW' (by kernel_rfl) rfl Tryd.underlying4 rfl hw⟩

theorem pointerPlays_row : Rows.PointerPlaysSaid :=
  OpenClaim.holds_of_wide 5 Tryd.f5 rfl rfl rfl rfl rfl rfl rfl ⟨rfl, rfl, rfl, rfl, rfl⟩ rfl rfl rfl rfl rfl (by kernel_rfl) Tryd.func5 (by kernel_rfl)
    (of_decide_eq_true (by kernel_rfl)) (by unfold Func.isWrapper; first | (rw [if_pos (by decide +kernel)]; kernel_rfl) | (rw [if_neg (by decide +kernel)]; exact ⟨rfl, rfl⟩))
    (fun os started H enc _ => pointerPlays_lifted os started H enc)

set_option maxHeartbeats 8000000 in
set_option maxRecDepth 100000 in
/-- THE TIED CARD. -/
theorem pointerPlays_holds : Rows.PointerPlaysCardSaid :=
  Claim7.holds_tied_plain_at .later [] [.data, .data, .data] true (true, "90dd721bd90d809665aaa20713420bf5ee549876cf151f823e6f04bd9bbf0cf1") false
    pointerPlays_row (fun _ h => by cases h) (by kernel_rfl) (fun _ h => by cases h) pointerPlays_row_tie rfl ⟨rfl, rfl⟩ (by kernel_rfl) rfl
    (fun f fn hf hfn => by
      obtain rfl : f = 5 := Option.some.inj ((show Tryd.prog.funcNamed "scrollback/scrollbacklaw50.PointerPlays" = some 5 by kernel_rfl).symm.trans hf) |>.symm
      obtain rfl : fn = Tryd.f5 := (Option.some.inj (Tryd.func5.symm.trans hfn)).symm
      exact ⟨by kernel_rfl, fun j t ht => by
        rw [Tryd.params5] at ht
        have hm : t ∈ [50] := by simpa using Array.mem_of_getElem? ht
        have hall : ([50].all fun u => !Tryd.prog.wantsStandIn u) = true := by kernel_rfl
        exact (show Tryd.prog.wantsStandIn t = false by simpa using List.all_eq_true.1 hall t hm)⟩)
    (by kernel_rfl)

end Go.Proofs.YtfhigmogcpocpaaDoor
