/- modes: ModesApplies returns true for every input. No condition. -/
import Derived.Test.YtcmflmmidipckaaDoorQ
import Derived.Test.YtcmflmmidipckaaDoorCards
import Derived.Test.YtcmflmmidipckaaDoorTie
import Derived.SevenTiedAt
import Derived.ChangeMaps5
import Derived.Deep.Strs
import Derived.Laws.LoneSync
import Derived.Outline
set_option linter.unusedSimpArgs false
set_option linter.unusedVariables false
set_option linter.unnecessarySimpa false
namespace Go.Proofs.YtcmflmmidipckaaDoor
open Go.ChangeShapes Go.WideShapes Go.ChangeAt Go.RowKit

theorem wpList_app0 {P : Program} {ops : Array Oper} {rest : List Oper} {o : Oper} {a : Act} {w : World} {Q : Exit → Act → World → Prop} (hgd : o.guard = none) (s x : Operand) (t E : TypeId) (k : IntKind) (bytes : Nat)
    (ho : o.op = .call { callee := .builtin .append, args := #[s, x], argTypes := #[t, t] }) (ht : P.underlying t = some (.slice E)) (hi : (P.info? E).map (fun i => (i.zero, i.size, i.bytes)) = some (some (.int k 0), 1, bytes))
    (B : Nat) (v : Value) (xs : List Int) (a0 : Addr) (c : Nat) (hown : Own w B E k v xs) (hs : a.eval s = v) (hx : a.eval x = .slice (some a0) 0 c) (h63 : xs.length ≤ maxLen) (hbytes : xs.length * bytes ≤ 140737488355328) (hbase : B ≤ w.heap.size)
    (h : ∀ v' w', Own w' B E k v' xs → Below B w w' → w.grownBy w' v.ownBlock → wpList P ops Q rest (a.put o.dst v') w') : wpList P ops Q (o :: rest) a w := by
  obtain ⟨i0, hi, hz0, hz1, hz2⟩ := info_parts hi
  refine wpList_append_own w hgd s x t ho B E i0 (.int k 0) 1 bytes ht hi hz0 hz1 hz2 rfl (by decide) v xs.length (xs.map (.int k)) hs hown a0 0 c [] hx (by simp) (fun j u hu => by simp at hu) (fun u hu => by simp at hu) (by simpa using h63) (by simpa using hbytes) hbase (fun v' w' h1 h2 _ => h v' w' ?_ (grown_below h2 (fun k hk => (World.ownsRow.lt hown k hk).1) hbase) h2)
  rw [Nat.add_zero, List.append_nil] at h1; exact h1
theorem box_nine (w : World) (b : Nat) (t : TypeId) (u0 u1 u2 u3 u4 u5 u6 u7 u8 v0 v1 v2 v3 v4 v5 v6 v7 v8 : Value) (h : Box w b #[u0, u1, u2, u3, u4, u5, u6, u7, u8] t) : Box (((((((((w.setCell ⟨b, 0, none⟩ v0).setCell ⟨b, 1, none⟩ v1).setCell ⟨b, 2, none⟩ v2).setCell ⟨b, 3, none⟩ v3).setCell ⟨b, 4, none⟩ v4).setCell ⟨b, 5, none⟩ v5).setCell ⟨b, 6, none⟩ v6).setCell ⟨b, 7, none⟩ v7).setCell ⟨b, 8, none⟩ v8) b #[v0, v1, v2, v3, v4, v5, v6, v7, v8] t :=
  Box.as (((((((((h.set 0 v0).set 1 v1).set 2 v2).set 3 v3).set 4 v4).set 5 v5).set 6 v6).set 7 v7).set 8 v8) (by simp)
theorem bar_nine (w w0 : World) (b : Nat) (v0 v1 v2 v3 v4 v5 v6 v7 v8 : Value) (h : Bar b w0 w) : Bar b w0 (((((((((w.setCell ⟨b, 0, none⟩ v0).setCell ⟨b, 1, none⟩ v1).setCell ⟨b, 2, none⟩ v2).setCell ⟨b, 3, none⟩ v3).setCell ⟨b, 4, none⟩ v4).setCell ⟨b, 5, none⟩ v5).setCell ⟨b, 6, none⟩ v6).setCell ⟨b, 7, none⟩ v7).setCell ⟨b, 8, none⟩ v8) :=
  ((((((((h.set 0 v0).set 1 v1).set 2 v2).set 3 v3).set 4 v4).set 5 v5).set 6 v6).set 7 v7).set 8 v8
theorem below_nine (w w0 : World) (b : Nat) (v0 v1 v2 v3 v4 v5 v6 v7 v8 : Value) (h : Below w0.heap.size w0 w) (hb : w0.heap.size ≤ b) : Below w0.heap.size w0 (((((((((w.setCell ⟨b, 0, none⟩ v0).setCell ⟨b, 1, none⟩ v1).setCell ⟨b, 2, none⟩ v2).setCell ⟨b, 3, none⟩ v3).setCell ⟨b, 4, none⟩ v4).setCell ⟨b, 5, none⟩ v5).setCell ⟨b, 6, none⟩ v6).setCell ⟨b, 7, none⟩ v7).setCell ⟨b, 8, none⟩ v8) := Bar.to_below h (bar_nine w w b v0 v1 v2 v3 v4 v5 v6 v7 v8 (Bar.refl _ _)) hb

set_option maxHeartbeats 4000000 in
set_option maxRecDepth 100000 in
theorem applies_e (m : Md) (p : Int) (a0 : Addr) (c0 : Nat) (on : Bool) (r : Md) (no : Int) (w : World) (hg : Glob w) (hr : applyR m p [] on = r) (he : getE m = no) : Calls Tryd.prog 18 #[.agg #[.bool m.aw, .bool m.ori, .bool m.ins, .bool m.vis, .bool m.app, .bool m.pas, .bool m.sgr, .int .i64 m.ptr, .int .i64 m.alt], .int .i32 p, .slice (some a0) 0 c0, .bool on, .agg #[.bool r.aw, .bool r.ori, .bool r.ins, .bool r.vis, .bool r.app, .bool r.pas, .bool r.sgr, .int .i64 r.ptr, .int .i64 r.alt], .int .i64 no] w fun e w' => e = .returned (.bool true) ∧ Below w.heap.size w w' := by
  have cS := fun u W (hu : Rd W .i64 u []) (hb : Below w.heap.size w W) => apply_any m p u [] on W (hg.below hb) hu
  rw [hr, he] at cS
  go_enter Tryd.func18, Tryd.ntmps18
  go_wp2_with (first | (at_builtin; refine wpList_app0 rfl _ _ 35 3 .i64 8 rfl Tryd.underlying35 el64 (w.heap.size + 2) _ [] a0 c0 (Own.nil _ _ _ _) rfl rfl (by simp [maxLen]) (by simp) (by simp) ?_; intro v' w1 hown hg1 _; obtain ⟨p1, n1, cc1, hv'⟩ := hown.rd.shape; subst hv'; have hb1 : Below w.heap.size w w1 := bl_trans (bl_alloc (bl_alloc (Below.refl _ _) _) _) (by simpa using hg1); have hrw : Box w1 (w.heap.size + 1) _ _ := (hg1.block (w.heap.size + 1) (by omega)).trans (Box.new _ _ _ (by simp)); have hmw : Box w1 w.heap.size _ _ := (hg1.block w.heap.size (by omega)).trans ((Box.new w _ _ rfl).alloc _); have hcm := hmw.cell; have hlm := hmw.lt; have hro := hown.rd; clear hg1 hown) | (go_at_call 24; (with_reducible refine (cS _ _ hro hb1).mono ?_); rintro e w2 ⟨rfl, hb2⟩; have hl2 : Below w.heap.size w w2 := bl_trans hb1 hb2; have hrw2 : Box w2 (w.heap.size + 1) _ _ := (hb2.block _ hrw.lt).trans hrw; clear hro))
  have hl4 : Below w.heap.size w (w2.alloc (.cells #[.bool r.aw, .bool r.ori, .bool r.ins, .bool r.vis, .bool r.app, .bool r.pas, .bool r.sgr, .int .i64 r.ptr, .int .i64 r.alt] 23)) := bl_alloc hl2 _
  have hx4 : Box (w2.alloc (.cells #[.bool r.aw, .bool r.ori, .bool r.ins, .bool r.vis, .bool r.app, .bool r.pas, .bool r.sgr, .int .i64 r.ptr, .int .i64 r.alt] 23)) w2.heap.size _ _ := Box.new w2 _ _ rfl
  have hr4 : Box (w2.alloc (.cells #[.bool r.aw, .bool r.ori, .bool r.ins, .bool r.vis, .bool r.app, .bool r.pas, .bool r.sgr, .int .i64 r.ptr, .int .i64 r.alt] 23)) (w.heap.size + 1) _ _ := hrw2.alloc _
  obtain ⟨b4, hb4⟩ : ∃ b4, w2.heap.size = b4 := ⟨_, rfl⟩
  generalize w2.alloc (.cells #[.bool r.aw, .bool r.ori, .bool r.ins, .bool r.vis, .bool r.app, .bool r.pas, .bool r.sgr, .int .i64 r.ptr, .int .i64 r.alt] 23) = W4 at *
  rw [hb4] at hx4 ⊢
  clear hb4 hrw2
  go_loopw [16] (fun i wr => i = .int .i64 0 ∧ Below W4.heap.size W4 wr) (fun _ _ => 0)
  case atStart => exact ⟨rfl, Below.refl _ _⟩
  case round =>
    obtain ⟨rfl, hbel⟩ := hrel
    have hx5 : Box wr b4 _ _ := (hbel.block _ hx4.lt).trans hx4
    have hr5 : Box wr (w.heap.size + 1) _ _ := (hbel.block _ hr4.lt).trans hr4
    have z1 := hx5.cell
    have z2 := hr5.cell
    have z3 := hx5.lt
    have z4 := hr5.lt
    go_wp2_with fail
    go_ret
    exact ⟨rfl, hl4.trans (hbel.mono hl4.size)⟩
/-- A slice of numbers that came in, inside another one: it reads, or it is empty. -/
def Rdx (w : World) (v : Value) (xs : List Int) : Prop := Rd w .i64 v xs ∨ ∃ a c, v = .slice (some a) 0 c ∧ xs = []
theorem Rd.apart_of {w : World} {k : IntKind} {v : Value} {xs : List Int} {D : Nat} (h : Rd w k v xs) (hD : w.heap.size ≤ D) : Apart v D := fun b off n c e => by
  have := h.in b (by rw [e]; rfl)
  omega
theorem Rdx.below {w w' : World} {v : Value} {xs : List Int} (h : Rdx w v xs) (hb : Below w.heap.size w w') : Rdx w' v xs := h.imp (fun h => h.below hb) id
theorem Rdx.len {w : World} {v : Value} {xs : List Int} (h : Rdx w v xs) : ∃ p c, v = .slice p xs.length c := by
  rcases h with ⟨p, c, rfl, _⟩ | ⟨a, c, rfl, rfl⟩
  · exact ⟨p, c, rfl⟩
  · exact ⟨some a, c, rfl⟩
theorem applies_x (m : Md) (p : Int) (v : Value) (xs : List Int) (on : Bool) (r : Md) (no : Int) (w : World) (hg : Glob w) (h : Rdx w v xs) (hl : xs.length ≤ 1000) (hr : applyR m p xs on = r) (he : getE m = no) : Calls Tryd.prog 18 #[.agg #[.bool m.aw, .bool m.ori, .bool m.ins, .bool m.vis, .bool m.app, .bool m.pas, .bool m.sgr, .int .i64 m.ptr, .int .i64 m.alt], .int .i32 p, v, .bool on, .agg #[.bool r.aw, .bool r.ori, .bool r.ins, .bool r.vis, .bool r.app, .bool r.pas, .bool r.sgr, .int .i64 r.ptr, .int .i64 r.alt], .int .i64 no] w fun e w' => e = .returned (.bool true) ∧ Below w.heap.size w w' := by
  rcases h with h | ⟨a, c, rfl, rfl⟩
  · exact applies_t m p v xs on r no w hg h hl hr he
  · exact applies_e m p a c on r no w hg hr he
/-- A call that came in. -/
structure Cl where
  p : Int
  v : Value
  l : List Int
  on : Bool
def ClAt (W : World) (b off i : Nat) (c : Cl) : Prop := W.cell? ⟨b, off + i * 3, none⟩ = some (.int .i32 c.p) ∧ W.cell? ⟨b, off + i * 3 + 1, none⟩ = some c.v ∧ W.cell? ⟨b, off + i * 3 + 2, none⟩ = some (.bool c.on) ∧ Rdx W c.v c.l
theorem cellsCall : Tryd.prog.cellsOf 37 = 3 := by kernel_rfl
theorem cellsI32 : Tryd.prog.cellsOf 21 = 1 := by kernel_rfl
theorem cellsInts : Tryd.prog.cellsOf 35 = 1 := by kernel_rfl
theorem three3 {l : List Value} (h : l.length = 3) : ∃ a b c, l = [a, b, c] := by
  match l, h with
  | [a, b, c], _ => exact ⟨a, b, c, rfl⟩
theorem spot_none {W : World} {a : Addr} {v : Value} (h : W.cell? (a.add 0) = some v) : a.spot = none ∧ a.block < W.heap.size := by
  have e : a.add 0 = a := by simp [Addr.add]
  rw [e] at h
  obtain ⟨_, _, _, _, h2⟩ := World.shape?_of_cell? h
  exact ⟨h2, World.block_lt_of_cell? W _ h⟩
theorem open_inner {H : Type} {enc : TypeId × Value → H} {W : World} {fuel : Nat} {c : Value} {x : DataW H × List MemPlace} (h : DataW.trod enc Tryd.prog W 0 (fun _ => true) true fuel 35 [c] = some x) : ∃ xs, Rdx W c xs := by
  rcases open_ints Tryd.underlying35 Tryd.underlying3 (by kernel_rfl) h with ⟨h1, _⟩ | ⟨a, len, cap, zs, h1, _, hl, hm, hz, _, hcell, hwf⟩
  · cases h1; exact ⟨[], .inl (Rd.nil _ _)⟩
  · cases h1
    simp only [if_true] at hz
    by_cases h0 : len = 0
    · subst h0; exact ⟨[], .inr ⟨a, cap, rfl, rfl⟩⟩
    · obtain ⟨h2, h3⟩ := spot_none (hcell 0 (by omega))
      obtain ⟨b, off, spot⟩ := a
      subst h2
      have hlz : (zs.take len).length = len := by rw [List.length_take]; omega
      refine ⟨zs.take len, .inl ⟨_, cap, by rw [hlz], by rw [hlz]; exact hl, hm, .inr ⟨b, off, rfl, h3, fun i x hx => ?_⟩⟩⟩
      have hi := (List.getElem?_eq_some_iff.1 hx).1
      rw [hlz] at hi
      have := hcell i (by omega)
      rw [Addr.add_lit] at this
      rw [List.getElem?_take, if_pos hi] at hx
      rw [this]
      simp [List.getD, hx]
theorem open_calls {H : Type} {enc : TypeId × Value → H} {W : World} {b0 : Nat} {r : Reach} {v : Value} {d : DataW H} {p : List MemPlace} (hv : Value.okWide Tryd.prog W r b0 34 v) (h : DataW.Trod enc Tryd.prog W 0 (fun _ => true) true 34 v d p) :
    ∃ (len : Nat) (q : Option Addr) (cap : Nat), v = .slice q len cap ∧ (len = 0 ∨ ∃ (b off : Nat) (f : Nat → Cl), q = some ⟨b, off, none⟩ ∧ b < W.heap.size ∧ ∀ i, i < len → ClAt W b off i (f i)) := by
  obtain ⟨fuel, hf⟩ := h
  obtain ⟨qv, lv, cv, rfl⟩ := okWide_slice Tryd.underlying34 hv
  refine ⟨lv, qv, cv, rfl, ?_⟩
  have hone : (Value.slice qv lv cv).cells.toList = [Value.slice qv lv cv] := rfl
  rw [hone] at hf
  rcases DataW.trod_slice Tryd.underlying34 hf with ⟨h0, _⟩ | ⟨a, len, cap, elems, rest, n, _, h1, _, _, hl, hm, hlen, hel, _, _⟩
  · cases h0; exact .inl rfl
  · cases h1
    by_cases h0 : lv = 0
    · exact .inl h0
    · right
      have each : ∀ i, i < lv → ∃ c : Cl, W.cell? (a.add (i * 3)) = some (.int .i32 c.p) ∧ W.cell? (a.add (i * 3 + 1)) = some c.v ∧ W.cell? (a.add (i * 3 + 2)) = some (.bool c.on) ∧ Rdx W c.v c.l := by
        intro i hi
        have hi2 : i < elems.length := by omega
        have h2 := hel i hi
        rw [List.getElem?_eq_getElem hi2, cellsCall, Option.bind_eq_some_iff] at h2
        obtain ⟨cs, hcs, hy⟩ := h2
        obtain ⟨y0, y1, y2, n1, _, hlen3, f0, f1, f2⟩ := Go.Deep.trod_struct3 Tryd.underlying37 hy
        rw [cellsCall] at hlen3
        obtain ⟨c0, c1, c2, rfl⟩ := three3 hlen3
        simp [cellsI32, cellsInts, cells4] at f0 f1 f2
        obtain ⟨n0, e0, _, _⟩ := DataW.trod_int Tryd.underlying21 f0
        obtain ⟨n2, e2, _⟩ := DataW.trod_bool Tryd.underlying4 f2
        cases e0; cases e2
        obtain ⟨xs, hx⟩ := open_inner f1
        obtain ⟨_, _, hcell⟩ := World.cells?_some hcs
        have k0 := hcell 0 (by omega)
        have k1 := hcell 1 (by omega)
        have k2 := hcell 2 (by omega)
        have ad : ∀ j, (a.add (i * 3)).add j = a.add (i * 3 + j) := fun j => by
          unfold Addr.add
          by_cases hj : j = 0
          · subst hj; simp
          · by_cases hi0 : i = 0
            · subst hi0; simp
            · have h3 : i * 3 ≠ 0 := by omega
              have h4 : i * 3 + j ≠ 0 := by omega
              simp only [if_neg h3, if_neg hj, if_neg h4]
              simp [Nat.add_assoc]
        rw [ad] at k0 k1 k2
        exact ⟨⟨n0, c1, xs, n2⟩, by simpa using k0, by simpa using k1, by simpa using k2, hx⟩
      obtain ⟨b, off, spot⟩ := a
      obtain ⟨_, q0, _⟩ := each 0 (by omega)
      obtain ⟨q1, q2⟩ := spot_none (by simpa using q0)
      simp only at q1 q2
      subst q1
      have each2 : ∀ i, ∃ c : Cl, i < lv → ClAt W b off i c := by
        intro i
        by_cases hi : i < lv
        · obtain ⟨c, h3, h4, h5, h6⟩ := each i hi
          rw [Addr.add_lit] at h3 h4 h5
          exact ⟨c, fun _ => ⟨h3, by rw [Nat.add_assoc]; exact h4, by rw [Nat.add_assoc]; exact h5, h6⟩⟩
        · exact ⟨⟨0, .nilIface, [], false⟩, fun h => absurd h hi⟩
      obtain ⟨f, hf'⟩ := Classical.skolem.1 each2
      exact ⟨b, off, f, rfl, q2, hf'⟩

set_option maxHeartbeats 4000000 in
set_option maxRecDepth 100000 in
theorem modesApplies_no (m : Md) (q : Option Addr) (len cap : Nat) (w : World) (h : Gl w) (hl : 20 < len ∨ len = 0) : Calls Tryd.prog 4 #[.agg #[.bool m.aw, .bool m.ori, .bool m.ins, .bool m.vis, .bool m.app, .bool m.pas, .bool m.sgr, .int .i64 m.ptr, .int .i64 m.alt], .slice q len cap] w fun e w' => e = .returned (.bool true) ∧ Below w.heap.size w w' := by
  have hB := h.below (bl_alloc (Below.refl _ w) (.cells #[.bool m.aw, .bool m.ori, .bool m.ins, .bool m.vis, .bool m.app, .bool m.pas, .bool m.sgr, .int .i64 m.ptr, .int .i64 m.alt] 23))
  rcases hl with hl | rfl
  · have r1 : (20 : Int) < (len : Int) := by omega
    go_enter Tryd.func4, Tryd.ntmps4
    go_wp2_with (first | (go_at_call 14; (with_reducible refine (known_any _ hB).mono ?_); rintro e w1 ⟨rfl, hb⟩; (first | obtain ⟨X, rfl⟩ := GW.of2 hb | obtain ⟨X, rfl⟩ := GW.of hb); clear hb))
    go_ret
    exact ⟨rfl, (by repeat (first | with_reducible exact Below.refl _ _ | with_reducible assumption | with_reducible exact GW.grow _ | with_reducible refine bl_alloc ?_ _ | with_reducible refine Below.drew ?_ | (with_reducible refine Below.setCell ?_ ?_ _; rotate_left; focus (simp; first | done | omega)) | with_reducible refine bl_trans ?_ (GW.grow _) | (with_reducible refine bl_trans ?_ (by assumption))))⟩
  · go_enter Tryd.func4, Tryd.ntmps4
    go_wp2_with fail
    go_loopw [5] (fun i wr => i = .int .i64 0 ∧ Below w.heap.size w wr) (fun _ _ => 0)
    case atStart => exact ⟨rfl, (by repeat (first | with_reducible exact Below.refl _ _ | with_reducible assumption | with_reducible exact GW.grow _ | with_reducible refine bl_alloc ?_ _ | with_reducible refine Below.drew ?_ | (with_reducible refine Below.setCell ?_ ?_ _; rotate_left; focus (simp; first | done | omega)) | with_reducible refine bl_trans ?_ (GW.grow _) | (with_reducible refine bl_trans ?_ (by assumption))))⟩
    case round =>
      obtain ⟨rfl, hbl⟩ := hrel
      go_wp2_with (first | (go_at_call 14; (with_reducible refine (known_any _ (h.below hbl)).mono ?_); rintro e w1 ⟨rfl, hb⟩))
      go_ret
      exact ⟨rfl, bl_trans hbl hb⟩
set_option maxHeartbeats 8000000 in
set_option maxRecDepth 100000 in
theorem modesApplies_some (m : Md) (b off len cap : Nat) (f : Nat → Cl) (w : World) (h : Gl w) (hb0 : b < w.heap.size) (hl : len ≤ 20) (hc : ∀ i, i < len → ClAt w b off i (f i)) : Calls Tryd.prog 4 #[.agg #[.bool m.aw, .bool m.ori, .bool m.ins, .bool m.vis, .bool m.app, .bool m.pas, .bool m.sgr, .int .i64 m.ptr, .int .i64 m.alt], .slice (some ⟨b, off, none⟩) len cap] w fun e w' => e = .returned (.bool true) ∧ Below w.heap.size w w' := by
  have HC := Lib.hid hc
  clear hc
  go_enter Tryd.func4, Tryd.ntmps4
  go_wp2_with fail
  go_loopw [5] (fun i wr => ∃ (k : Nat) (mm : Md), k ≤ len ∧ i = .int .i64 k ∧ Box wr w.heap.size #[.bool mm.aw, .bool mm.ori, .bool mm.ins, .bool mm.vis, .bool mm.app, .bool mm.pas, .bool mm.sgr, .int .i64 mm.ptr, .int .i64 mm.alt] 23 ∧ Below w.heap.size w wr) (fun i _ => len - (intOf i).toNat)
  case atStart => exact ⟨0, m, Nat.zero_le _, rfl, Box.new _ _ _ rfl, (by repeat (first | with_reducible exact Below.refl _ _ | with_reducible assumption | with_reducible exact GW.grow _ | with_reducible refine bl_alloc ?_ _ | with_reducible refine Below.drew ?_ | (with_reducible refine Below.setCell ?_ ?_ _; rotate_left; focus (simp; first | done | omega)) | with_reducible refine bl_trans ?_ (GW.grow _) | (with_reducible refine bl_trans ?_ (by assumption))))⟩
  case round =>
    obtain ⟨k, mm, hk, rfl, hmr, hbel⟩ := hrel
    have hGr := h.below hbel
    by_cases hlt : k < len
    · obtain ⟨d1, d2, d3, d4⟩ := HC.out k hlt
      have e1 : wr.cell? ⟨b, off + k * 3, none⟩ = some (.int .i32 (f k).p) := by rw [hbel.cell (p := ⟨b, _, none⟩) hb0]; exact d1
      have e2 : wr.cell? ⟨b, off + k * 3 + 1, none⟩ = some (f k).v := by rw [hbel.cell (p := ⟨b, _, none⟩) hb0]; exact d2
      have e3 : wr.cell? ⟨b, off + k * 3 + 2, none⟩ = some (.bool (f k).on) := by rw [hbel.cell (p := ⟨b, _, none⟩) hb0]; exact d3
      have hR := d4.below hbel
      clear d1 d2 d3 d4
      have y1 : b < wr.heap.size := Nat.lt_of_lt_of_le hb0 hbel.size
      generalize (f k).p = p at *
      generalize (f k).on = on at *
      generalize (f k).l = xs at *
      generalize (f k).v = vv at *
      obtain ⟨q, c, rfl⟩ := hR.len
      have r1 : (0 : Int) ≤ (k : Int) := by omega
      have r2 : (k : Int) < (len : Int) := by omega
      by_cases h20 : 20 < xs.length
      · have r3 : (20 : Int) < (xs.length : Int) := by omega
        go_wp2_with (first | (go_at_call 14; (with_reducible refine (known_any _ hGr).mono ?_); rintro e w1 ⟨rfl, hb⟩))
        go_ret
        exact ⟨rfl, bl_trans hbel hb⟩
      · have r3 : ¬ (20 : Int) < (xs.length : Int) := by omega
        have cV := fun W => rvalid_any mm W
        have hcm := hmr.cell
        have hlm := hmr.lt
        cases hv : validM mm
        · rw [hv] at cV
          have t1 : applyR mm p xs on = zeroM := by unfold applyR; rw [hv]; rfl
          have t2 : getE mm = 2 := by unfold getE; rw [hv]; rfl
          have cA : ∀ W, Glob W → Rdx W (.slice q xs.length c) xs → Calls Tryd.prog 18 #[.agg #[.bool mm.aw, .bool mm.ori, .bool mm.ins, .bool mm.vis, .bool mm.app, .bool mm.pas, .bool mm.sgr, .int .i64 mm.ptr, .int .i64 mm.alt], .int .i32 p, .slice q xs.length c, .bool on, .agg #[.bool false, .bool false, .bool false, .bool false, .bool false, .bool false, .bool false, .int .i64 0, .int .i64 0], .int .i64 2] W fun e w' => e = .returned (.bool true) ∧ Below W.heap.size W w' := fun W hg hx => applies_x mm p _ xs on zeroM 2 W hg hx (by omega) t1 t2
          go_wp2_with (first | (go_at_call 11; (with_reducible refine (cV _).mono ?_); rintro e w1 ⟨rfl, hb⟩; (first | obtain ⟨X, rfl⟩ := GW.of2 hb | obtain ⟨X, rfl⟩ := GW.of hb); clear hb))
          first | refine wp_grow2 (by kernel_rfl) (by kernel_rfl) ?_ | refine wp_grow (by kernel_rfl) (by kernel_rfl) ?_
          repeat (go_big_quiet_step (first | (go_at_call 18; exact GW.call (cA _ (hGr.below (GW.grow _)).g (hR.below (GW.grow _)))) | (go_at_call 14; exact GW.call (known_any _ (hGr.below (GW.grow _))))))
          refine wpQuiet_nil ?_
          rintro _ ⟨X, rfl⟩
          go_wp2_with fail
          go_ret
          exact ⟨rfl, bl_trans hbel X.grow⟩
        · rw [hv] at cV
          have t2 : getE mm = 0 := by unfold getE; rw [hv]; rfl
          have t1 : applyR mm p xs on = applyM mm p xs on := by unfold applyR; rw [hv]; rfl
          go_wp2_with (first | (go_at_call 11; (with_reducible refine (cV _).mono ?_); rintro e w1 ⟨rfl, hb⟩; have hbel1 := bl_trans hbel hb; have hm1 := (hb.block _ hlm).trans hmr; have hcm1 := Box.cell hm1; have hlm1 := Box.lt hm1))
          have hl2 : Below w.heap.size w (w1.alloc (.cells #[.bool mm.aw, .bool mm.ori, .bool mm.ins, .bool mm.vis, .bool mm.app, .bool mm.pas, .bool mm.sgr, .int .i64 mm.ptr, .int .i64 mm.alt] 23)) := bl_alloc hbel1 _
          have hm2 : Box (w1.alloc (.cells #[.bool mm.aw, .bool mm.ori, .bool mm.ins, .bool mm.vis, .bool mm.app, .bool mm.pas, .bool mm.sgr, .int .i64 mm.ptr, .int .i64 mm.alt] 23)) w.heap.size _ _ := Box.alloc hm1 _
          have hx2 : Box (w1.alloc (.cells #[.bool mm.aw, .bool mm.ori, .bool mm.ins, .bool mm.vis, .bool mm.app, .bool mm.pas, .bool mm.sgr, .int .i64 mm.ptr, .int .i64 mm.alt] 23)) w1.heap.size _ _ := Box.new w1 _ _ rfl
          have hR2 := (hR.below hb).below (bl_alloc (Below.refl _ w1) (.cells #[.bool mm.aw, .bool mm.ori, .bool mm.ins, .bool mm.vis, .bool mm.app, .bool mm.pas, .bool mm.sgr, .int .i64 mm.ptr, .int .i64 mm.alt] 23))
          have hbr2 := bl_trans hb (bl_alloc (Below.refl _ w1) (.cells #[.bool mm.aw, .bool mm.ori, .bool mm.ins, .bool mm.vis, .bool mm.app, .bool mm.pas, .bool mm.sgr, .int .i64 mm.ptr, .int .i64 mm.alt] 23))
          have hne : w.heap.size ≠ w1.heap.size := by omega
          have hle : w.heap.size ≤ w1.heap.size := by omega
          have hbm : b < w1.heap.size := Nat.lt_of_lt_of_le y1 hb.size
          have hsz : wr.heap.size ≤ w1.heap.size := hb.size
          have hnth : ∀ j (hj : j < xs.length), ∃ bb oo, q = some ⟨bb, oo, none⟩ ∧ bb < wr.heap.size ∧ wr.cell? ⟨bb, oo + j, none⟩ = some (.int .i64 xs[j]) := fun j hj => by
            rcases hR with hR | ⟨_, _, _, hx0⟩
            · exact hR.nth j hj
            · subst hx0; simp at hj
          obtain ⟨b2, hb2⟩ : ∃ b2, w1.heap.size = b2 := ⟨_, rfl⟩
          generalize w1.alloc (.cells #[.bool mm.aw, .bool mm.ori, .bool mm.ins, .bool mm.vis, .bool mm.app, .bool mm.pas, .bool mm.sgr, .int .i64 mm.ptr, .int .i64 mm.alt] 23) = W2 at *
          rw [hb2] at hx2 hne hle hbm hsz ⊢
          clear hb2 hcm1 hlm1 hm1 hcm hlm
          have g1 : W2.cell? ⟨b, off + k * 3, none⟩ = some (.int .i32 p) := by rw [hbr2.cell (p := ⟨b, _, none⟩) y1]; exact e1
          have g2 : W2.cell? ⟨b, off + k * 3 + 1, none⟩ = some (.slice q xs.length c) := by rw [hbr2.cell (p := ⟨b, _, none⟩) y1]; exact e2
          have g3 : W2.cell? ⟨b, off + k * 3 + 2, none⟩ = some (.bool on) := by rw [hbr2.cell (p := ⟨b, _, none⟩) y1]; exact e3
          have y2 : b < W2.heap.size := Nat.lt_of_lt_of_le y1 hbr2.size
          have HN := Lib.hid hnth
          clear e1 e2 e3 hnth hb hbel1
          obtain ⟨wo, hwo⟩ : ∃ wo : World, wo = wr := ⟨_, rfl⟩
          rw [← hwo] at *
          clear hwo
          go_loopw [7] (fun i wr => ∃ (j : Nat), j ≤ xs.length ∧ i = .int .i64 j ∧ Box wr b2 #[.bool (applyM mm p (xs.take j) on).aw, .bool (applyM mm p (xs.take j) on).ori, .bool (applyM mm p (xs.take j) on).ins, .bool (applyM mm p (xs.take j) on).vis, .bool (applyM mm p (xs.take j) on).app, .bool (applyM mm p (xs.take j) on).pas, .bool (applyM mm p (xs.take j) on).sgr, .int .i64 (applyM mm p (xs.take j) on).ptr, .int .i64 (applyM mm p (xs.take j) on).alt] 23 ∧ Bar b2 W2 wr) (fun i _ => xs.length - (intOf i).toNat)
          case atStart => exact ⟨0, Nat.zero_le _, rfl, hx2, Bar.refl _ _⟩
          case round =>
            obtain ⟨j, hj, rfl, hxr, hbar⟩ := hrel
            have hbl := Bar.to_below hl2 hbar hle
            have hGi := h.below hbl
            have i1 : wr.cell? ⟨b, off + k * 3, none⟩ = some (.int .i32 p) := by rw [← g1]; exact World.cell?_of_block (hbar.block b (by omega) y2)
            have i2 : wr.cell? ⟨b, off + k * 3 + 1, none⟩ = some (.slice q xs.length c) := by rw [← g2]; exact World.cell?_of_block (hbar.block b (by omega) y2)
            have i3 : wr.cell? ⟨b, off + k * 3 + 2, none⟩ = some (.bool on) := by rw [← g3]; exact World.cell?_of_block (hbar.block b (by omega) y2)
            have y3 : b < wr.heap.size := Nat.lt_of_lt_of_le y2 hbar.size
            have hmr2 : Box wr w.heap.size _ _ := hbar.box hne hm2
            have u1 := hxr.cell
            have u2 := hxr.lt
            have u3 := hmr2.cell
            have u4 := hmr2.lt
            have u5 := hxr.free
            have u6 := hmr2.free
            by_cases hlj : j < xs.length
            · obtain ⟨bb, oo, rfl, hbb, hd⟩ := HN.out j hlj
              have d5 : wr.cell? ⟨bb, oo + j, none⟩ = some (.int .i64 xs[j]) := by
                rw [← hd, World.cell?_of_block (hbar.block bb (by omega) (Nat.lt_of_lt_of_le hbb hbr2.size))]
                exact hbr2.cell (p := ⟨bb, _, none⟩) hbb
              have y4 : bb < wr.heap.size := Nat.lt_of_lt_of_le (Nat.lt_of_lt_of_le hbb hbr2.size) hbar.size
              have HA := Lib.hid (applyM_succ mm p xs on j hlj)
              clear hd
              generalize xs[j] = n at *
              have s1 : (0 : Int) ≤ (j : Int) := by omega
              have s2 : (j : Int) < (xs.length : Int) := by omega
              have cI := fun W => is_any p n W
              cases hmm : isM p n
              · rw [hmm] at cI
                have e : applyM mm p (xs.take (j + 1)) on = applyM mm p (xs.take j) on := by rw [HA.out]; unfold stepM; rw [hmm]; rfl
                have HE := Lib.hid e
                clear e
                go_wp2_with fail
                first | refine wp_grow2 (by kernel_rfl) (by kernel_rfl) ?_ | refine wp_grow (by kernel_rfl) (by kernel_rfl) ?_
                repeat (go_big_quiet_step (first | (go_at_call 15; exact GW.call (cI _))))
                refine wpQuiet_nil ?_
                rintro _ ⟨X, rfl⟩
                go_wp2_with fail
                go_roundw
                case rel => exact ⟨j + 1, by omega, by go_num, by rw [HE.out]; exact hxr.gw, hbar.below X.grow⟩
                case measure => simp [intOf]; omega
              · rw [hmm] at cI
                have e : applyM mm p (xs.take (j + 1)) on = setM (applyM mm p (xs.take j) on) n on := by rw [HA.out]; unfold stepM; rw [hmm]; rfl
                have HE := Lib.hid e
                clear e
                generalize applyM mm p (xs.take j) on = ma at *
                have cS := fun W => rset_any ma n on W
                obtain ⟨mb, hmb⟩ : ∃ mb, setM ma n on = mb := ⟨_, rfl⟩
                rw [hmb] at cS HE
                clear hmb
                go_wp2_with fail
                first | refine wp_grow2 (by kernel_rfl) (by kernel_rfl) ?_ | refine wp_grow (by kernel_rfl) (by kernel_rfl) ?_
                repeat (go_big_quiet_step (first | (go_at_call 15; exact GW.call (cI _))))
                refine wpQuiet_nil ?_
                rintro _ ⟨X, rfl⟩
                go_wp2_with fail
                have hx3 : Box X.world b2 _ _ := hxr.gw
                have hb3 : Bar b2 W2 X.world := hbar.below X.grow
                have v1 := hx3.cell
                have v2 := hx3.lt
                first | refine wp_grow_tail2 15 (by kernel_rfl) (by kernel_rfl) ?_ | refine wp_grow_tail 15 (by kernel_rfl) (by kernel_rfl) ?_
                simp only [List.take_succ_cons, List.take_zero, List.drop_succ_cons, List.drop_zero]
                repeat (go_big_quiet_step (first | (go_at_call 17; exact GW.call (cS _))))
                refine wpQuiet_nil ?_
                rintro _ ⟨X, rfl⟩
                go_wp2_with fail
                go_roundw
                case rel => exact ⟨j + 1, by omega, by go_num, by rw [HE.out]; with_reducible exact box_nine _ _ _ _ _ _ _ _ _ _ _ _ _ _ _ _ _ _ _ _ _ (Box.gw hxr), by with_reducible exact bar_nine _ _ _ _ _ _ _ _ _ _ _ _ (hbar.below X.grow)⟩
                case measure => simp [intOf]; omega
            · have e : xs.take j = xs := List.take_of_length_le (by omega)
              rw [e] at hxr u1
              clear e
              obtain ⟨mz, hmz⟩ : ∃ mz, applyM mm p xs on = mz := ⟨_, rfl⟩
              rw [hmz] at hxr u1 t1
              clear hmz
              have hRi : Rdx wr (.slice q xs.length c) xs := by
                rcases hR with hR | hR
                · exact .inl ((hR.below hbr2).bar (Rd.apart_of hR hsz) hbar)
                · exact .inr hR
              have cA : ∀ W, Glob W → Rdx W (.slice q xs.length c) xs → Calls Tryd.prog 18 #[.agg #[.bool mm.aw, .bool mm.ori, .bool mm.ins, .bool mm.vis, .bool mm.app, .bool mm.pas, .bool mm.sgr, .int .i64 mm.ptr, .int .i64 mm.alt], .int .i32 p, .slice q xs.length c, .bool on, .agg #[.bool mz.aw, .bool mz.ori, .bool mz.ins, .bool mz.vis, .bool mz.app, .bool mz.pas, .bool mz.sgr, .int .i64 mz.ptr, .int .i64 mz.alt], .int .i64 0] W fun e w' => e = .returned (.bool true) ∧ Below W.heap.size W w' := fun W hg hx => applies_x mm p _ xs on mz 0 W hg hx (by omega) t1 t2
              go_wp2_with fail
              first | refine wp_grow2 (by kernel_rfl) (by kernel_rfl) ?_ | refine wp_grow (by kernel_rfl) (by kernel_rfl) ?_
              repeat (go_big_quiet_step (first | (go_at_call 18; exact GW.call (cA _ (hGi.below (GW.grow _)).g (hRi.below (GW.grow _))))))
              refine wpQuiet_nil ?_
              rintro _ ⟨X, rfl⟩
              go_wp2_with fail
              go_roundw
              case rel => exact ⟨k + 1, mz, by omega, by go_num, by with_reducible exact box_nine _ _ _ _ _ _ _ _ _ _ _ _ _ _ _ _ _ _ _ _ _ (Box.gw hmr2), by with_reducible exact below_nine _ _ _ _ _ _ _ _ _ _ _ _ (bl_trans hbl X.grow) (Nat.le_refl _)⟩
              case measure => simp [intOf]; omega
    · go_wp2_with (first | (go_at_call 14; (with_reducible refine (known_any _ hGr).mono ?_); rintro e w1 ⟨rfl, hb⟩))
      go_ret
      exact ⟨rfl, bl_trans hbel hb⟩
theorem modesApplies_any (m : Md) (q : Option Addr) (len cap : Nat) (w : World) (h : Gl w) (hq : len = 0 ∨ ∃ (b off : Nat) (f : Nat → Cl), q = some ⟨b, off, none⟩ ∧ b < w.heap.size ∧ ∀ i, i < len → ClAt w b off i (f i)) : Calls Tryd.prog 4 #[.agg #[.bool m.aw, .bool m.ori, .bool m.ins, .bool m.vis, .bool m.app, .bool m.pas, .bool m.sgr, .int .i64 m.ptr, .int .i64 m.alt], .slice q len cap] w fun e w' => e = .returned (.bool true) ∧ Below w.heap.size w w' := by
  by_cases h20 : 20 < len
  · exact modesApplies_no m q len cap w h (.inl h20)
  · rcases hq with rfl | ⟨b, off, f, rfl, hb, hc⟩
    · exact modesApplies_no m q 0 cap w h (.inr rfl)
    · exact modesApplies_some m b off len cap f w h hb (by omega) hc

set_option maxRecDepth 100000 in
theorem modesApplies_lifted (os : Os) (started : os.Started) (H : Type) (enc : TypeId × Value → H) :
    ReturnsInHanded {} Tryd.checked os 4 .any (fun w args => (Rows.modesAppliesSpec.pre enc Tryd.prog Tryd.f4 [] false w args ∧ laidMetH Tryd.prog laid6 w) ∧ sizedMet enc Tryd.prog Tryd.f4 (OpenSpec.ofChange Rows.modesAppliesSpec) false w args)
      (Rows.modesAppliesSpec.post enc Tryd.prog Tryd.f4 false true false false) := by
  refine returnsInHanded_of_change_and (C := Tryd.checked) (X := fun w _ => laidMetH Tryd.prog laid6 w) (fun _ _ _ hh h => h.of_heap hh) Tryd.own started (by kernel_rfl) Tryd.func4
    (ChangeSpec.witness_shaped (enc := enc) (C := Tryd.checked) (os := os) (X := fun w _ => laidMetH Tryd.prog laid6 w) false (World.doorLaid Tryd.prog 400 os) #[.agg #[.bool false, .bool false, .bool false, .bool false, .bool false, .bool false, .bool false, .int .i64 0, .int .i64 0], .slice none 0 0] 8 rfl (World.shaped_of_RefB (by kernel_rfl) (by kernel_rfl)) (by kernel_rfl) (by kernel_rfl) (by kernel_rfl) (door_met os _)) ?_
  intro W base args ds gs before hval0 hW _ _ hL _
  have hval : ∀ (j : Nat) t v, Tryd.f4.params[j]? = some t → args[j]? = some v → Value.okWide Tryd.prog W .any base t v := hval0
  have hW' := hW
  obtain ⟨p, q, hA0, hV, rfl, hfz, hnd⟩ := hW
  have hA : DataW.TrodAll enc Tryd.prog W 0 (fun _ => true) true Tryd.f4.params.toList args.toList ds p := hA0
  rw [Tryd.params4] at hA hval
  obtain ⟨v0, v1, d0, d1, p0, p1, rfl, rfl, rfl, h0, h1⟩ := trodAll_two hA
  obtain ⟨rfl, rfl⟩ := trodVars_none hV
  obtain ⟨m, rfl⟩ := open_modes (hval 0 23 v0 rfl rfl) h0
  obtain ⟨len, q, cap, rfl, hq⟩ := open_calls (hval 1 34 v1 rfl rfl) h1
  clear hA0 hval0
  have hT := gl_of_laid hL
  refine (modesApplies_any m q len cap W hT hq).mono fun e W' ⟨he, hw⟩ => ?_
  exact ⟨_, he, post_law Tryd.laidOut rfl hW' (by kernel_rfl) rfl Tryd.underlying4 rfl hw⟩

theorem modesApplies_row : Rows.ModesAppliesSaid :=
  OpenClaim.holds_of_wide 4 Tryd.f4 rfl rfl rfl rfl rfl rfl rfl ⟨rfl, rfl, rfl, rfl, rfl⟩ rfl rfl rfl rfl rfl (by kernel_rfl) Tryd.func4 (by kernel_rfl)
    (of_decide_eq_true (by kernel_rfl)) (by unfold Func.isWrapper; first | (rw [if_pos (by decide +kernel)]; kernel_rfl) | (rw [if_neg (by decide +kernel)]; exact ⟨rfl, rfl⟩))
    (fun os started H enc _ => modesApplies_lifted os started H enc)

set_option maxHeartbeats 8000000 in
set_option maxRecDepth 100000 in
/-- THE TIED CARD. -/
theorem modesApplies_holds : Rows.ModesAppliesCardSaid :=
  Claim7.holds_tied_plain_at .later [] [.data, .data, .data, .widerDeep, .widerDeep, .data] true (true, "082af3f8aacec7cf6ea860407a8f5c1359f35139287309ad6771865f650f040d") false
    modesApplies_row (fun _ h => by cases h) (by kernel_rfl) (fun _ h => by cases h) modesApplies_row_tie rfl ⟨rfl, rfl⟩ (by kernel_rfl) rfl
    (fun f fn hf hfn => by
      obtain rfl : f = 4 := Option.some.inj ((show Tryd.prog.funcNamed "scrollback/scrollbacklaw22.ModesApplies" = some 4 by kernel_rfl).symm.trans hf) |>.symm
      obtain rfl : fn = Tryd.f4 := (Option.some.inj (Tryd.func4.symm.trans hfn)).symm
      exact ⟨by kernel_rfl, fun j t ht => by
        rw [Tryd.params4] at ht
        have hm : t ∈ [23, 34] := by simpa using Array.mem_of_getElem? ht
        have hall : ([23, 34].all fun u => !Tryd.prog.wantsStandIn u) = true := by kernel_rfl
        exact (show Tryd.prog.wantsStandIn t = false by simpa using List.all_eq_true.1 hall t hm)⟩)
    (by kernel_rfl)

end Go.Proofs.YtcmflmmidipckaaDoor
