/- parser: Stain (the reference changes the parameters of actions). parser: a parser looks like the reference's. Printed by mk_x.py. parser: the law's own actions, then, writes. Printed by mk_xc.py. parser: the examples of the chapter. Printed by mk_xd.py. parser: what lasts past a change of some blocks; the sizes of what is written. Printed by mk_pb.py. -/
import Derived.Test.YtpkkfcfkhiaggaaW
import Derived.HandedShaped
import Derived.Deep.CutBlock
import Derived.Deep.DeepCutAuto
import Derived.Outline
set_option linter.unusedSimpArgs false
set_option linter.unusedVariables false
set_option linter.unnecessarySimpa false
namespace Go.Proofs.Ytpkkfcfkhiaggaa
open Go.RowKit
open Go.Proofs.Ytpkkfcfkhiaggaa.Pm (fineR addB addO bldQ refL bldC BldV bldC_len)

/-- All is as it was but what lies in blocks of X. -/
structure OutX (X : Nat → Prop) (w w' : World) : Prop where
  os : w'.os = w.os
  tape : w'.tape = w.tape
  output : w'.output = w.output
  size : w.heap.size ≤ w'.heap.size
  block : ∀ k, ¬ X k → k < w.heap.size → w'.heap[k]? = w.heap[k]?
theorem OutX.refl (X : Nat → Prop) (w : World) : OutX X w w := ⟨rfl, rfl, rfl, Nat.le_refl _, fun _ _ _ => rfl⟩
theorem OutX.bar {X : Nat → Prop} {w w1 w2 : World} {D : Nat} (h : OutX X w w1) (hb : Bar D w1 w2) (hD : X D) : OutX X w w2 :=
  ⟨hb.os.trans h.os, hb.tape.trans h.tape, hb.output.trans h.output, Nat.le_trans h.size hb.size, fun k hk hl => (hb.block k (fun e => hk (e ▸ hD)) (Nat.lt_of_lt_of_le hl h.size)).trans (h.block k hk hl)⟩
theorem OutX.cell {X : Nat → Prop} {w w' : World} (h : OutX X w w') {b : Nat} (o : Nat) (hb : b < w.heap.size) (hX : ¬ X b) : w'.cell? ⟨b, o, none⟩ = w.cell? ⟨b, o, none⟩ := by
  unfold World.cell?
  rw [h.block b hX hb]
theorem OutX.below {X : Nat → Prop} {w w' : World} (h : OutX X w w') (hX : ∀ g, X g → w.heap.size ≤ g) : Below w.heap.size w w' :=
  ⟨h.os, h.tape, h.output, h.size, fun k hk => h.block k (fun x => by have := hX k x; omega) hk⟩
/-- The parameters of actions can be read and changed. -/
def SI (w : World) (xs : List AV) : Prop := ∀ x ∈ xs, ∀ j, j < x.1.l.length → ∃ g cap, x.2 = .slice (some ⟨g, 0, none⟩) x.1.l.length cap ∧ x.1.l.length ≤ cap ∧ cap ≤ maxLen ∧ g < w.heap.size ∧ w.frozen? ⟨g, j, none⟩ = false ∧ ∃ y, w.cell? ⟨g, j, none⟩ = some (.int .i64 y)
theorem SI.of {w : World} {B : Nat} {v : Value} {xs : List AV} (h : OwnX w B v xs) : SI w xs := by
  intro x hx j hj
  have ho := (h.par x hx).1
  rcases ho.shape with ⟨_, e⟩ | ⟨g, cap, e, h1, h2⟩
  · rw [e] at hj; exact absurd hj (by simp)
  · have hc := ho.cellAt (show x.2.ownBlock = some g by rw [e]; rfl) j hj
    exact ⟨g, cap, e, h1, h2, hc.2.2, hc.2.1, _, hc.1⟩
theorem SI.store {w : World} {xs : List AV} (h : SI w xs) (g j : Nat) (z : Int) : SI (w.setCell ⟨g, j, none⟩ (.int .i64 z)) xs := by
  intro x hx i hi
  obtain ⟨g', cap, e, h1, h2, h3, h4, h5⟩ := h x hx i hi
  exact ⟨g', cap, e, h1, h2, by simpa using h3, by simpa using h4, someInt_setCell h5 _ _⟩
set_option maxHeartbeats 4000000 in
set_option maxRecDepth 100000 in
theorem stain_any (v : Value) (xs : List AV) (B : Nat) (w : World) (ho : OwnX w B v xs) (hsz : xs.length ≤ 100000000) : Calls Try.prog 13 #[v] w fun e w' => e = .returned (.tuple #[]) ∧ OutX (PB xs) w w' := by
  have hsi := SI.of ho
  have hoff := ho.off
  have hpl : ∀ x ∈ xs, ∃ q c, x.2 = .slice q x.1.l.length c ∧ x.1.l.length ≤ maxLen := fun x hx => by
    obtain ⟨q, c, e, h1, h2, _⟩ := (ho.par x hx).1.rd
    exact ⟨q, c, e, Nat.le_trans h1 h2⟩
  obtain ⟨p1, c1, rfl, l1, m1, d1⟩ := ho.rdx
  unfold maxLen at m1 hpl
  clear ho
  go_enter Try.func13, Try.ntmps13
  go_wp2_with fail
  go_loopw [2] (fun i wr => ∃ k : Nat, k ≤ xs.length ∧ i = .int .i64 k ∧ OutX (PB xs) w wr ∧ SI wr xs) (fun i _ => xs.length - (intOf i).toNat)
  case atStart => exact ⟨0, by omega, rfl, OutX.refl _ _, hsi⟩
  case round =>
    obtain ⟨k, hk, rfl, hout, hs⟩ := hrel
    by_cases hlt : k < xs.length
    · obtain ⟨b1, o1, rfl, q1, e1⟩ := RdX.at d1 l1 hlt
      have hnb : ¬ PB xs b1 := fun h => hoff b1 h rfl
      have hxm : xs[k] ∈ xs := List.getElem_mem _
      obtain ⟨qx, cx, hx2, hxl⟩ := hpl _ hxm
      have e4 := e1.cells.2.2.2.2.1
      generalize hxk : xs[k] = x at *
      obtain ⟨a, u⟩ := x
      simp only at hx2 e4
      subst hx2
      have z1 : (0 : Int) ≤ (k : Int) := by omega
      have z2 : (k : Int) < (xs.length : Int) := by omega
      have HSI : ∀ j, j < a.l.length → ∃ g, qx = some ⟨g, 0, none⟩ ∧ PB xs g := fun j hj => by
        obtain ⟨g, cap, e, _⟩ := hsi _ hxm j hj
        injection e with e
        exact ⟨g, e, (a, _), hxm, by rw [e]; rfl⟩
      clear d1 e1 hpl hxk
      go_wp2_with fail
      rename World => wo
      go_loopw [3] (fun j wr => ∃ m : Nat, m ≤ a.l.length ∧ j = .int .i64 m ∧ OutX (PB xs) w wr ∧ SI wr xs) (fun j _ => a.l.length - (intOf j).toNat)
      case atStart => exact ⟨0, by omega, rfl, hout, hs⟩
      case round =>
        obtain ⟨m, hm, rfl, hout1, hs1⟩ := hrel
        have f4 := (hout1.cell (o1 + k * 6 + 4) q1 hnb).trans e4
        have q2 := Nat.lt_of_lt_of_le q1 hout1.size
        by_cases hlm : m < a.l.length
        · obtain ⟨g, rfl, hpb⟩ := HSI m hlm
          obtain ⟨g', cap, e, h1, h2, h3, h4, y, h5⟩ := hs1 _ hxm m hlm
          injection e with e _ _
          injection e with e
          injection e with e _ _
          subst e
          have y1 : (0 : Int) ≤ (m : Int) := by omega
          have y2 : (m : Int) < (a.l.length : Int) := by omega
          go_wp2_with fail
          go_roundw
          case rel => exact ⟨m + 1, by omega, by go_num, hout1.bar ((Bar.refl _ _).set _ _) hpb, hs1.store _ _ _⟩
          case measure => simp [intOf]; omega
        · go_wp2_with fail
          go_roundw
          case rel => exact ⟨k + 1, by omega, by go_num, hout1, hs1⟩
          case measure => simp [intOf]; omega
    · go_wp2_with fail
      go_end0
      exact ⟨rfl, hout⟩

end Go.Proofs.Ytpkkfcfkhiaggaa
namespace Go.Proofs.Ytpkkfcfkhiaggaa
open Go.RowKit
open Go.Proofs.Ytpkkfcfkhiaggaa.Pm (fineR addB addO bldQ refL bldC BldV bldC_len)

set_option maxHeartbeats 4000000 in
set_option maxRecDepth 100000 in
theorem looks_zero (D : Nat) (n : Nat) (sq tx : ByteArray) (q : Option Addr) (c : Nat) (nm : Int) (w : World) (c1 : ∀ W, Below (w.alloc (.cells #[.string ⟨#[]⟩, .string sq, .slice q n c] 35)).heap.size (w.alloc (.cells #[.string ⟨#[]⟩, .string sq, .slice q n c] 35)) W → Calls Try.prog 15 #[.pointer (some ⟨D, 0, none⟩)] W fun e w' => e = .returned (.int .i64 nm) ∧ Below W.heap.size W w') (c2 : ∀ W, Below (w.alloc (.cells #[.string ⟨#[]⟩, .string sq, .slice q n c] 35)).heap.size (w.alloc (.cells #[.string ⟨#[]⟩, .string sq, .slice q n c] 35)) W → Calls Try.prog 33 #[.agg #[.string ⟨#[]⟩, .string sq, .slice q n c]] W fun e w' => e = .returned (.int .i64 nm) ∧ Below W.heap.size W w') (c3 : ∀ W, Below (w.alloc (.cells #[.string ⟨#[]⟩, .string sq, .slice q n c] 35)).heap.size (w.alloc (.cells #[.string ⟨#[]⟩, .string sq, .slice q n c] 35)) W → Calls Try.prog 16 #[.pointer (some ⟨D, 0, none⟩)] W fun e w' => e = .returned (.string tx) ∧ Below W.heap.size W w') (c4 : ∀ W, Below (w.alloc (.cells #[.string ⟨#[]⟩, .string sq, .slice q n c] 35)).heap.size (w.alloc (.cells #[.string ⟨#[]⟩, .string sq, .slice q n c] 35)) W → Calls Try.prog 34 #[.agg #[.string ⟨#[]⟩, .string sq, .slice q n c]] W fun e w' => e = .returned (.string tx) ∧ Below W.heap.size W w') (c5 : ∀ W, Below (w.alloc (.cells #[.string ⟨#[]⟩, .string sq, .slice q n c] 35)).heap.size (w.alloc (.cells #[.string ⟨#[]⟩, .string sq, .slice q n c] 35)) W → Calls Try.prog 17 #[.pointer (some ⟨D, 0, none⟩)] W fun e w' => e = .returned (.bool (decide (n = 0))) ∧ Below W.heap.size W w') : Calls Try.prog 14 #[.pointer (some ⟨D, 0, none⟩), .agg #[.string ⟨#[]⟩, .string sq, .slice q n c]] w fun e w' => e = .returned (.bool true) ∧ Below w.heap.size w w' := by
  go_enter Try.func14, Try.ntmps14
  go_wp2_with fail
  first | refine wp_grow2 (by kernel_rfl) (by kernel_rfl) ?_ | refine wp_grow (by kernel_rfl) (by kernel_rfl) ?_
  repeat (go_big_quiet_step (first | (go_at_call 15; with_reducible exact GW.call (c1 _ (GW.grow _))) | (go_at_call 33; with_reducible exact GW.call (c2 _ (GW.grow _))) | (go_at_call 16; with_reducible exact GW.call (c3 _ (GW.grow _))) | (go_at_call 34; with_reducible exact GW.call (c4 _ (GW.grow _))) | (go_at_call 17; with_reducible exact GW.call (c5 _ (GW.grow _)))))
  refine wpQuiet_nil ?_
  rintro _ ⟨X, rfl⟩
  go_wp2_with fail
  go_ret
  exact ⟨ret_bool (by rw [beq_iff_eq, Bool.eq_iff_iff, beq_iff_eq, decide_eq_true_eq]; omega), (by repeat (first | with_reducible exact Below.refl _ _ | with_reducible assumption | with_reducible exact GW.grow _ | with_reducible refine bl_alloc ?_ _ | with_reducible refine Below.drew ?_ | (with_reducible refine Below.setCell ?_ ?_ _; rotate_left; focus (simp; first | done | omega)) | with_reducible refine bl_trans ?_ (GW.grow _) | (with_reducible refine bl_trans ?_ (by assumption))))⟩
set_option maxHeartbeats 4000000 in
set_option maxRecDepth 100000 in
theorem looks_open (D : Nat) (n : Nat) (o : ByteArray) (ho : (o.toList == []) = false) (sq tx : ByteArray) (q : Option Addr) (c : Nat) (nm : Int) (w : World) (c1 : ∀ W, Below (w.alloc (.cells #[.string o, .string sq, .slice q n c] 35)).heap.size (w.alloc (.cells #[.string o, .string sq, .slice q n c] 35)) W → Calls Try.prog 15 #[.pointer (some ⟨D, 0, none⟩)] W fun e w' => e = .returned (.int .i64 nm) ∧ Below W.heap.size W w') (c2 : ∀ W, Below (w.alloc (.cells #[.string o, .string sq, .slice q n c] 35)).heap.size (w.alloc (.cells #[.string o, .string sq, .slice q n c] 35)) W → Calls Try.prog 33 #[.agg #[.string o, .string sq, .slice q n c]] W fun e w' => e = .returned (.int .i64 nm) ∧ Below W.heap.size W w') (c3 : ∀ W, Below (w.alloc (.cells #[.string o, .string sq, .slice q n c] 35)).heap.size (w.alloc (.cells #[.string o, .string sq, .slice q n c] 35)) W → Calls Try.prog 16 #[.pointer (some ⟨D, 0, none⟩)] W fun e w' => e = .returned (.string tx) ∧ Below W.heap.size W w') (c4 : ∀ W, Below (w.alloc (.cells #[.string o, .string sq, .slice q n c] 35)).heap.size (w.alloc (.cells #[.string o, .string sq, .slice q n c] 35)) W → Calls Try.prog 34 #[.agg #[.string o, .string sq, .slice q n c]] W fun e w' => e = .returned (.string tx) ∧ Below W.heap.size W w') (c5 : ∀ W, Below (w.alloc (.cells #[.string o, .string sq, .slice q n c] 35)).heap.size (w.alloc (.cells #[.string o, .string sq, .slice q n c] 35)) W → Calls Try.prog 17 #[.pointer (some ⟨D, 0, none⟩)] W fun e w' => e = .returned (.bool false) ∧ Below W.heap.size W w') : Calls Try.prog 14 #[.pointer (some ⟨D, 0, none⟩), .agg #[.string o, .string sq, .slice q n c]] w fun e w' => e = .returned (.bool true) ∧ Below w.heap.size w w' := by
  go_enter Try.func14, Try.ntmps14
  go_wp2_with fail
  first | refine wp_grow2 (by kernel_rfl) (by kernel_rfl) ?_ | refine wp_grow (by kernel_rfl) (by kernel_rfl) ?_
  repeat (go_big_quiet_step (first | (go_at_call 15; with_reducible exact GW.call (c1 _ (GW.grow _))) | (go_at_call 33; with_reducible exact GW.call (c2 _ (GW.grow _))) | (go_at_call 16; with_reducible exact GW.call (c3 _ (GW.grow _))) | (go_at_call 34; with_reducible exact GW.call (c4 _ (GW.grow _))) | (go_at_call 17; with_reducible exact GW.call (c5 _ (GW.grow _)))))
  refine wpQuiet_nil ?_
  rintro _ ⟨X, rfl⟩
  go_wp2_with fail
  go_ret
  exact ⟨rfl, (by repeat (first | with_reducible exact Below.refl _ _ | with_reducible assumption | with_reducible exact GW.grow _ | with_reducible refine bl_alloc ?_ _ | with_reducible refine Below.drew ?_ | (with_reducible refine Below.setCell ?_ ?_ _; rotate_left; focus (simp; first | done | omega)) | with_reducible refine bl_trans ?_ (GW.grow _) | (with_reducible refine bl_trans ?_ (by assumption))))⟩
theorem opS_open (k : Nat) (h : k ≤ 4) (h0 : k ≠ 0) : ((opS k).toList == []) = false := by
  obtain rfl | rfl | rfl | rfl : k = 1 ∨ k = 2 ∨ k = 3 ∨ k = 4 := by omega
  all_goals decide +kernel
theorem looks_any (D : Nat) (X : Nat → Prop) (p : Ps) (s : Rs) (q : Option Addr) (c m : Nat) (w : World) (hpv : PV w D X p) (hs : Sim p s) (hok : ROk m s) (hm : m ≤ 100000) : Calls Try.prog 14 #[.pointer (some ⟨D, 0, none⟩), .agg #[.string (opS s.op), .string (strOfNums s.sq), .slice q s.d.length c]] w fun e w' => e = .returned (.bool true) ∧ Below w.heap.size w w' := by
  have hn := hs.name
  have ht := hs.text
  have hd := hs.1
  have hg := hs.ground
  have hle := hok.le
  have hp : ∀ W, Below (w.alloc (.cells #[.string (opS s.op), .string (strOfNums s.sq), .slice q s.d.length c] 35)).heap.size (w.alloc (.cells #[.string (opS s.op), .string (strOfNums s.sq), .slice q s.d.length c] 35)) W → PV W D X p := fun W hW => hpv.past (bl_trans (bl_alloc (Below.refl _ _) _) hW)
  by_cases h0 : s.op = 0
  · have e0 : opS s.op = ⟨#[]⟩ := by rw [h0]; rfl
    rw [e0] at hp
    have hN := fun W => rname_any s q s.d.length c W hok.op hok.bt (by omega)
    have hT := fun W => rtext_any s q s.d.length c W hok.op
    rw [e0] at hN hT
    rw [e0]
    refine looks_zero D s.d.length (strOfNums s.sq) (strOfNums (textR s)) q c (nameR s) w (fun W hW => (state_any D X p W (hp W hW)).mono ?_) (fun W _ => hN W) (fun W hW => (text_any2 D X p W (hp W hW)).mono ?_) (fun W _ => hT W) (fun W hW => (ground_is D X p W (hp W hW)).mono ?_)
    · rintro e w' ⟨rfl, rfl⟩; exact ⟨by rw [hn], Below.refl _ _⟩
    · rintro e w' ⟨rfl, rfl⟩; exact ⟨by rw [ht], Below.refl _ _⟩
    · rintro e w' ⟨rfl, hb⟩
      refine ⟨ret_bool ?_, hb⟩
      rw [hd, Bool.eq_iff_iff, decide_eq_true_eq, decide_eq_true_eq, List.length_eq_zero_iff]
      exact ⟨fun h => h.2, fun h => ⟨hg.2 h0, h⟩⟩
  · refine looks_open D s.d.length (opS s.op) (opS_open _ hok.op h0) (strOfNums s.sq) (strOfNums (textR s)) q c (nameR s) w (fun W hW => (state_any D X p W (hp W hW)).mono ?_) (fun W _ => rname_any s q s.d.length c W hok.op hok.bt (by omega)) (fun W hW => (text_any2 D X p W (hp W hW)).mono ?_) (fun W _ => rtext_any s q s.d.length c W hok.op) (fun W hW => (ground_is D X p W (hp W hW)).mono ?_)
    · rintro e w' ⟨rfl, rfl⟩; exact ⟨by rw [hn], Below.refl _ _⟩
    · rintro e w' ⟨rfl, rfl⟩; exact ⟨by rw [ht], Below.refl _ _⟩
    · rintro e w' ⟨rfl, hb⟩
      refine ⟨ret_bool ?_, hb⟩
      rw [decide_eq_false_iff_not]
      exact fun h => h0 (hg.1 h.1)

end Go.Proofs.Ytpkkfcfkhiaggaa
namespace Go.Proofs.Ytpkkfcfkhiaggaa
open Go.RowKit
open Go.Proofs.Ytpkkfcfkhiaggaa.Pm (fineR addB addO bldQ refL bldC BldV bldC_len)

set_option maxHeartbeats 1000000 in
theorem printed_any (r : Int) (w : World) : Calls Try.prog 24 #[.int .i32 r] w fun e w' => e = .returned (.agg #[.int .i64 1, .int .i32 r, .int .i32 0, .string ⟨#[]⟩, .slice none 0 0, .string ⟨#[]⟩]) ∧ Below w.heap.size w w' := by
  go_enter Try.func24, Try.ntmps24
  go_wp2_with fail
  refine ret_row (n := 6) rfl rfl Try.underlying52 rfl (by kernel_rfl) rfl ⟨_, by simp (maxDischargeDepth := 6) [go_sem] <;> rfl, rfl, ?_⟩
  exact ⟨rfl, (by repeat (first | with_reducible exact Below.refl _ _ | with_reducible assumption | with_reducible exact GW.grow _ | with_reducible refine bl_alloc ?_ _ | with_reducible refine Below.drew ?_ | (with_reducible refine Below.setCell ?_ ?_ _; rotate_left; focus (simp; first | done | omega)) | with_reducible refine bl_trans ?_ (GW.grow _) | (with_reducible refine bl_trans ?_ (by assumption))))⟩
set_option maxHeartbeats 1000000 in
theorem run_any (r : Int) (w : World) : Calls Try.prog 26 #[.int .i32 r] w fun e w' => e = .returned (.agg #[.int .i64 2, .int .i32 r, .int .i32 0, .string ⟨#[]⟩, .slice none 0 0, .string ⟨#[]⟩]) ∧ Below w.heap.size w w' := by
  go_enter Try.func26, Try.ntmps26
  go_wp2_with fail
  refine ret_row (n := 6) rfl rfl Try.underlying52 rfl (by kernel_rfl) rfl ⟨_, by simp (maxDischargeDepth := 6) [go_sem] <;> rfl, rfl, ?_⟩
  exact ⟨rfl, (by repeat (first | with_reducible exact Below.refl _ _ | with_reducible assumption | with_reducible exact GW.grow _ | with_reducible refine bl_alloc ?_ _ | with_reducible refine Below.drew ?_ | (with_reducible refine Below.setCell ?_ ?_ _; rotate_left; focus (simp; first | done | omega)) | with_reducible refine bl_trans ?_ (GW.grow _) | (with_reducible refine bl_trans ?_ (by assumption))))⟩
set_option maxHeartbeats 1000000 in
theorem control_any2 (p : Int) (i : ByteArray) (r : Int) (q : Option Addr) (n c : Nat) (w : World) : Calls Try.prog 25 #[.int .i32 p, .string i, .int .i32 r, .slice q n c] w fun e w' => e = .returned (.agg #[.int .i64 4, .int .i32 r, .int .i32 p, .string i, .slice q n c, .string ⟨#[]⟩]) ∧ Below w.heap.size w w' := by
  go_enter Try.func25, Try.ntmps25
  go_wp2_with fail
  refine ret_row (n := 6) rfl rfl Try.underlying52 rfl (by kernel_rfl) rfl ⟨_, by simp (maxDischargeDepth := 6) [go_sem] <;> rfl, rfl, ?_⟩
  exact ⟨rfl, (by repeat (first | with_reducible exact Below.refl _ _ | with_reducible assumption | with_reducible exact GW.grow _ | with_reducible refine bl_alloc ?_ _ | with_reducible refine Below.drew ?_ | (with_reducible refine Below.setCell ?_ ?_ _; rotate_left; focus (simp; first | done | omega)) | with_reducible refine bl_trans ?_ (GW.grow _) | (with_reducible refine bl_trans ?_ (by assumption))))⟩
set_option maxHeartbeats 1000000 in
theorem escape_any (i : ByteArray) (r : Int) (w : World) : Calls Try.prog 27 #[.string i, .int .i32 r] w fun e w' => e = .returned (.agg #[.int .i64 3, .int .i32 r, .int .i32 0, .string i, .slice none 0 0, .string ⟨#[]⟩]) ∧ Below w.heap.size w w' := by
  go_enter Try.func27, Try.ntmps27
  go_wp2_with fail
  refine ret_row (n := 6) rfl rfl Try.underlying52 rfl (by kernel_rfl) rfl ⟨_, by simp (maxDischargeDepth := 6) [go_sem] <;> rfl, rfl, ?_⟩
  exact ⟨rfl, (by repeat (first | with_reducible exact Below.refl _ _ | with_reducible assumption | with_reducible exact GW.grow _ | with_reducible refine bl_alloc ?_ _ | with_reducible refine Below.drew ?_ | (with_reducible refine Below.setCell ?_ ?_ _; rotate_left; focus (simp; first | done | omega)) | with_reducible refine bl_trans ?_ (GW.grow _) | (with_reducible refine bl_trans ?_ (by assumption))))⟩
set_option maxHeartbeats 1000000 in
theorem text_any3 (i : ByteArray) (w : World) : Calls Try.prog 28 #[.string i] w fun e w' => e = .returned (.agg #[.int .i64 5, .int .i32 0, .int .i32 0, .string ⟨#[]⟩, .slice none 0 0, .string i]) ∧ Below w.heap.size w w' := by
  go_enter Try.func28, Try.ntmps28
  go_wp2_with fail
  refine ret_row (n := 6) rfl rfl Try.underlying52 rfl (by kernel_rfl) rfl ⟨_, by simp (maxDischargeDepth := 6) [go_sem] <;> rfl, rfl, ?_⟩
  exact ⟨rfl, (by repeat (first | with_reducible exact Below.refl _ _ | with_reducible assumption | with_reducible exact GW.grow _ | with_reducible refine bl_alloc ?_ _ | with_reducible refine Below.drew ?_ | (with_reducible refine Below.setCell ?_ ?_ _; rotate_left; focus (simp; first | done | omega)) | with_reducible refine bl_trans ?_ (GW.grow _) | (with_reducible refine bl_trans ?_ (by assumption))))⟩
theorem xb_bar {w w' : World} {B D : Nat} {v : Value} {xs : List AV} (h : OwnX w B v xs) (hb : Bar D w w') (hoff : ∀ g, XB v xs g → g ≠ D) : OwnX w' B v xs :=
  h.keep hb.grown (fun g e => fun e2 => by injection e2 with e2; exact hoff g (.inr e) e2.symm) (fun g e => fun e2 => by injection e2 with e2; exact hoff g (.inl e) e2.symm)
theorem fresh_own {w w' : World} {k : IntKind} {v : Value} {xs : List Int} (h : Rd w' k v xs) (hf : Fresh w v) : ∀ g, v.ownBlock = some g → w.heap.size ≤ g := h.fresh hf
set_option maxHeartbeats 2000000 in
theorem then_any (D : Nat) (X : Nat → Prop) (p : Ps) (s : ByteArray) (v : Value) (xs : List AV) (B : Nat) (w : World) (hpv : PV w D X p) (hX : ∀ g, X g → g < w.heap.size) (ho : OwnX w B v xs) (hoff : ∀ g, XB v xs g → g ≠ D) (hal : xs.map Prod.fst = (psWrite p (bytesOf s)).2) (hlen : s.size ≤ 10000) : Calls Try.prog 29 #[.pointer (some ⟨D, 0, none⟩), .string s, v] w fun e w' => e = .returned (.bool true) ∧ Bar D w w' ∧ PV w' D X (psWrite p (bytesOf s)).1 := by
  have hsz0 : s.size ≤ maxLen := by unfold maxLen; omega
  have hD := hpv.lt
  have cW : ∀ w1 vb, Below w.heap.size w w1 → Rd w1 .u8 vb (bytesOf s) → Fresh w vb → Calls Try.prog 11 #[.pointer (some ⟨D, 0, none⟩), vb] w1 (Stepd D X w1 (psWrite p (bytesOf s))) := fun w1 vb hb hr hf => pwrite_any D X p vb (bytesOf s) w1 (hpv.past hb) (fun g h => Nat.lt_of_lt_of_le (hX g h) hb.size) hr (fun e => by have := hr.fresh hf D e; omega) (bytesOf_byte s) (by rw [bytesOf_len]; omega)
  obtain ⟨q, n, hv⟩ : ∃ q n, v = .slice q xs.length n := by obtain ⟨q, n, h, _⟩ := ho.rdx; exact ⟨q, n, h⟩
  subst hv
  generalize psWrite p (bytesOf s) = Q at *
  go_enter Try.func29, Try.ntmps29
  go_wp2_with (first | (refine wpList_bytes rfl _ 9 22 5 rfl Try.underlying9 Try.underlying22 Try.underlying5 _ rfl hsz0 ?_; intro vb w1 hrd hfr hb1) | (go_at_call 11; (with_reducible refine (cW w1 vb hb1 hrd hfr).mono ?_); rintro e w2 ⟨v2, xs2, rfl, m1, m2, m3, m4⟩; have ho2 := xb_bar (ho.kept hb1) m3 hoff) | (go_at_call 12; (with_reducible refine (rsame_any _ _ Q.2 w2 (m1 ▸ m2.rd) (hal ▸ ho2.rd)).mono ?_); rintro e w3 ⟨rfl, hb3⟩))
  go_ret
  exact ⟨rfl, ((bar_of hb1).trans m3).trans (bar_of hb3), (m4.mono (fun g h => .inl h)).past hb3⟩
set_option maxHeartbeats 2000000 in
theorem writes_any (s : ByteArray) (v : Value) (xs : List AV) (B : Nat) (w : World) (ho : OwnX w B v xs) (hal : xs.map Prod.fst = (psWrite ps0 (bytesOf s)).2) (hlen : s.size ≤ 10000) : Calls Try.prog 23 #[.string s, v] w fun e w' => e = .returned (.bool true) ∧ Below w.heap.size w w' := by
  have hp := fun h => PV.zero (w := w.alloc (.cells #[.slice none 0 0, .int .i64 0, .int .u8 0, .int .u8 0, .int .i64 0, .int .i32 0, .string ⟨#[]⟩, .int .i64 0, .int .i64 0, .int .i64 0, .int .i64 0, .int .i64 0, .int .i64 0, .int .i64 0, .int .i64 0, .int .i64 0, .int .i64 0, .int .i64 0, .int .i64 0, .int .i64 0, .int .i64 0, .int .i64 0, .int .i64 0, .int .i64 0, .bool false, .slice none 0 0] 31)) (D := w.heap.size) (fun _ => False) h
  have hp := hp (Box.new _ _ _ rfl)
  have hb0 : Below w.heap.size w (w.alloc (.cells #[.slice none 0 0, .int .i64 0, .int .u8 0, .int .u8 0, .int .i64 0, .int .i32 0, .string ⟨#[]⟩, .int .i64 0, .int .i64 0, .int .i64 0, .int .i64 0, .int .i64 0, .int .i64 0, .int .i64 0, .int .i64 0, .int .i64 0, .int .i64 0, .int .i64 0, .int .i64 0, .int .i64 0, .int .i64 0, .int .i64 0, .int .i64 0, .int .i64 0, .bool false, .slice none 0 0] 31)) := bl_alloc (Below.refl _ _) _
  have cT := then_any w.heap.size (fun _ => False) ps0 s v xs B _ hp (fun _ h => h.elim) (ho.kept hb0) (fun g h => by rcases h with h | h; (have := (ho.plt g h).2; omega); (have := (ho.lt g h).2; omega)) hal hlen
  obtain ⟨q, n, hv⟩ : ∃ q n, v = .slice q xs.length n := by obtain ⟨q, n, h, _⟩ := ho.rdx; exact ⟨q, n, h⟩
  subst hv
  clear hp
  go_enter Try.func23, Try.ntmps23
  go_wp2_with (first | (go_at_call 29; (with_reducible refine cT.mono ?_); rintro e w2 ⟨rfl, m3, m4⟩))
  go_ret
  exact ⟨rfl, Bar.to_below hb0 m3 (Nat.le_refl _)⟩

end Go.Proofs.Ytpkkfcfkhiaggaa
namespace Go.Proofs.Ytpkkfcfkhiaggaa
open Go.RowKit
open Go.Proofs.Ytpkkfcfkhiaggaa.Pm (fineR addB addO bldQ refL bldC BldV bldC_len)

def ParO (w : World) (B : Nat) (xs : List AV) : Prop := ∀ x ∈ xs, Own w B 3 .i64 x.2 x.1.l ∧ okA x.1
theorem ParO.nil (w : World) (B : Nat) : ParO w B [] := fun _ h => absurd h List.not_mem_nil
theorem ParO.cons {w : World} {B : Nat} {a : Ac} {v : Value} {xs : List AV} (h : Own w B 3 .i64 v a.l) (ha : okA a) (t : ParO w B xs) : ParO w B ((a, v) :: xs) := fun x hx => by
  rcases List.mem_cons.1 hx with rfl | hx
  · exact ⟨h, ha⟩
  · exact t x hx
theorem okA_lit {a : Ac} (h : (a.i.all (fun c => decide (0 ≤ c ∧ c < 256)) && a.t.all (fun c => decide (0 ≤ c ∧ c < 256))) = true) : okA a := by
  rw [Bool.and_eq_true, List.all_eq_true, List.all_eq_true] at h
  refine ⟨fun c hc => ?_, fun c hc => ?_⟩
  · have := of_decide_eq_true (h.1 c hc); exact ⟨by omega, by omega⟩
  · have := of_decide_eq_true (h.2 c hc); exact ⟨by omega, by omega⟩
/-- A literal of some actions. -/
theorem OwnX.lits (w : World) (B : Nat) (xs : List AV) (cs : Array Value) (n c : Nat) (hn : n = w.heap.size) (hB : B ≤ w.heap.size) (hc : c = xs.length) (hm : c ≤ 1000) (h : cs = (acL xs).toArray) (hp : ParO w B xs) : OwnX (w.alloc (.cells cs 52)) B (.slice (some ⟨n, 0, none⟩) c c) xs := by
  subst hn hc h
  have hl := acL_len xs
  refine ⟨⟨by rw [hl], .inr ⟨w.heap.size, xs.length, _, rfl, hB, heap_alloc_new w _, Nat.le_refl _, by unfold maxLen; omega, by simp [hl], by simp only [List.toList_toArray]; rw [List.take_of_length_le (by rw [hl]; omega)]⟩⟩, fun x hx => ?_, ?_⟩
  · exact ⟨(hp x hx).1.kept ((Below.refl _ _).alloc (Nat.le_refl _) _), (hp x hx).2⟩
  · rintro g ⟨x, hx, e⟩ e2
    have := ((hp x hx).1.block g e).2
    simp only [Value.ownBlock, Option.some.injEq] at e2
    omega
theorem kwA : [prA 97, coA 0 [1, 31] [] 109, exA 7, prA 98] = (psWrite ps0 (bytesOf ⟨#[97, 27, 91, 49, 59, 51, 49, 109, 7, 98]⟩)).2 := by kernel_rfl
theorem writes_A (w : World) (B : Nat) (p1 : Value) (hB : B ≤ w.heap.size) (hp1 : Own w B 3 .i64 p1 [1, 31]) : Calls Try.prog 23 #[.string ⟨#[97, 27, 91, 49, 59, 51, 49, 109, 7, 98]⟩, .slice (some ⟨w.heap.size, 0, none⟩) 4 4] (w.alloc (.cells #[.int .i64 1, .int .i32 97, .int .i32 0, .string ⟨#[]⟩, .slice none 0 0, .string ⟨#[]⟩, .int .i64 4, .int .i32 109, .int .i32 0, .string ⟨#[]⟩, p1, .string ⟨#[]⟩, .int .i64 2, .int .i32 7, .int .i32 0, .string ⟨#[]⟩, .slice none 0 0, .string ⟨#[]⟩, .int .i64 1, .int .i32 98, .int .i32 0, .string ⟨#[]⟩, .slice none 0 0, .string ⟨#[]⟩] 52)) fun e w' => e = .returned (.bool true) ∧ Below (w.alloc (.cells #[.int .i64 1, .int .i32 97, .int .i32 0, .string ⟨#[]⟩, .slice none 0 0, .string ⟨#[]⟩, .int .i64 4, .int .i32 109, .int .i32 0, .string ⟨#[]⟩, p1, .string ⟨#[]⟩, .int .i64 2, .int .i32 7, .int .i32 0, .string ⟨#[]⟩, .slice none 0 0, .string ⟨#[]⟩, .int .i64 1, .int .i32 98, .int .i32 0, .string ⟨#[]⟩, .slice none 0 0, .string ⟨#[]⟩] 52)).heap.size (w.alloc (.cells #[.int .i64 1, .int .i32 97, .int .i32 0, .string ⟨#[]⟩, .slice none 0 0, .string ⟨#[]⟩, .int .i64 4, .int .i32 109, .int .i32 0, .string ⟨#[]⟩, p1, .string ⟨#[]⟩, .int .i64 2, .int .i32 7, .int .i32 0, .string ⟨#[]⟩, .slice none 0 0, .string ⟨#[]⟩, .int .i64 1, .int .i32 98, .int .i32 0, .string ⟨#[]⟩, .slice none 0 0, .string ⟨#[]⟩] 52)) w' :=
  writes_any _ _ [(prA 97, .slice none 0 0), (coA 0 [1, 31] [] 109, p1), (exA 7, .slice none 0 0), (prA 98, .slice none 0 0)] B _ (OwnX.lits w B [(prA 97, .slice none 0 0), (coA 0 [1, 31] [] 109, p1), (exA 7, .slice none 0 0), (prA 98, .slice none 0 0)] _ _ _ rfl hB rfl (by decide) (by kernel_rfl) (ParO.cons (Own.nil _ _ _ _) (okA_lit rfl) (ParO.cons (hp1) (okA_lit rfl) (ParO.cons (Own.nil _ _ _ _) (okA_lit rfl) (ParO.cons (Own.nil _ _ _ _) (okA_lit rfl) (ParO.nil _ _)))))) kwA (by decide)
theorem kwB : [coA 63 [25] [] 104, esA [40] 66, esA [] 55, coA 0 [4] [32] 113] = (psWrite ps0 (bytesOf ⟨#[27, 91, 63, 50, 53, 104, 27, 40, 66, 27, 55, 27, 91, 52, 32, 113]⟩)).2 := by kernel_rfl
theorem writes_B (w : World) (B : Nat) (p0 p3 : Value) (hB : B ≤ w.heap.size) (hp0 : Own w B 3 .i64 p0 [25]) (hp3 : Own w B 3 .i64 p3 [4]) : Calls Try.prog 23 #[.string ⟨#[27, 91, 63, 50, 53, 104, 27, 40, 66, 27, 55, 27, 91, 52, 32, 113]⟩, .slice (some ⟨w.heap.size, 0, none⟩) 4 4] (w.alloc (.cells #[.int .i64 4, .int .i32 104, .int .i32 63, .string ⟨#[]⟩, p0, .string ⟨#[]⟩, .int .i64 3, .int .i32 66, .int .i32 0, .string ⟨#[40]⟩, .slice none 0 0, .string ⟨#[]⟩, .int .i64 3, .int .i32 55, .int .i32 0, .string ⟨#[]⟩, .slice none 0 0, .string ⟨#[]⟩, .int .i64 4, .int .i32 113, .int .i32 0, .string ⟨#[32]⟩, p3, .string ⟨#[]⟩] 52)) fun e w' => e = .returned (.bool true) ∧ Below (w.alloc (.cells #[.int .i64 4, .int .i32 104, .int .i32 63, .string ⟨#[]⟩, p0, .string ⟨#[]⟩, .int .i64 3, .int .i32 66, .int .i32 0, .string ⟨#[40]⟩, .slice none 0 0, .string ⟨#[]⟩, .int .i64 3, .int .i32 55, .int .i32 0, .string ⟨#[]⟩, .slice none 0 0, .string ⟨#[]⟩, .int .i64 4, .int .i32 113, .int .i32 0, .string ⟨#[32]⟩, p3, .string ⟨#[]⟩] 52)).heap.size (w.alloc (.cells #[.int .i64 4, .int .i32 104, .int .i32 63, .string ⟨#[]⟩, p0, .string ⟨#[]⟩, .int .i64 3, .int .i32 66, .int .i32 0, .string ⟨#[40]⟩, .slice none 0 0, .string ⟨#[]⟩, .int .i64 3, .int .i32 55, .int .i32 0, .string ⟨#[]⟩, .slice none 0 0, .string ⟨#[]⟩, .int .i64 4, .int .i32 113, .int .i32 0, .string ⟨#[32]⟩, p3, .string ⟨#[]⟩] 52)) w' :=
  writes_any _ _ [(coA 63 [25] [] 104, p0), (esA [40] 66, .slice none 0 0), (esA [] 55, .slice none 0 0), (coA 0 [4] [32] 113, p3)] B _ (OwnX.lits w B [(coA 63 [25] [] 104, p0), (esA [40] 66, .slice none 0 0), (esA [] 55, .slice none 0 0), (coA 0 [4] [32] 113, p3)] _ _ _ rfl hB rfl (by decide) (by kernel_rfl) (ParO.cons (hp0) (okA_lit rfl) (ParO.cons (Own.nil _ _ _ _) (okA_lit rfl) (ParO.cons (Own.nil _ _ _ _) (okA_lit rfl) (ParO.cons (hp3) (okA_lit rfl) (ParO.nil _ _)))))) kwB (by decide)
theorem kwC : [txA [48, 59, 104, 105], txA [50], esA [] 92] = (psWrite ps0 (bytesOf ⟨#[27, 93, 48, 59, 104, 105, 7, 27, 93, 50, 27, 92]⟩)).2 := by kernel_rfl
theorem writes_C (w : World) (B : Nat) (hB : B ≤ w.heap.size)  : Calls Try.prog 23 #[.string ⟨#[27, 93, 48, 59, 104, 105, 7, 27, 93, 50, 27, 92]⟩, .slice (some ⟨w.heap.size, 0, none⟩) 3 3] (w.alloc (.cells #[.int .i64 5, .int .i32 0, .int .i32 0, .string ⟨#[]⟩, .slice none 0 0, .string ⟨#[48, 59, 104, 105]⟩, .int .i64 5, .int .i32 0, .int .i32 0, .string ⟨#[]⟩, .slice none 0 0, .string ⟨#[50]⟩, .int .i64 3, .int .i32 92, .int .i32 0, .string ⟨#[]⟩, .slice none 0 0, .string ⟨#[]⟩] 52)) fun e w' => e = .returned (.bool true) ∧ Below (w.alloc (.cells #[.int .i64 5, .int .i32 0, .int .i32 0, .string ⟨#[]⟩, .slice none 0 0, .string ⟨#[48, 59, 104, 105]⟩, .int .i64 5, .int .i32 0, .int .i32 0, .string ⟨#[]⟩, .slice none 0 0, .string ⟨#[50]⟩, .int .i64 3, .int .i32 92, .int .i32 0, .string ⟨#[]⟩, .slice none 0 0, .string ⟨#[]⟩] 52)).heap.size (w.alloc (.cells #[.int .i64 5, .int .i32 0, .int .i32 0, .string ⟨#[]⟩, .slice none 0 0, .string ⟨#[48, 59, 104, 105]⟩, .int .i64 5, .int .i32 0, .int .i32 0, .string ⟨#[]⟩, .slice none 0 0, .string ⟨#[50]⟩, .int .i64 3, .int .i32 92, .int .i32 0, .string ⟨#[]⟩, .slice none 0 0, .string ⟨#[]⟩] 52)) w' :=
  writes_any _ _ [(txA [48, 59, 104, 105], .slice none 0 0), (txA [50], .slice none 0 0), (esA [] 92, .slice none 0 0)] B _ (OwnX.lits w B [(txA [48, 59, 104, 105], .slice none 0 0), (txA [50], .slice none 0 0), (esA [] 92, .slice none 0 0)] _ _ _ rfl hB rfl (by decide) (by kernel_rfl) (ParO.cons (Own.nil _ _ _ _) (okA_lit rfl) (ParO.cons (Own.nil _ _ _ _) (okA_lit rfl) (ParO.cons (Own.nil _ _ _ _) (okA_lit rfl) (ParO.nil _ _))))) kwC (by decide)
theorem kwD : [esA [] 92, prA 120] = (psWrite ps0 (bytesOf ⟨#[27, 80, 49, 113, 120, 27, 92, 120]⟩)).2 := by kernel_rfl
theorem writes_D (w : World) (B : Nat) (hB : B ≤ w.heap.size)  : Calls Try.prog 23 #[.string ⟨#[27, 80, 49, 113, 120, 27, 92, 120]⟩, .slice (some ⟨w.heap.size, 0, none⟩) 2 2] (w.alloc (.cells #[.int .i64 3, .int .i32 92, .int .i32 0, .string ⟨#[]⟩, .slice none 0 0, .string ⟨#[]⟩, .int .i64 1, .int .i32 120, .int .i32 0, .string ⟨#[]⟩, .slice none 0 0, .string ⟨#[]⟩] 52)) fun e w' => e = .returned (.bool true) ∧ Below (w.alloc (.cells #[.int .i64 3, .int .i32 92, .int .i32 0, .string ⟨#[]⟩, .slice none 0 0, .string ⟨#[]⟩, .int .i64 1, .int .i32 120, .int .i32 0, .string ⟨#[]⟩, .slice none 0 0, .string ⟨#[]⟩] 52)).heap.size (w.alloc (.cells #[.int .i64 3, .int .i32 92, .int .i32 0, .string ⟨#[]⟩, .slice none 0 0, .string ⟨#[]⟩, .int .i64 1, .int .i32 120, .int .i32 0, .string ⟨#[]⟩, .slice none 0 0, .string ⟨#[]⟩] 52)) w' :=
  writes_any _ _ [(esA [] 92, .slice none 0 0), (prA 120, .slice none 0 0)] B _ (OwnX.lits w B [(esA [] 92, .slice none 0 0), (prA 120, .slice none 0 0)] _ _ _ rfl hB rfl (by decide) (by kernel_rfl) (ParO.cons (Own.nil _ _ _ _) (okA_lit rfl) (ParO.cons (Own.nil _ _ _ _) (okA_lit rfl) (ParO.nil _ _)))) kwD (by decide)
theorem kwE : [prA 97] = (psWrite ps0 (bytesOf ⟨#[27, 91, 49, 58, 50, 109, 97]⟩)).2 := by kernel_rfl
theorem writes_E (w : World) (B : Nat) (hB : B ≤ w.heap.size)  : Calls Try.prog 23 #[.string ⟨#[27, 91, 49, 58, 50, 109, 97]⟩, .slice (some ⟨w.heap.size, 0, none⟩) 1 1] (w.alloc (.cells #[.int .i64 1, .int .i32 97, .int .i32 0, .string ⟨#[]⟩, .slice none 0 0, .string ⟨#[]⟩] 52)) fun e w' => e = .returned (.bool true) ∧ Below (w.alloc (.cells #[.int .i64 1, .int .i32 97, .int .i32 0, .string ⟨#[]⟩, .slice none 0 0, .string ⟨#[]⟩] 52)).heap.size (w.alloc (.cells #[.int .i64 1, .int .i32 97, .int .i32 0, .string ⟨#[]⟩, .slice none 0 0, .string ⟨#[]⟩] 52)) w' :=
  writes_any _ _ [(prA 97, .slice none 0 0)] B _ (OwnX.lits w B [(prA 97, .slice none 0 0)] _ _ _ rfl hB rfl (by decide) (by kernel_rfl) (ParO.cons (Own.nil _ _ _ _) (okA_lit rfl) (ParO.nil _ _))) kwE (by decide)
theorem kwF : [prA 98] = (psWrite ps0 (bytesOf ⟨#[27, 91, 63, 49, 63, 104, 98]⟩)).2 := by kernel_rfl
theorem writes_F (w : World) (B : Nat) (hB : B ≤ w.heap.size)  : Calls Try.prog 23 #[.string ⟨#[27, 91, 63, 49, 63, 104, 98]⟩, .slice (some ⟨w.heap.size, 0, none⟩) 1 1] (w.alloc (.cells #[.int .i64 1, .int .i32 98, .int .i32 0, .string ⟨#[]⟩, .slice none 0 0, .string ⟨#[]⟩] 52)) fun e w' => e = .returned (.bool true) ∧ Below (w.alloc (.cells #[.int .i64 1, .int .i32 98, .int .i32 0, .string ⟨#[]⟩, .slice none 0 0, .string ⟨#[]⟩] 52)).heap.size (w.alloc (.cells #[.int .i64 1, .int .i32 98, .int .i32 0, .string ⟨#[]⟩, .slice none 0 0, .string ⟨#[]⟩] 52)) w' :=
  writes_any _ _ [(prA 98, .slice none 0 0)] B _ (OwnX.lits w B [(prA 98, .slice none 0 0)] _ _ _ rfl hB rfl (by decide) (by kernel_rfl) (ParO.cons (Own.nil _ _ _ _) (okA_lit rfl) (ParO.nil _ _))) kwF (by decide)
theorem kwG : [prA 99] = (psWrite ps0 (bytesOf ⟨#[27, 91, 49, 32, 50, 113, 99]⟩)).2 := by kernel_rfl
theorem writes_G (w : World) (B : Nat) (hB : B ≤ w.heap.size)  : Calls Try.prog 23 #[.string ⟨#[27, 91, 49, 32, 50, 113, 99]⟩, .slice (some ⟨w.heap.size, 0, none⟩) 1 1] (w.alloc (.cells #[.int .i64 1, .int .i32 99, .int .i32 0, .string ⟨#[]⟩, .slice none 0 0, .string ⟨#[]⟩] 52)) fun e w' => e = .returned (.bool true) ∧ Below (w.alloc (.cells #[.int .i64 1, .int .i32 99, .int .i32 0, .string ⟨#[]⟩, .slice none 0 0, .string ⟨#[]⟩] 52)).heap.size (w.alloc (.cells #[.int .i64 1, .int .i32 99, .int .i32 0, .string ⟨#[]⟩, .slice none 0 0, .string ⟨#[]⟩] 52)) w' :=
  writes_any _ _ [(prA 99, .slice none 0 0)] B _ (OwnX.lits w B [(prA 99, .slice none 0 0)] _ _ _ rfl hB rfl (by decide) (by kernel_rfl) (ParO.cons (Own.nil _ _ _ _) (okA_lit rfl) (ParO.nil _ _))) kwG (by decide)
theorem kwH : [exA 10, coA 0 [12] [] 65] = (psWrite ps0 (bytesOf ⟨#[27, 91, 49, 10, 50, 65]⟩)).2 := by kernel_rfl
theorem writes_H (w : World) (B : Nat) (p1 : Value) (hB : B ≤ w.heap.size) (hp1 : Own w B 3 .i64 p1 [12]) : Calls Try.prog 23 #[.string ⟨#[27, 91, 49, 10, 50, 65]⟩, .slice (some ⟨w.heap.size, 0, none⟩) 2 2] (w.alloc (.cells #[.int .i64 2, .int .i32 10, .int .i32 0, .string ⟨#[]⟩, .slice none 0 0, .string ⟨#[]⟩, .int .i64 4, .int .i32 65, .int .i32 0, .string ⟨#[]⟩, p1, .string ⟨#[]⟩] 52)) fun e w' => e = .returned (.bool true) ∧ Below (w.alloc (.cells #[.int .i64 2, .int .i32 10, .int .i32 0, .string ⟨#[]⟩, .slice none 0 0, .string ⟨#[]⟩, .int .i64 4, .int .i32 65, .int .i32 0, .string ⟨#[]⟩, p1, .string ⟨#[]⟩] 52)).heap.size (w.alloc (.cells #[.int .i64 2, .int .i32 10, .int .i32 0, .string ⟨#[]⟩, .slice none 0 0, .string ⟨#[]⟩, .int .i64 4, .int .i32 65, .int .i32 0, .string ⟨#[]⟩, p1, .string ⟨#[]⟩] 52)) w' :=
  writes_any _ _ [(exA 10, .slice none 0 0), (coA 0 [12] [] 65, p1)] B _ (OwnX.lits w B [(exA 10, .slice none 0 0), (coA 0 [12] [] 65, p1)] _ _ _ rfl hB rfl (by decide) (by kernel_rfl) (ParO.cons (Own.nil _ _ _ _) (okA_lit rfl) (ParO.cons (hp1) (okA_lit rfl) (ParO.nil _ _)))) kwH (by decide)
theorem kwI : [exA 24, prA 120] = (psWrite ps0 (bytesOf ⟨#[27, 91, 51, 24, 120]⟩)).2 := by kernel_rfl
theorem writes_I (w : World) (B : Nat) (hB : B ≤ w.heap.size)  : Calls Try.prog 23 #[.string ⟨#[27, 91, 51, 24, 120]⟩, .slice (some ⟨w.heap.size, 0, none⟩) 2 2] (w.alloc (.cells #[.int .i64 2, .int .i32 24, .int .i32 0, .string ⟨#[]⟩, .slice none 0 0, .string ⟨#[]⟩, .int .i64 1, .int .i32 120, .int .i32 0, .string ⟨#[]⟩, .slice none 0 0, .string ⟨#[]⟩] 52)) fun e w' => e = .returned (.bool true) ∧ Below (w.alloc (.cells #[.int .i64 2, .int .i32 24, .int .i32 0, .string ⟨#[]⟩, .slice none 0 0, .string ⟨#[]⟩, .int .i64 1, .int .i32 120, .int .i32 0, .string ⟨#[]⟩, .slice none 0 0, .string ⟨#[]⟩] 52)).heap.size (w.alloc (.cells #[.int .i64 2, .int .i32 24, .int .i32 0, .string ⟨#[]⟩, .slice none 0 0, .string ⟨#[]⟩, .int .i64 1, .int .i32 120, .int .i32 0, .string ⟨#[]⟩, .slice none 0 0, .string ⟨#[]⟩] 52)) w' :=
  writes_any _ _ [(exA 24, .slice none 0 0), (prA 120, .slice none 0 0)] B _ (OwnX.lits w B [(exA 24, .slice none 0 0), (prA 120, .slice none 0 0)] _ _ _ rfl hB rfl (by decide) (by kernel_rfl) (ParO.cons (Own.nil _ _ _ _) (okA_lit rfl) (ParO.cons (Own.nil _ _ _ _) (okA_lit rfl) (ParO.nil _ _)))) kwI (by decide)
theorem kwJ : [coA 0 [4] [] 65] = (psWrite ps0 (bytesOf ⟨#[194, 155, 52, 65]⟩)).2 := by kernel_rfl
theorem writes_J (w : World) (B : Nat) (p0 : Value) (hB : B ≤ w.heap.size) (hp0 : Own w B 3 .i64 p0 [4]) : Calls Try.prog 23 #[.string ⟨#[194, 155, 52, 65]⟩, .slice (some ⟨w.heap.size, 0, none⟩) 1 1] (w.alloc (.cells #[.int .i64 4, .int .i32 65, .int .i32 0, .string ⟨#[]⟩, p0, .string ⟨#[]⟩] 52)) fun e w' => e = .returned (.bool true) ∧ Below (w.alloc (.cells #[.int .i64 4, .int .i32 65, .int .i32 0, .string ⟨#[]⟩, p0, .string ⟨#[]⟩] 52)).heap.size (w.alloc (.cells #[.int .i64 4, .int .i32 65, .int .i32 0, .string ⟨#[]⟩, p0, .string ⟨#[]⟩] 52)) w' :=
  writes_any _ _ [(coA 0 [4] [] 65, p0)] B _ (OwnX.lits w B [(coA 0 [4] [] 65, p0)] _ _ _ rfl hB rfl (by decide) (by kernel_rfl) (ParO.cons (hp0) (okA_lit rfl) (ParO.nil _ _))) kwJ (by decide)
theorem kwK : [prA 100] = (psWrite ps0 (bytesOf ⟨#[27, 91, 32, 33, 34, 112, 100]⟩)).2 := by kernel_rfl
theorem writes_K (w : World) (B : Nat) (hB : B ≤ w.heap.size)  : Calls Try.prog 23 #[.string ⟨#[27, 91, 32, 33, 34, 112, 100]⟩, .slice (some ⟨w.heap.size, 0, none⟩) 1 1] (w.alloc (.cells #[.int .i64 1, .int .i32 100, .int .i32 0, .string ⟨#[]⟩, .slice none 0 0, .string ⟨#[]⟩] 52)) fun e w' => e = .returned (.bool true) ∧ Below (w.alloc (.cells #[.int .i64 1, .int .i32 100, .int .i32 0, .string ⟨#[]⟩, .slice none 0 0, .string ⟨#[]⟩] 52)).heap.size (w.alloc (.cells #[.int .i64 1, .int .i32 100, .int .i32 0, .string ⟨#[]⟩, .slice none 0 0, .string ⟨#[]⟩] 52)) w' :=
  writes_any _ _ [(prA 100, .slice none 0 0)] B _ (OwnX.lits w B [(prA 100, .slice none 0 0)] _ _ _ rfl hB rfl (by decide) (by kernel_rfl) (ParO.cons (Own.nil _ _ _ _) (okA_lit rfl) (ParO.nil _ _))) kwK (by decide)
def kq1 : Ps := (psWrite ps0 (bytesOf ⟨#[27, 91, 53]⟩)).1
theorem kt1 : [] = (psWrite ps0 (bytesOf ⟨#[27, 91, 53]⟩)).2 := by kernel_rfl
theorem then_1 (D : Nat) (w : World) (h : PV w D (fun _ => False) ps0) : Calls Try.prog 29 #[.pointer (some ⟨D, 0, none⟩), .string ⟨#[27, 91, 53]⟩, .slice none 0 0] w fun e w' => e = .returned (.bool true) ∧ Bar D w w' ∧ PV w' D (fun _ => False) kq1 :=
  then_any D _ ps0 _ _ [] 0 w h (fun _ h => h.elim) (OwnX.nil _ _) (fun g h => by rcases h with h | h; exact absurd h (PB.nil g); cases h) kt1 (by decide)
def kq2 : Ps := (psWrite kq1 (bytesOf ⟨#[32]⟩)).1
theorem kt2 : [] = (psWrite kq1 (bytesOf ⟨#[32]⟩)).2 := by kernel_rfl
theorem then_2 (D : Nat) (w : World) (h : PV w D (fun _ => False) kq1) : Calls Try.prog 29 #[.pointer (some ⟨D, 0, none⟩), .string ⟨#[32]⟩, .slice none 0 0] w fun e w' => e = .returned (.bool true) ∧ Bar D w w' ∧ PV w' D (fun _ => False) kq2 :=
  then_any D _ kq1 _ _ [] 0 w h (fun _ h => h.elim) (OwnX.nil _ _) (fun g h => by rcases h with h | h; exact absurd h (PB.nil g); cases h) kt2 (by decide)
def kq3 : Ps := (psWrite kq2 (bytesOf ⟨#[195]⟩)).1
theorem kt3 : [] = (psWrite kq2 (bytesOf ⟨#[195]⟩)).2 := by kernel_rfl
theorem then_3 (D : Nat) (w : World) (h : PV w D (fun _ => False) kq2) : Calls Try.prog 29 #[.pointer (some ⟨D, 0, none⟩), .string ⟨#[195]⟩, .slice none 0 0] w fun e w' => e = .returned (.bool true) ∧ Bar D w w' ∧ PV w' D (fun _ => False) kq3 :=
  then_any D _ kq2 _ _ [] 0 w h (fun _ h => h.elim) (OwnX.nil _ _) (fun g h => by rcases h with h | h; exact absurd h (PB.nil g); cases h) kt3 (by decide)
def kq4 : Ps := (psWrite kq3 (bytesOf ⟨#[109]⟩)).1
theorem kt4 : [prA 109] = (psWrite kq3 (bytesOf ⟨#[109]⟩)).2 := by kernel_rfl
theorem then_4 (D : Nat) (w : World) (h : PV w D (fun _ => False) kq3) : Calls Try.prog 29 #[.pointer (some ⟨D, 0, none⟩), .string ⟨#[109]⟩, .slice (some ⟨w.heap.size, 0, none⟩) 1 1] (w.alloc (.cells #[.int .i64 1, .int .i32 109, .int .i32 0, .string ⟨#[]⟩, .slice none 0 0, .string ⟨#[]⟩] 52)) fun e w' => e = .returned (.bool true) ∧ Bar D (w.alloc (.cells #[.int .i64 1, .int .i32 109, .int .i32 0, .string ⟨#[]⟩, .slice none 0 0, .string ⟨#[]⟩] 52)) w' ∧ PV w' D (fun _ => False) kq4 :=
  then_any D _ kq3 _ _ [(prA 109, .slice none 0 0)] w.heap.size _ (h.past (bl_alloc (Below.refl _ _) _)) (fun _ h => h.elim) (OwnX.lits w w.heap.size [(prA 109, .slice none 0 0)] _ _ _ rfl (Nat.le_refl _) rfl (by decide) (by kernel_rfl) (ParO.cons (Own.nil _ _ _ _) (okA_lit rfl) (ParO.nil _ _))) (fun g h => by have := PV.lt ‹_›; rcases h with ⟨x, hx, e⟩ | h; (rw [List.mem_singleton.1 hx] at e; cases e); (simp only [Value.ownBlock, Option.some.injEq] at h; omega)) kt4 (by decide)
theorem kq1st : kq1.st = 4 := by kernel_rfl
theorem kq2st : kq2.st = 5 := by kernel_rfl
theorem kq4st : kq4.st = 0 := by kernel_rfl
theorem kq3gr : decide (kq3.st = 0 ∧ kq3.bs = []) = false := decide_eq_false (fun h => by have := h.2; revert this; exact (by decide +kernel : ¬ kq3.bs = []))
set_option maxHeartbeats 16000000 in
set_option maxRecDepth 100000 in
theorem known_any (w : World) : Calls Try.prog 9 #[] w fun e w' => e = .returned (.bool true) ∧ Below w.heap.size w w' := by
  go_enter Try.func9, Try.ntmps9
  go_wp2_with (first | (go_at_call 24; (with_reducible refine (printed_any 97 _).mono ?_); rintro e w1 ⟨rfl, hb1⟩; have b1 : Below w.heap.size w w1 := bl_trans (Below.refl _ _) hb1) | (go_at_call 25; (with_reducible refine (control_any2 0 ⟨#[]⟩ 109 _ _ _ _).mono ?_); rintro e w2 ⟨rfl, hb2⟩; have b2 : Below w.heap.size w w2 := bl_trans (bl_alloc (b1) _) hb2; have o2 : Own w2 w.heap.size 3 .i64 (.slice (some ⟨w1.heap.size, 0, none⟩) 2 2) [1, 31] := (show Own (w1.alloc (.cells #[.int .i64 1, .int .i64 31] 3)) w.heap.size 3 .i64 (.slice (some ⟨w1.heap.size, 0, none⟩) 2 2) [1, 31] from Own.new w1 3 .i64 [1, 31] w.heap.size _ rfl (b1.size) (by decide)).kept hb2) | (go_at_call 26; (with_reducible refine (run_any 7 _).mono ?_); rintro e w3 ⟨rfl, hb3⟩; have b3 : Below w.heap.size w w3 := bl_trans (b2) hb3) | (go_at_call 24; (with_reducible refine (printed_any 98 _).mono ?_); rintro e w4 ⟨rfl, hb4⟩; have b4 : Below w.heap.size w w4 := bl_trans (b3) hb4) | (go_at_call 23; (with_reducible refine (writes_A _ w.heap.size _ b4.size (o2.kept (bl_trans (bl_trans (Below.refl _ _) hb3) hb4))).mono ?_); rintro e w5 ⟨rfl, hb5⟩; have b5 : Below w.heap.size w w5 := bl_trans (bl_alloc (b4) _) hb5) | (go_at_call 25; (with_reducible refine (control_any2 63 ⟨#[]⟩ 104 _ _ _ _).mono ?_); rintro e w6 ⟨rfl, hb6⟩; have b6 : Below w.heap.size w w6 := bl_trans (bl_alloc (b5) _) hb6; have o6 : Own w6 w.heap.size 3 .i64 (.slice (some ⟨w5.heap.size, 0, none⟩) 1 1) [25] := (show Own (w5.alloc (.cells #[.int .i64 25] 3)) w.heap.size 3 .i64 (.slice (some ⟨w5.heap.size, 0, none⟩) 1 1) [25] from Own.new w5 3 .i64 [25] w.heap.size _ rfl (b5.size) (by decide)).kept hb6) | (go_at_call 27; (with_reducible refine (escape_any ⟨#[40]⟩ 66 _).mono ?_); rintro e w7 ⟨rfl, hb7⟩; have b7 : Below w.heap.size w w7 := bl_trans (b6) hb7) | (go_at_call 27; (with_reducible refine (escape_any ⟨#[]⟩ 55 _).mono ?_); rintro e w8 ⟨rfl, hb8⟩; have b8 : Below w.heap.size w w8 := bl_trans (b7) hb8) | (go_at_call 25; (with_reducible refine (control_any2 0 ⟨#[32]⟩ 113 _ _ _ _).mono ?_); rintro e w9 ⟨rfl, hb9⟩; have b9 : Below w.heap.size w w9 := bl_trans (bl_alloc (b8) _) hb9; have o9 : Own w9 w.heap.size 3 .i64 (.slice (some ⟨w8.heap.size, 0, none⟩) 1 1) [4] := (show Own (w8.alloc (.cells #[.int .i64 4] 3)) w.heap.size 3 .i64 (.slice (some ⟨w8.heap.size, 0, none⟩) 1 1) [4] from Own.new w8 3 .i64 [4] w.heap.size _ rfl (b8.size) (by decide)).kept hb9) | (go_at_call 23; (with_reducible refine (writes_B _ w.heap.size _ _ b9.size (o6.kept (bl_trans (bl_alloc (bl_trans (bl_trans (Below.refl _ _) hb7) hb8) _) hb9)) (o9.kept (Below.refl _ _))).mono ?_); rintro e w10 ⟨rfl, hb10⟩; have b10 : Below w.heap.size w w10 := bl_trans (bl_alloc (b9) _) hb10) | (go_at_call 28; (with_reducible refine (text_any3 ⟨#[48, 59, 104, 105]⟩ _).mono ?_); rintro e w11 ⟨rfl, hb11⟩; have b11 : Below w.heap.size w w11 := bl_trans (b10) hb11) | (go_at_call 28; (with_reducible refine (text_any3 ⟨#[50]⟩ _).mono ?_); rintro e w12 ⟨rfl, hb12⟩; have b12 : Below w.heap.size w w12 := bl_trans (b11) hb12) | (go_at_call 27; (with_reducible refine (escape_any ⟨#[]⟩ 92 _).mono ?_); rintro e w13 ⟨rfl, hb13⟩; have b13 : Below w.heap.size w w13 := bl_trans (b12) hb13) | (go_at_call 23; (with_reducible refine (writes_C _ w.heap.size  b13.size ).mono ?_); rintro e w14 ⟨rfl, hb14⟩; have b14 : Below w.heap.size w w14 := bl_trans (bl_alloc (b13) _) hb14) | (go_at_call 27; (with_reducible refine (escape_any ⟨#[]⟩ 92 _).mono ?_); rintro e w15 ⟨rfl, hb15⟩; have b15 : Below w.heap.size w w15 := bl_trans (b14) hb15) | (go_at_call 24; (with_reducible refine (printed_any 120 _).mono ?_); rintro e w16 ⟨rfl, hb16⟩; have b16 : Below w.heap.size w w16 := bl_trans (b15) hb16) | (go_at_call 23; (with_reducible refine (writes_D _ w.heap.size  b16.size ).mono ?_); rintro e w17 ⟨rfl, hb17⟩; have b17 : Below w.heap.size w w17 := bl_trans (bl_alloc (b16) _) hb17) | (go_at_call 24; (with_reducible refine (printed_any 97 _).mono ?_); rintro e w18 ⟨rfl, hb18⟩; have b18 : Below w.heap.size w w18 := bl_trans (b17) hb18) | (go_at_call 23; (with_reducible refine (writes_E _ w.heap.size  b18.size ).mono ?_); rintro e w19 ⟨rfl, hb19⟩; have b19 : Below w.heap.size w w19 := bl_trans (bl_alloc (b18) _) hb19) | (go_at_call 24; (with_reducible refine (printed_any 98 _).mono ?_); rintro e w20 ⟨rfl, hb20⟩; have b20 : Below w.heap.size w w20 := bl_trans (b19) hb20) | (go_at_call 23; (with_reducible refine (writes_F _ w.heap.size  b20.size ).mono ?_); rintro e w21 ⟨rfl, hb21⟩; have b21 : Below w.heap.size w w21 := bl_trans (bl_alloc (b20) _) hb21) | (go_at_call 24; (with_reducible refine (printed_any 99 _).mono ?_); rintro e w22 ⟨rfl, hb22⟩; have b22 : Below w.heap.size w w22 := bl_trans (b21) hb22) | (go_at_call 23; (with_reducible refine (writes_G _ w.heap.size  b22.size ).mono ?_); rintro e w23 ⟨rfl, hb23⟩; have b23 : Below w.heap.size w w23 := bl_trans (bl_alloc (b22) _) hb23) | (go_at_call 26; (with_reducible refine (run_any 10 _).mono ?_); rintro e w24 ⟨rfl, hb24⟩; have b24 : Below w.heap.size w w24 := bl_trans (b23) hb24) | (go_at_call 25; (with_reducible refine (control_any2 0 ⟨#[]⟩ 65 _ _ _ _).mono ?_); rintro e w25 ⟨rfl, hb25⟩; have b25 : Below w.heap.size w w25 := bl_trans (bl_alloc (b24) _) hb25; have o25 : Own w25 w.heap.size 3 .i64 (.slice (some ⟨w24.heap.size, 0, none⟩) 1 1) [12] := (show Own (w24.alloc (.cells #[.int .i64 12] 3)) w.heap.size 3 .i64 (.slice (some ⟨w24.heap.size, 0, none⟩) 1 1) [12] from Own.new w24 3 .i64 [12] w.heap.size _ rfl (b24.size) (by decide)).kept hb25) | (go_at_call 23; (with_reducible refine (writes_H _ w.heap.size _ b25.size (o25.kept (Below.refl _ _))).mono ?_); rintro e w26 ⟨rfl, hb26⟩; have b26 : Below w.heap.size w w26 := bl_trans (bl_alloc (b25) _) hb26) | (go_at_call 26; (with_reducible refine (run_any 24 _).mono ?_); rintro e w27 ⟨rfl, hb27⟩; have b27 : Below w.heap.size w w27 := bl_trans (b26) hb27) | (go_at_call 24; (with_reducible refine (printed_any 120 _).mono ?_); rintro e w28 ⟨rfl, hb28⟩; have b28 : Below w.heap.size w w28 := bl_trans (b27) hb28) | (go_at_call 23; (with_reducible refine (writes_I _ w.heap.size  b28.size ).mono ?_); rintro e w29 ⟨rfl, hb29⟩; have b29 : Below w.heap.size w w29 := bl_trans (bl_alloc (b28) _) hb29) | (go_at_call 25; (with_reducible refine (control_any2 0 ⟨#[]⟩ 65 _ _ _ _).mono ?_); rintro e w30 ⟨rfl, hb30⟩; have b30 : Below w.heap.size w w30 := bl_trans (bl_alloc (b29) _) hb30; have o30 : Own w30 w.heap.size 3 .i64 (.slice (some ⟨w29.heap.size, 0, none⟩) 1 1) [4] := (show Own (w29.alloc (.cells #[.int .i64 4] 3)) w.heap.size 3 .i64 (.slice (some ⟨w29.heap.size, 0, none⟩) 1 1) [4] from Own.new w29 3 .i64 [4] w.heap.size _ rfl (b29.size) (by decide)).kept hb30) | (go_at_call 23; (with_reducible refine (writes_J _ w.heap.size _ b30.size (o30.kept (Below.refl _ _))).mono ?_); rintro e w31 ⟨rfl, hb31⟩; have b31 : Below w.heap.size w w31 := bl_trans (bl_alloc (b30) _) hb31) | (go_at_call 24; (with_reducible refine (printed_any 100 _).mono ?_); rintro e w32 ⟨rfl, hb32⟩; have b32 : Below w.heap.size w w32 := bl_trans (b31) hb32) | (go_at_call 23; (with_reducible refine (writes_K _ w.heap.size  b32.size ).mono ?_); rintro e w33 ⟨rfl, hb33⟩; have b33 : Below w.heap.size w w33 := bl_trans (bl_alloc (b32) _) hb33) | (go_at_call 29; (with_reducible refine (then_1 _ _ (PV.zero (fun _ => False) (Box.new w33 #[.slice none 0 0, .int .i64 0, .int .u8 0, .int .u8 0, .int .i64 0, .int .i32 0, .string ⟨#[]⟩, .int .i64 0, .int .i64 0, .int .i64 0, .int .i64 0, .int .i64 0, .int .i64 0, .int .i64 0, .int .i64 0, .int .i64 0, .int .i64 0, .int .i64 0, .int .i64 0, .int .i64 0, .int .i64 0, .int .i64 0, .int .i64 0, .int .i64 0, .bool false, .slice none 0 0] 31 rfl))).mono ?_); rintro e x1 ⟨rfl, hr1, hp1⟩; have s1 := state_any _ _ _ x1 hp1; rw [kq1st] at s1) | (go_at_call 15; (with_reducible refine s1.mono ?_); rintro e x2 ⟨rfl, rfl⟩; clear s1) | (go_at_call 29; (with_reducible refine (then_2 _ _ hp1).mono ?_); rintro e x3 ⟨rfl, hr3, hp3⟩; have s3 := state_any _ _ _ x3 hp3; rw [kq2st] at s3) | (go_at_call 15; (with_reducible refine s3.mono ?_); rintro e x4 ⟨rfl, rfl⟩; clear s3) | (go_at_call 29; (with_reducible refine (then_3 _ _ hp3).mono ?_); rintro e x5 ⟨rfl, hr5, hp5⟩; have s5 := ground_is _ _ _ x5 hp5; rw [kq3gr] at s5) | (go_at_call 17; (with_reducible refine s5.mono ?_); rintro e x6 ⟨rfl, hb6g⟩; have hp6 := hp5.past hb6g; clear s5) | (go_at_call 24; (with_reducible refine (printed_any 109 _).mono ?_); rintro e x7 ⟨rfl, hb7g⟩; have hp7 := hp6.past hb7g) | (go_at_call 29; (with_reducible refine (then_4 _ _ hp7).mono ?_); rintro e x8 ⟨rfl, hr8, hp8⟩; have s8 := state_any _ _ _ x8 hp8; rw [kq4st] at s8) | (go_at_call 15; (with_reducible refine s8.mono ?_); rintro e x9 ⟨rfl, rfl⟩; clear s8))
  go_ret
  exact ⟨rfl, Bar.to_below (bl_alloc (bl_trans (bl_trans (Bar.to_below (Bar.to_below (Bar.to_below (bl_alloc b33 _) hr1 b33.size) hr3 b33.size) hr5 b33.size) hb6g) hb7g) _) hr8 b33.size⟩

end Go.Proofs.Ytpkkfcfkhiaggaa
namespace Go.Proofs.Ytpkkfcfkhiaggaa
open Go.RowKit
theorem OutX.own {Y : Nat → Prop} {w w' : World} {k : IntKind} {v : Value} {xs : List Int} (h : OutX Y w w') (hr : Rd w k v xs) (hY : ∀ g, v.ownBlock = some g → ¬ Y g) : Rd w' k v xs := by
  obtain ⟨p, cap, rfl, h1, h2, h3⟩ := hr
  refine ⟨p, cap, rfl, h1, h2, h3.imp id fun ⟨b, off, hp, hlt, hc⟩ => ⟨b, off, hp, Nat.lt_of_lt_of_le hlt h.size, fun i x hx => ?_⟩⟩
  rw [h.cell (off + i) hlt (hY b (by rw [hp]; rfl))]
  exact hc i x hx
theorem OutX.box {Y : Nat → Prop} {w w' : World} {b : Nat} {cs : Array Value} {t : TypeId} (h : OutX Y w w') (hb : Box w b cs t) (hY : ¬ Y b) : Box w' b cs t := (h.block b hY hb.lt).trans hb
/-- A parser lasts where nothing but blocks of X changes. -/
theorem PV.outx {w w' : World} {D : Nat} {X Y : Nat → Prop} {p : Ps} (h : PV w D X p) (ho : OutX Y w w') (hY : ∀ g, Y g → g ≠ D ∧ X g) : PV w' D X p := by
  obtain ⟨bv, tv, m, lo, hi, ls, h⟩ := h
  exact ⟨bv, tv, m, lo, hi, ls, { h with box := ⟨h.box.1, ho.box h.box.2 (fun y => (hY D y).1 rfl)⟩, rb := ho.own h.rb (fun g e y => (h.ob g e).2 (hY g y).2), rt := ho.own h.rt (fun g e y => (h.ot g e).2 (hY g y).2) }⟩
theorem OutX.after {X : Nat → Prop} {w w1 w2 : World} (h : Below w.heap.size w w1) (ho : OutX X w1 w2) (hX : ∀ g, X g → w.heap.size ≤ g) : Below w.heap.size w w2 :=
  ⟨ho.os.trans h.os, ho.tape.trans h.tape, ho.output.trans h.output, Nat.le_trans h.size ho.size, fun k hk => (ho.block k (fun x => by have := hX k x; omega) (Nat.lt_of_lt_of_le hk h.size)).trans (h.block k hk)⟩
theorem PV.new (w : World) : PV (w.alloc (.cells #[.slice none 0 0, .int .i64 0, .int .u8 0, .int .u8 0, .int .i64 0, .int .i32 0, .string ⟨#[]⟩, .int .i64 0, .int .i64 0, .int .i64 0, .int .i64 0, .int .i64 0, .int .i64 0, .int .i64 0, .int .i64 0, .int .i64 0, .int .i64 0, .int .i64 0, .int .i64 0, .int .i64 0, .int .i64 0, .int .i64 0, .int .i64 0, .int .i64 0, .bool false, .slice none 0 0] 31)) w.heap.size (fun _ => False) ps0 := PV.zero (fun _ => False) (Box.new w #[.slice none 0 0, .int .i64 0, .int .u8 0, .int .u8 0, .int .i64 0, .int .i32 0, .string ⟨#[]⟩, .int .i64 0, .int .i64 0, .int .i64 0, .int .i64 0, .int .i64 0, .int .i64 0, .int .i64 0, .int .i64 0, .int .i64 0, .int .i64 0, .int .i64 0, .int .i64 0, .int .i64 0, .int .i64 0, .int .i64 0, .int .i64 0, .int .i64 0, .bool false, .slice none 0 0] 31 rfl)
theorem rwrite_ok (l : List Int) (hl : ∀ x ∈ l, Byte x) : ROk (4 * l.length) (rsWrite rs0 l).1 ∧ (rsWrite rs0 l).2.length ≤ 2 * l.length := by
  have hfl := feed_len l [] .nil hl
  rw [List.length_nil, Nat.zero_add] at hfl
  have h1 := rrun_ok (feedO [] l) (m := 0) (s := ⟨0, [], feedS [] l⟩) ⟨Nat.zero_le _, by simp, Nat.zero_le _⟩
  have h2 := rrun_few ⟨0, [], feedS [] l⟩ (feedO [] l)
  exact ⟨h1.1.mono (by omega), Nat.le_trans h2 (by omega)⟩
theorem pwrite_sim (l : List Int) : Sim (psWrite ps0 l).1 (rsWrite rs0 l).1 ∧ (psWrite ps0 l).2 = (rsWrite rs0 l).2 := write_sim l sim_start

end Go.Proofs.Ytpkkfcfkhiaggaa
