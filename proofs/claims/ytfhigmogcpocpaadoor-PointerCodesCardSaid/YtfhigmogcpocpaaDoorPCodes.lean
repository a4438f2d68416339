/- pointer: PointerCodes returns true for every input. No condition. -/
import Derived.Test.YtfhigmogcpocpaaDoorGl
import Derived.Test.YtfhigmogcpocpaaDoorGd
import Derived.Test.YtfhigmogcpocpaaDoorQ
import Derived.Test.YtfhigmogcpocpaaDoorLate3
import Derived.Deep.CutBlock
import Derived.Deep.DeepCutAuto
import Derived.Test.YtfhigmogcpocpaaDoorCards
import Derived.Test.YtfhigmogcpocpaaDoorTie
import Derived.SevenTiedAt
import Derived.Outline
set_option linter.unusedSimpArgs false
set_option linter.unusedVariables false
set_option linter.unnecessarySimpa false
namespace Go.Proofs.YtfhigmogcpocpaaDoor
open Go.ChangeShapes Go.WideShapes Go.ChangeAt Go.RowKit

/-- All blocks below B stay, once there are so many. -/
def SB (B : Nat) (u v : World) : Prop := B ≤ u.heap.size → Below B u v
theorem SB.trans (B : Nat) : ∀ u1 u2 u3 : World, SB B u1 u2 → SB B u2 u3 → SB B u1 u3 := fun u1 u2 u3 h k hb => by
  have h1 := h hb
  exact h1.trans (k (Nat.le_trans hb h1.size))
theorem SB.gr (B : Nat) : ∀ u1 u2 : World, Gr u1 u2 → SB B u1 u2 := fun u1 u2 h hb => h.mono hb
theorem SB.bar2 {B D M : Nat} {u v : World} (h : Bar2 D M u v) (hD : B ≤ D) (hM : B ≤ M) : SB B u v := fun hb =>
  ⟨h.os, h.tape, h.output, h.size, fun i hi => h.block i (by omega) (by omega) (by omega)⟩
theorem mdo_p (M : Nat) (p : Pt) (n : Nat) (k b r c : Int) (sh al ct : Bool) (w : World) (h : MoB w M p n) (hn : n ≤ 1000) (hv : validE k b r c = true) : Calls Tryd.prog 11 #[.pointer (some ⟨M, 0, none⟩), .agg #[.int .i64 k, .int .i64 b, .int .i64 r, .int .i64 c, .bool sh, .bool al, .bool ct]] w (MDoE M p n k b r c sh al ct w) := by
  obtain ⟨m, e, x, y, z, a0, a1, t⟩ := p
  exact mdo_ok M m e x y z a0 a1 t n k b r c sh al ct w h hn hv
def XAt (w : World) (bx : Nat) (kd row col but : Int) (sh al ct : Bool) (wx : World) : Prop := ∃ b, Box wx bx #[.int .i64 kd, .int .i64 b, .int .i64 row, .int .i64 col, .bool sh, .bool al, .bool ct] 24 ∧ (kd < 3 → b = but) ∧ Below w.heap.size w wx
set_option maxHeartbeats 8000000 in
set_option maxRecDepth 100000 in
theorem codes_any (row col but : Int) (w : World) (ht : Tab w) : Calls Tryd.prog 3 #[.int .i64 row, .int .i64 col, .int .i64 but] w fun e w' => e = .returned (.bool true) ∧ Below w.heap.size w w' := by
  go_enter Tryd.func3, Tryd.ntmps3
  go_wp2_with fail
  go_loopw [7] (fun i wr => ∃ k : Nat, k ≤ 320 ∧ i = .int .i64 k ∧ Below w.heap.size w wr) (fun i _ => 320 - (intOf i).toNat)
  case atStart => exact ⟨0, by omega, rfl, Below.refl _ _⟩
  case round =>
    obtain ⟨k, hk, rfl, hbel⟩ := hrel
    by_cases hlt : k < 320
    · have r1 : (0 : Int) ≤ (k : Int) := by omega
      have r2 : (k : Int) < 320 := by omega
      go_upto_region 5 with fail
      obtain ⟨kd, hkd⟩ : ∃ kd, (1 + (k : Int) % 5) = kd := ⟨_, rfl⟩
      obtain ⟨sh, hsh⟩ : ∃ q, ((k : Int) / 5 % 2 == 1) = q := ⟨_, rfl⟩
      obtain ⟨al, hal⟩ : ∃ q, ((k : Int) / 10 % 2 == 1) = q := ⟨_, rfl⟩
      obtain ⟨ct, hct⟩ : ∃ q, ((k : Int) / 20 % 2 == 1) = q := ⟨_, rfl⟩
      have hk5 : 1 ≤ kd ∧ kd ≤ 5 := by omega
      rw [hkd, hsh, hal, hct]
      clear hkd hsh hal hct
      have xe0 : Box (wr.alloc (.cells #[.int .i64 kd, .int .i64 0, .int .i64 row, .int .i64 col, .bool sh, .bool al, .bool ct] 24)) wr.heap.size #[.int .i64 kd, .int .i64 0, .int .i64 row, .int .i64 col, .bool sh, .bool al, .bool ct] 24 := Box.new _ _ _ rfl
      have hb0 : Below w.heap.size w (wr.alloc (.cells #[.int .i64 kd, .int .i64 0, .int .i64 row, .int .i64 col, .bool sh, .bool al, .bool ct] 24)) := bl_alloc hbel _
      obtain ⟨W0, hW0⟩ : ∃ W0, wr.alloc (.cells #[.int .i64 kd, .int .i64 0, .int .i64 row, .int .i64 col, .bool sh, .bool al, .bool ct] 24) = W0 := ⟨_, rfl⟩
      obtain ⟨bx, hbx⟩ : ∃ bx, wr.heap.size = bx := ⟨_, rfl⟩
      have hbxw : w.heap.size ≤ bx := by have := hbel.size; omega
      rw [hW0] at xe0 hb0 ⊢
      rw [hbx] at xe0 ⊢
      clear hW0 hbx
      have ce0 := xe0.cell
      have le0 := xe0.lt
      have fe0 := xe0.free
      go_upto_if 35 with fail
      go_cut [] (fun wx => XAt w bx kd row col but sh al ct wx)
      case first =>
        as_aux_lemma =>
          by_cases h3 : kd < 3
          · go_wp2_with fail
            go_meet
            exact ⟨but, Box.as (xe0.set 1 _) (by simp), fun _ => rfl, hb0.setCell hbxw _⟩
          · go_wp2_with fail
            go_meet
            exact ⟨0, xe0, fun h => absurd h (by omega), hb0⟩
      case rest =>
        as_aux_lemma =>
          obtain ⟨b, xe, hbb, hbw⟩ := hcut
          clear ce0 le0 fe0 xe0 hb0
          go_wp2_with fail
          obtain ⟨md, hmd⟩ : ∃ md, (k : Int) / 40 % 4 = md := ⟨_, rfl⟩
          obtain ⟨ex, hex⟩ : ∃ q, ((k : Int) / 160 == 1) = q := ⟨_, rfl⟩
          have hm4 : 0 ≤ md ∧ md ≤ 3 := by omega
          rw [hmd, hex]
          clear hmd hex
          have hbD0 := xe.lt
          have hp1 : PtB ((wc.alloc (.cells #[.int .i64 0, .bool false, .int .u8 0, .int .i64 0, .int .i64 0, .bool false] 29)).alloc (.cells #[.int .i64 md, .bool ex, .slice none 0 0, .bool false, .int .i64 0, .int .i64 0] 33)) wc.heap.size 0 ⟨0, false, false, false, false, 0, 0, false⟩ := PtB.box (p := ⟨0, false, false, false, false, 0, 0, false⟩) ((Box.new _ _ _ rfl).alloc _)
          have xm1 : Box ((wc.alloc (.cells #[.int .i64 0, .bool false, .int .u8 0, .int .i64 0, .int .i64 0, .bool false] 29)).alloc (.cells #[.int .i64 md, .bool ex, .slice none 0 0, .bool false, .int .i64 0, .int .i64 0] 33)) (wc.heap.size + 1) #[.int .i64 md, .bool ex, .slice none 0 0, .bool false, .int .i64 0, .int .i64 0] 33 := Box.new _ _ _ (by simp)
          have hb1 : Below w.heap.size w ((wc.alloc (.cells #[.int .i64 0, .bool false, .int .u8 0, .int .i64 0, .int .i64 0, .bool false] 29)).alloc (.cells #[.int .i64 md, .bool ex, .slice none 0 0, .bool false, .int .i64 0, .int .i64 0] 33)) := bl_alloc (bl_alloc hbw _) _
          have xe1 : Box ((wc.alloc (.cells #[.int .i64 0, .bool false, .int .u8 0, .int .i64 0, .int .i64 0, .bool false] 29)).alloc (.cells #[.int .i64 md, .bool ex, .slice none 0 0, .bool false, .int .i64 0, .int .i64 0] 33)) bx _ _ := Box.alloc (Box.alloc xe _) _
          obtain ⟨W1, hW1⟩ : ∃ W1, (wc.alloc (.cells #[.int .i64 0, .bool false, .int .u8 0, .int .i64 0, .int .i64 0, .bool false] 29)).alloc (.cells #[.int .i64 md, .bool ex, .slice none 0 0, .bool false, .int .i64 0, .int .i64 0] 33) = W1 := ⟨_, rfl⟩
          obtain ⟨D, hD⟩ : ∃ D, wc.heap.size = D := ⟨_, rfl⟩
          have hDw : w.heap.size ≤ D := by have := hbw.size; omega
          have hbD : bx < D := by omega
          rw [hW1] at hp1 xm1 hb1 xe1 ⊢
          rw [hD] at hp1 xm1 ⊢
          clear hW1 hD hbD0 xe hbw
          obtain ⟨M, hM⟩ : ∃ M, D + 1 = M := ⟨_, rfl⟩
          have hMD : M ≠ D := by omega
          rw [hM] at xm1 ⊢
          have hDM : D ≤ M := by omega
          have HM := Lib.hid hM
          clear hM
          have cm1 := xm1.cell
          have lm1 := xm1.lt
          have hg : 0 ≠ D := by have := tab_lt ht; omega
          have cS := fun W h => set_any D 0 ⟨0, false, false, false, false, 0, 0, false⟩ md ex W h
          have e0 : setE md = 0 := by unfold setE; rw [if_neg (by omega)]
          have e1 : setP ⟨0, false, false, false, false, 0, 0, false⟩ md ex = ⟨md, ex, false, false, false, 0, 0, false⟩ := by unfold setP; rw [if_neg (by omega)]
          rw [e0, e1] at cS
          clear e0 e1
          have cV := fun W => rvalid_any kd b row col sh al ct W
          first | refine wp_grow_tail2 9 (by kernel_rfl) (by kernel_rfl) ?_ | refine wp_grow_tail 9 (by kernel_rfl) (by kernel_rfl) ?_
          simp only [List.take_succ_cons, List.take_zero, List.drop_succ_cons, List.drop_zero]
          repeat (go_big_quiet_step (fail))
          refine wpQuiet_nil ?_
          rintro _ ⟨X, rfl⟩
          cases hv : validE kd b row col
          · rw [hv] at cV
            go_wp2_with (first | (go_at_call 7; (with_reducible refine (cS _ (hp1.below X.grow)).mono ?_); rintro e w2 ⟨rfl, hq, hkp⟩; have pm2 : PM w w2 D M ⟨md, ex, false, false, false, 0, 0, false⟩ ⟨md, ex, false, false, false, 0, 0, false⟩ 0 := ⟨Bar.to_below (bl_trans hb1 X.grow) hkp.1 hDw, hq, ⟨.slice none 0 0, [], (hkp.1.block M hMD (GW.lt X _ xm1.lt)).trans (Box.gw xm1), Rd.nil _ _, Apart.nil _ _ _, Nat.le_refl _, (fun b' => by simp [hasB]), hm4.1, hm4.2⟩, (fun v hv => by have e1 : w2.cell? ⟨M, 2, none⟩ = some (.slice none 0 0) := Box.cell ((hkp.1.block M hMD (GW.lt X _ xm1.lt)).trans (Box.gw xm1)) 2; rw [e1] at hv; cases hv; exact Apart.nil _ _ _), hDw, by omega, by omega⟩; have xe2 : Box w2 bx _ _ := (hkp.1.block bx (by omega) (GW.lt X _ xe1.lt)).trans (Box.gw xe1); have ce2 := xe2.cell; have le2 := xe2.lt) | (go_at_call 8; (with_reducible refine (cV _).mono ?_); rintro e w5 ⟨rfl, hb5⟩; have pm5 := pm2.grow hb5; have xe5 : Box w5 bx _ _ := (hb5.block bx le2).trans xe2; have ce5 := xe5.cell; have le5 := xe5.lt) | (go_at_call 9; (with_reducible refine (does_bad D 0 ⟨md, ex, false, false, false, 0, 0, false⟩ kd b row col sh al ct _ hv).mono ?_); rintro e w7 ⟨rfl, hb7⟩; have pm7 := pm5.grow hb7))
            go_roundw
            case rel => exact ⟨k + 1, by omega, by go_num, pm7.bl⟩
            case measure => simp [intOf]; omega
          · rw [hv] at cV
            have hvv := hv
            unfold validE at hvv
            have hvv := of_decide_eq_true hvv
            by_cases h2 : kd = 2
            · subst h2
              obtain rfl : b = but := hbb (by omega)
              have hv1 : validE 1 b 1 1 = true := decide_eq_true (by omega)
              have HVV := Lib.hid hvv
              clear hvv hk5
              go_wp2_with (first | (go_at_call 7; (with_reducible refine (cS _ (hp1.below X.grow)).mono ?_); rintro e w2 ⟨rfl, hq, hkp⟩; have pm2 : PM w w2 D M ⟨md, ex, false, false, false, 0, 0, false⟩ ⟨md, ex, false, false, false, 0, 0, false⟩ 0 := ⟨Bar.to_below (bl_trans hb1 X.grow) hkp.1 hDw, hq, ⟨.slice none 0 0, [], (hkp.1.block M hMD (GW.lt X _ xm1.lt)).trans (Box.gw xm1), Rd.nil _ _, Apart.nil _ _ _, Nat.le_refl _, (fun b' => by simp [hasB]), hm4.1, hm4.2⟩, (fun v hv => by have e1 : w2.cell? ⟨M, 2, none⟩ = some (.slice none 0 0) := Box.cell ((hkp.1.block M hMD (GW.lt X _ xm1.lt)).trans (Box.gw xm1)) 2; rw [e1] at hv; cases hv; exact Apart.nil _ _ _), hDw, by omega, by omega⟩; have xe2 : Box w2 bx _ _ := (hkp.1.block bx (by omega) (GW.lt X _ xe1.lt)).trans (Box.gw xe1); have ce2 := xe2.cell; have le2 := xe2.lt) | (go_at_call 8; (with_reducible refine (cV _).mono ?_); rintro e w5 ⟨rfl, hb5⟩; have pm5 := pm2.grow hb5; have xe5 : Box w5 bx _ _ := (hb5.block bx le2).trans xe2; have ce5 := xe5.cell; have le5 := xe5.lt))
              as_aux_lemma =>
                refine wp_region_V (fun u1 u2 => SB D u1 u2) (by kernel_rfl) ?_
                have hTr := SB.trans D
                have hGr := SB.gr D
                obtain ⟨w6, hw6, pm6, xe6⟩ : ∃ w6, w5.drew = w6 ∧ PM w w6 D M ⟨md, ex, false, false, false, 0, 0, false⟩ ⟨md, ex, false, false, false, 0, 0, false⟩ 0 ∧ Box w6 bx #[.int .i64 2, .int .i64 b, .int .i64 row, .int .i64 col, .bool sh, .bool al, .bool ct] 24 := ⟨_, rfl, pm5.grow (Below.refl _ _).drew, xe5⟩
                rw [hw6]
                have hB6 : D ≤ w6.heap.size := Nat.le_of_lt pm6.pt.lt
                clear hw6 pm5 xe5
                refine wpAnyV_takeS hTr hGr (A := ?A0t) 0 rfl (by kernel_rfl) (by kernel_rfl) (by kernel_rfl) (fun _ _ _ _ h => h) ?q0t ?r0t
                case q0t =>
                  intro W hW
                  try simp only [List.getElem_toArray, List.getElem_cons_zero, List.getElem_cons_succ]
                  go_big_quiet_step (fail)
                  refine wpQuiet_nil ?_
                  rfl
                refine wpAnyV_takeS hTr hGr (A := ?A1t) 1 rfl (by kernel_rfl) (by kernel_rfl) (by kernel_rfl) (fun _ _ _ _ h => h) ?q1t ?r1t
                case q1t =>
                  intro W hW
                  have hW1 := hW hB6; have hxW : Box W bx _ _ := (hW1.block bx hbD).trans xe6; have cxW := hxW.cell; have lxW := hxW.lt
                  try simp only [List.getElem_toArray, List.getElem_cons_zero, List.getElem_cons_succ]
                  go_big_quiet_step (fail)
                  refine wpQuiet_nil ?_
                  rfl
                refine wpAnyV_takeS hTr hGr (A := ?A2t) 2 rfl (by kernel_rfl) (by kernel_rfl) (by kernel_rfl) (fun _ _ _ _ h => h) ?q2t ?r2t
                case q2t =>
                  intro W hW
                  try simp only [List.getElem_toArray, List.getElem_cons_zero, List.getElem_cons_succ]
                  go_big_quiet_step (fail)
                  refine wpQuiet_nil ?_
                  rfl
                refine wpAnyV_takeS hTr hGr (A := ?A3t) 3 rfl (by kernel_rfl) (by kernel_rfl) (by kernel_rfl) (fun _ _ _ _ h => h) ?q3t ?r3t
                case q3t =>
                  intro W hW
                  try simp only [List.getElem_toArray, List.getElem_cons_zero, List.getElem_cons_succ]
                  go_big_quiet_step (fail)
                  refine wpQuiet_nil ?_
                  rfl
                refine wpAnyV_takeS hTr hGr (A := ?A4t) 4 rfl (by kernel_rfl) (by kernel_rfl) (by kernel_rfl) (fun _ _ _ _ h => h) ?q4t ?r4t
                case q4t =>
                  intro W hW
                  try simp only [List.getElem_toArray, List.getElem_cons_zero, List.getElem_cons_succ]
                  go_big_quiet_step (fail)
                  refine wpQuiet_nil ?_
                  rfl
                refine wpAnyV_takeS hTr hGr (A := ?A5t) 5 rfl (by kernel_rfl) (by kernel_rfl) (by kernel_rfl) (fun _ _ _ _ h => h) ?q5t ?r5t
                case q5t =>
                  intro W hW
                  try simp only [List.getElem_toArray, List.getElem_cons_zero, List.getElem_cons_succ]
                  go_big_quiet_step (fail)
                  refine wpQuiet_nil ?_
                  rfl
                refine wpAnyV_takeS hTr hGr (A := ?A6t) 6 rfl (by kernel_rfl) (by kernel_rfl) (by kernel_rfl) (fun _ _ _ _ h => h) ?q6t ?r6t
                case q6t =>
                  intro W hW
                  try simp only [List.getElem_toArray, List.getElem_cons_zero, List.getElem_cons_succ]
                  go_big_quiet_step ((go_at_call 10; with_reducible exact GW.call (press_any _ _ _ _)))
                  refine wpQuiet_nil ?_
                  rfl
                refine wpAnyV_takeS hTr hGr (A := ?A7t) 7 rfl (by kernel_rfl) (by kernel_rfl) (by kernel_rfl) (fun _ _ _ _ h => h) ?q7t ?r7t
                case q7t =>
                  intro W hW
                  try simp only [List.getElem_toArray, List.getElem_cons_zero, List.getElem_cons_succ]
                  go_big_quiet_step (fail)
                  refine wpQuiet_nil ?_
                  rfl
                refine wpAnyV_takeS hTr hGr (A := ?A8t) 8 rfl (by kernel_rfl) (by kernel_rfl) (by kernel_rfl) (fun _ _ _ _ h => h) ?q8t ?r8t
                case q8t =>
                  intro W hW
                  try simp only [List.getElem_toArray, List.getElem_cons_zero, List.getElem_cons_succ]
                  go_big_quiet_step (fail)
                  refine wpQuiet_nil ?_
                  rfl
                refine wpAnyV_takeS hTr hGr (A := ?A9t) 9 rfl (by kernel_rfl) (by kernel_rfl) (by kernel_rfl) (fun _ _ _ _ h => h) ?q9t ?r9t
                case q9t =>
                  intro W hW
                  try simp only [List.getElem_toArray, List.getElem_cons_zero, List.getElem_cons_succ]
                  go_big_quiet_step ((go_at_call 10; with_reducible exact GW.call (press_any _ _ _ _)))
                  refine wpQuiet_nil ?_
                  rfl
                refine wpAnyV_one 10 (by kernel_rfl) ?_
                intro W hW
                obtain ⟨X, rfl⟩ := GW.of hW
                have pmX := pm6.grow X.grow
                have xeX : Box X.world bx _ _ := Box.gw xe6
                refine wpOp_step rfl (fun K hK => ?_)
                go_simp
                (with_reducible refine (mdo_p M ⟨md, ex, false, false, false, 0, 0, false⟩ 0 1 b 1 1 false false false _ pmX.mo (by omega) hv1).mono ?_)
                rintro e w7 ⟨rfl, hmo, hbm, hma⟩
                have pm7 := pmX.mdo hmo hbm hma
                have hB7 : D ≤ w7.heap.size := Nat.le_of_lt pm7.pt.lt
                have xe7 : Box w7 bx _ _ := ((Bar2.right (D := D) hbm).block bx (by omega) (by omega) xeX.lt).trans xeX
                go_simp
                refine hK _ _ ⟨SB.bar2 (Bar2.right (D := D) hbm) (Nat.le_refl _) (by omega), ?_⟩
                clear hK K hmo hbm hma pmX xeX hW X pm6 xe6 hB6
                try simp only [Act.put, List.getElem_toArray, List.getElem_cons_zero, List.getElem_cons_succ, List.setIfInBounds_toArray, List.set_cons_zero, List.set_cons_succ]
                refine wpAnyV_one 11 (by kernel_rfl) ?_
                intro W hW
                obtain ⟨X, rfl⟩ := GW.of hW
                have pmX := pm7.grow X.grow
                have xeX : Box X.world bx _ _ := Box.gw xe7
                refine wpOp_step rfl (fun K hK => ?_)
                go_simp
                (with_reducible refine (does_ok D 0 ⟨md, ex, false, false, false, 0, 0, false⟩ 1 b 1 1 false false false _ _ pmX.pt (ht.below pmX.bl) hg hv1 rfl).mono ?_)
                rintro e w8 ⟨rfl, hpt, hkp⟩
                have pm8 := pmX.does hpt hkp
                have hB8 : D ≤ w8.heap.size := Nat.le_of_lt pm8.pt.lt
                have xe8 : Box w8 bx _ _ := ((Bar2.left (M := M) hkp.1).block bx (by omega) (by omega) xeX.lt).trans xeX
                go_simp
                refine hK _ _ ⟨SB.bar2 (Bar2.left (M := M) hkp.1) (Nat.le_refl _) (by omega), ?_⟩
                clear hK K hpt hkp pmX xeX hW X pm7 xe7 hB7
                try simp only [Act.put, List.getElem_toArray, List.getElem_cons_zero, List.getElem_cons_succ, List.setIfInBounds_toArray, List.set_cons_zero, List.set_cons_succ]
                refine wpAnyV_takeS hTr hGr (A := ?A12t) 12 rfl (by kernel_rfl) (by kernel_rfl) (by kernel_rfl) (fun _ _ _ _ h => h) ?q12t ?r12t
                case q12t =>
                  intro W hW
                  try simp only [List.getElem_toArray, List.getElem_cons_zero, List.getElem_cons_succ]
                  go_big_quiet_step (fail)
                  refine wpQuiet_nil ?_
                  rfl
                refine wpAnyV_takeS hTr hGr (A := ?A13t) 13 rfl (by kernel_rfl) (by kernel_rfl) (by kernel_rfl) (fun _ _ _ _ h => h) ?q13t ?r13t
                case q13t =>
                  intro W hW
                  try simp only [List.getElem_toArray, List.getElem_cons_zero, List.getElem_cons_succ]
                  go_big_quiet_step (fail)
                  refine wpQuiet_nil ?_
                  rfl
                refine wpAnyV_takeS hTr hGr (A := ?A14t) 14 rfl (by kernel_rfl) (by kernel_rfl) (by kernel_rfl) (fun _ _ _ _ h => h) ?q14t ?r14t
                case q14t =>
                  intro W hW
                  try simp only [List.getElem_toArray, List.getElem_cons_zero, List.getElem_cons_succ]
                  go_big_quiet_step (fail)
                  refine wpQuiet_nil ?_
                  rfl
                refine wpAnyV_takeS hTr hGr (A := ?A15t) 15 rfl (by kernel_rfl) (by kernel_rfl) (by kernel_rfl) (fun _ _ _ _ h => h) ?q15t ?r15t
                case q15t =>
                  intro W hW
                  try simp only [List.getElem_toArray, List.getElem_cons_zero, List.getElem_cons_succ]
                  go_big_quiet_step (fail)
                  refine wpQuiet_nil ?_
                  rfl
                refine wpAnyV_takeS hTr hGr (A := ?A16t) 16 rfl (by kernel_rfl) (by kernel_rfl) (by kernel_rfl) (fun _ _ _ _ h => h) ?q16t ?r16t
                case q16t =>
                  intro W hW
                  have hW1 := hW hB8; have hxW : Box W bx _ _ := (hW1.block bx hbD).trans xe8; have cxW := hxW.cell; have lxW := hxW.lt
                  try simp only [List.getElem_toArray, List.getElem_cons_zero, List.getElem_cons_succ]
                  go_big_quiet_step (fail)
                  refine wpQuiet_nil ?_
                  rfl
                refine wpAnyV_takeS hTr hGr (A := ?A17t) 17 rfl (by kernel_rfl) (by kernel_rfl) (by kernel_rfl) (fun _ _ _ _ h => h) ?q17t ?r17t
                case q17t =>
                  intro W hW
                  try simp only [List.getElem_toArray, List.getElem_cons_zero, List.getElem_cons_succ]
                  go_big_quiet_step (fail)
                  refine wpQuiet_nil ?_
                  rfl
                refine wpAnyV_takeS hTr hGr (A := ?A18t) 18 rfl (by kernel_rfl) (by kernel_rfl) (by kernel_rfl) (fun _ _ _ _ h => h) ?q18t ?r18t
                case q18t =>
                  intro W hW
                  have hW1 := hW hB8; have hxW : Box W bx _ _ := (hW1.block bx hbD).trans xe8; have cxW := hxW.cell; have lxW := hxW.lt
                  try simp only [List.getElem_toArray, List.getElem_cons_zero, List.getElem_cons_succ]
                  go_big_quiet_step (fail)
                  refine wpQuiet_nil ?_
                  rfl
                refine wpAnyV_one 19 (by kernel_rfl) ?_
                intro W hW
                obtain ⟨X, rfl⟩ := GW.of hW
                have pmX := pm8.grow X.grow
                have xeX : Box X.world bx _ _ := Box.gw xe8
                refine wpOp_step rfl (fun K hK => ?_)
                go_simp
                (with_reducible refine (mdo_p M (afterP ⟨md, ex, false, false, false, 0, 0, false⟩ 1 b 1 1) 1 2 b row col sh al ct _ pmX.mo (by omega) hv).mono ?_)
                rintro e w9 ⟨rfl, hmo, hbm, hma⟩
                have pm9 := pmX.mdo hmo hbm hma
                have hB9 : D ≤ w9.heap.size := Nat.le_of_lt pm9.pt.lt
                have xe9 : Box w9 bx _ _ := ((Bar2.right (D := D) hbm).block bx (by omega) (by omega) xeX.lt).trans xeX
                go_simp
                refine hK _ _ ⟨SB.bar2 (Bar2.right (D := D) hbm) (Nat.le_refl _) (by omega), ?_⟩
                clear hK K hmo hbm hma pmX xeX hW X pm8 xe8 hB8
                try simp only [Act.put, List.getElem_toArray, List.getElem_cons_zero, List.getElem_cons_succ, List.setIfInBounds_toArray, List.set_cons_zero, List.set_cons_succ]
                refine wpAnyV_one 20 (by kernel_rfl) ?_
                intro W hW
                obtain ⟨X, rfl⟩ := GW.of hW
                have pmX := pm9.grow X.grow
                have xeX : Box X.world bx _ _ := Box.gw xe9
                refine wpOp_step rfl (fun K hK => ?_)
                go_simp
                (with_reducible refine (does_ok D 0 (afterP ⟨md, ex, false, false, false, 0, 0, false⟩ 1 b 1 1) 2 b row col sh al ct _ _ pmX.pt (ht.below pmX.bl) hg hv rfl).mono ?_)
                rintro e w10 ⟨rfl, hpt, hkp⟩
                have pm10 := pmX.does hpt hkp
                have hB10 : D ≤ w10.heap.size := Nat.le_of_lt pm10.pt.lt
                have xe10 : Box w10 bx _ _ := ((Bar2.left (M := M) hkp.1).block bx (by omega) (by omega) xeX.lt).trans xeX
                go_simp
                refine hK _ _ ⟨SB.bar2 (Bar2.left (M := M) hkp.1) (Nat.le_refl _) (by omega), ?_⟩
                clear hK K hpt hkp pmX xeX hW X pm9 xe9 hB9
                try simp only [Act.put, List.getElem_toArray, List.getElem_cons_zero, List.getElem_cons_succ, List.setIfInBounds_toArray, List.set_cons_zero, List.set_cons_succ]
                refine wpAnyV_takeS hTr hGr (A := ?A21t) 21 rfl (by kernel_rfl) (by kernel_rfl) (by kernel_rfl) (fun _ _ _ _ h => h) ?q21t ?r21t
                case q21t =>
                  intro W hW
                  try simp only [List.getElem_toArray, List.getElem_cons_zero, List.getElem_cons_succ]
                  go_big_quiet_step (fail)
                  refine wpQuiet_nil ?_
                  rfl
                refine wpAnyV_takeS hTr hGr (A := ?A22t) 22 rfl (by kernel_rfl) (by kernel_rfl) (by kernel_rfl) (fun _ _ _ _ h => h) ?q22t ?r22t
                case q22t =>
                  intro W hW
                  try simp only [List.getElem_toArray, List.getElem_cons_zero, List.getElem_cons_succ]
                  go_big_quiet_step (fail)
                  refine wpQuiet_nil ?_
                  rfl
                refine wpAnyV_done (by kernel_rfl) ?_ _
                intro W hW
                have pmW := pm10.grow hW
                go_wp2_with fail
                go_roundw
                case rel => exact ⟨k + 1, by omega, by go_num, pmW.bl⟩
                case measure => simp [intOf]; omega
            · have h2' : (kd == 2) = false := by simpa using h2
              have HVV := Lib.hid hvv
              clear hvv hbb
              go_wp2_with (first | (go_at_call 7; (with_reducible refine (cS _ (hp1.below X.grow)).mono ?_); rintro e w2 ⟨rfl, hq, hkp⟩; have pm2 : PM w w2 D M ⟨md, ex, false, false, false, 0, 0, false⟩ ⟨md, ex, false, false, false, 0, 0, false⟩ 0 := ⟨Bar.to_below (bl_trans hb1 X.grow) hkp.1 hDw, hq, ⟨.slice none 0 0, [], (hkp.1.block M hMD (GW.lt X _ xm1.lt)).trans (Box.gw xm1), Rd.nil _ _, Apart.nil _ _ _, Nat.le_refl _, (fun b' => by simp [hasB]), hm4.1, hm4.2⟩, (fun v hv => by have e1 : w2.cell? ⟨M, 2, none⟩ = some (.slice none 0 0) := Box.cell ((hkp.1.block M hMD (GW.lt X _ xm1.lt)).trans (Box.gw xm1)) 2; rw [e1] at hv; cases hv; exact Apart.nil _ _ _), hDw, by omega, by omega⟩; have xe2 : Box w2 bx _ _ := (hkp.1.block bx (by omega) (GW.lt X _ xe1.lt)).trans (Box.gw xe1); have ce2 := xe2.cell; have le2 := xe2.lt) | (go_at_call 8; (with_reducible refine (cV _).mono ?_); rintro e w5 ⟨rfl, hb5⟩; have pm5 := pm2.grow hb5; have xe5 : Box w5 bx _ _ := (hb5.block bx le2).trans xe2; have ce5 := xe5.cell; have le5 := xe5.lt))
              as_aux_lemma =>
                refine wp_region_V (fun u1 u2 => SB D u1 u2) (by kernel_rfl) ?_
                have hTr := SB.trans D
                have hGr := SB.gr D
                obtain ⟨w6, hw6, pm6, xe6⟩ : ∃ w6, w5.drew = w6 ∧ PM w w6 D M ⟨md, ex, false, false, false, 0, 0, false⟩ ⟨md, ex, false, false, false, 0, 0, false⟩ 0 ∧ Box w6 bx #[.int .i64 kd, .int .i64 b, .int .i64 row, .int .i64 col, .bool sh, .bool al, .bool ct] 24 := ⟨_, rfl, pm5.grow (Below.refl _ _).drew, xe5⟩
                rw [hw6]
                have hB6 : D ≤ w6.heap.size := Nat.le_of_lt pm6.pt.lt
                clear hw6 pm5 xe5
                refine wpAnyV_takeS hTr hGr (A := ?A0) 0 rfl (by kernel_rfl) (by kernel_rfl) (by kernel_rfl) (fun _ _ _ _ h => h) ?q0 ?r0
                case q0 =>
                  intro W hW
                  try simp only [List.getElem_toArray, List.getElem_cons_zero, List.getElem_cons_succ]
                  go_big_quiet_step (fail)
                  refine wpQuiet_nil ?_
                  rfl
                refine wpAnyV_takeS hTr hGr (A := ?A1) 1 rfl (by kernel_rfl) (by kernel_rfl) (by kernel_rfl) (fun _ _ _ _ h => h) ?q1 ?r1
                case q1 =>
                  intro W hW
                  have hW1 := hW hB6; have hxW : Box W bx _ _ := (hW1.block bx hbD).trans xe6; have cxW := hxW.cell; have lxW := hxW.lt
                  try simp only [List.getElem_toArray, List.getElem_cons_zero, List.getElem_cons_succ]
                  go_big_quiet_step (fail)
                  refine wpQuiet_nil ?_
                  rfl
                refine wpAnyV_takeS hTr hGr (A := ?A2) 2 rfl (by kernel_rfl) (by kernel_rfl) (by kernel_rfl) (fun _ _ _ _ h => h) ?q2 ?r2
                case q2 =>
                  intro W hW
                  try simp only [List.getElem_toArray, List.getElem_cons_zero, List.getElem_cons_succ]
                  go_big_quiet_step (fail)
                  refine wpQuiet_nil ?_
                  rfl
                refine wpAnyV_takeS hTr hGr (A := ?A3) 3 rfl (by kernel_rfl) (by kernel_rfl) (by kernel_rfl) (fun _ _ _ _ h => h) ?q3 ?r3
                case q3 =>
                  intro W hW
                  try simp only [List.getElem_toArray, List.getElem_cons_zero, List.getElem_cons_succ]
                  go_big_quiet_step (fail)
                  refine wpQuiet_nil ?_
                  rfl
                refine wpAnyV_takeS hTr hGr (A := ?A4) 4 rfl (by kernel_rfl) (by kernel_rfl) (by kernel_rfl) (fun _ _ _ _ h => h) ?q4 ?r4
                case q4 =>
                  intro W hW
                  try simp only [List.getElem_toArray, List.getElem_cons_zero, List.getElem_cons_succ]
                  go_big_quiet_step (fail)
                  refine wpQuiet_nil ?_
                  rfl
                refine wpAnyV_takeS hTr hGr (A := ?A5) 5 rfl (by kernel_rfl) (by kernel_rfl) (by kernel_rfl) (fun _ _ _ _ h => h) ?q5 ?r5
                case q5 =>
                  intro W hW
                  try simp only [List.getElem_toArray, List.getElem_cons_zero, List.getElem_cons_succ]
                  go_big_quiet_step (fail)
                  refine wpQuiet_nil ?_
                  rfl
                refine wpAnyV_takeS hTr hGr (A := ?A6) 6 rfl (by kernel_rfl) (by kernel_rfl) (by kernel_rfl) (fun _ _ _ _ h => h) ?q6 ?r6
                case q6 =>
                  intro W hW
                  try simp only [List.getElem_toArray, List.getElem_cons_zero, List.getElem_cons_succ]
                  go_big_quiet_step (fail)
                  refine wpQuiet_nil ?_
                  rfl
                refine wpAnyV_takeS hTr hGr (A := ?A7) 7 rfl (by kernel_rfl) (by kernel_rfl) (by kernel_rfl) (fun _ _ _ _ h => h) ?q7 ?r7
                case q7 =>
                  intro W hW
                  try simp only [List.getElem_toArray, List.getElem_cons_zero, List.getElem_cons_succ]
                  go_big_quiet_step (fail)
                  refine wpQuiet_nil ?_
                  rfl
                refine wpAnyV_takeS hTr hGr (A := ?A8) 8 rfl (by kernel_rfl) (by kernel_rfl) (by kernel_rfl) (fun _ _ _ _ h => h) ?q8 ?r8
                case q8 =>
                  intro W hW
                  try simp only [List.getElem_toArray, List.getElem_cons_zero, List.getElem_cons_succ]
                  go_big_quiet_step (fail)
                  refine wpQuiet_nil ?_
                  rfl
                refine wpAnyV_takeS hTr hGr (A := ?A9) 9 rfl (by kernel_rfl) (by kernel_rfl) (by kernel_rfl) (fun _ _ _ _ h => h) ?q9 ?r9
                case q9 =>
                  intro W hW
                  try simp only [List.getElem_toArray, List.getElem_cons_zero, List.getElem_cons_succ]
                  go_big_quiet_step (fail)
                  refine wpQuiet_nil ?_
                  rfl
                refine wpAnyV_takeS hTr hGr (A := ?A10) 10 rfl (by kernel_rfl) (by kernel_rfl) (by kernel_rfl) (fun _ _ _ _ h => h) ?q10 ?r10
                case q10 =>
                  intro W hW
                  try simp only [List.getElem_toArray, List.getElem_cons_zero, List.getElem_cons_succ]
                  go_big_quiet_step (fail)
                  refine wpQuiet_nil ?_
                  rfl
                refine wpAnyV_takeS hTr hGr (A := ?A11) 11 rfl (by kernel_rfl) (by kernel_rfl) (by kernel_rfl) (fun _ _ _ _ h => h) ?q11 ?r11
                case q11 =>
                  intro W hW
                  try simp only [List.getElem_toArray, List.getElem_cons_zero, List.getElem_cons_succ]
                  go_big_quiet_step (fail)
                  refine wpQuiet_nil ?_
                  rfl
                refine wpAnyV_takeS hTr hGr (A := ?A12) 12 rfl (by kernel_rfl) (by kernel_rfl) (by kernel_rfl) (fun _ _ _ _ h => h) ?q12 ?r12
                case q12 =>
                  intro W hW
                  try simp only [List.getElem_toArray, List.getElem_cons_zero, List.getElem_cons_succ]
                  go_big_quiet_step (fail)
                  refine wpQuiet_nil ?_
                  rfl
                refine wpAnyV_takeS hTr hGr (A := ?A13) 13 rfl (by kernel_rfl) (by kernel_rfl) (by kernel_rfl) (fun _ _ _ _ h => h) ?q13 ?r13
                case q13 =>
                  intro W hW
                  try simp only [List.getElem_toArray, List.getElem_cons_zero, List.getElem_cons_succ]
                  go_big_quiet_step (fail)
                  refine wpQuiet_nil ?_
                  rfl
                refine wpAnyV_takeS hTr hGr (A := ?A14) 14 rfl (by kernel_rfl) (by kernel_rfl) (by kernel_rfl) (fun _ _ _ _ h => h) ?q14 ?r14
                case q14 =>
                  intro W hW
                  try simp only [List.getElem_toArray, List.getElem_cons_zero, List.getElem_cons_succ]
                  go_big_quiet_step (fail)
                  refine wpQuiet_nil ?_
                  rfl
                refine wpAnyV_takeS hTr hGr (A := ?A15) 15 rfl (by kernel_rfl) (by kernel_rfl) (by kernel_rfl) (fun _ _ _ _ h => h) ?q15 ?r15
                case q15 =>
                  intro W hW
                  try simp only [List.getElem_toArray, List.getElem_cons_zero, List.getElem_cons_succ]
                  go_big_quiet_step (fail)
                  refine wpQuiet_nil ?_
                  rfl
                refine wpAnyV_takeS hTr hGr (A := ?A16) 16 rfl (by kernel_rfl) (by kernel_rfl) (by kernel_rfl) (fun _ _ _ _ h => h) ?q16 ?r16
                case q16 =>
                  intro W hW
                  have hW1 := hW hB6; have hxW : Box W bx _ _ := (hW1.block bx hbD).trans xe6; have cxW := hxW.cell; have lxW := hxW.lt
                  try simp only [List.getElem_toArray, List.getElem_cons_zero, List.getElem_cons_succ]
                  go_big_quiet_step (fail)
                  refine wpQuiet_nil ?_
                  rfl
                refine wpAnyV_takeS hTr hGr (A := ?A17) 17 rfl (by kernel_rfl) (by kernel_rfl) (by kernel_rfl) (fun _ _ _ _ h => h) ?q17 ?r17
                case q17 =>
                  intro W hW
                  try simp only [List.getElem_toArray, List.getElem_cons_zero, List.getElem_cons_succ]
                  go_big_quiet_step (fail)
                  refine wpQuiet_nil ?_
                  rfl
                refine wpAnyV_takeS hTr hGr (A := ?A18) 18 rfl (by kernel_rfl) (by kernel_rfl) (by kernel_rfl) (fun _ _ _ _ h => h) ?q18 ?r18
                case q18 =>
                  intro W hW
                  have hW1 := hW hB6; have hxW : Box W bx _ _ := (hW1.block bx hbD).trans xe6; have cxW := hxW.cell; have lxW := hxW.lt
                  try simp only [List.getElem_toArray, List.getElem_cons_zero, List.getElem_cons_succ]
                  go_big_quiet_step (fail)
                  refine wpQuiet_nil ?_
                  rfl
                refine wpAnyV_one 19 (by kernel_rfl) ?_
                intro W hW
                obtain ⟨X, rfl⟩ := GW.of hW
                have pmX := pm6.grow X.grow
                have xeX : Box X.world bx _ _ := Box.gw xe6
                refine wpOp_step rfl (fun K hK => ?_)
                go_simp
                (with_reducible refine (mdo_p M ⟨md, ex, false, false, false, 0, 0, false⟩ 0 kd b row col sh al ct _ pmX.mo (by omega) hv).mono ?_)
                rintro e w7 ⟨rfl, hmo, hbm, hma⟩
                have pm7 := pmX.mdo hmo hbm hma
                have hB7 : D ≤ w7.heap.size := Nat.le_of_lt pm7.pt.lt
                have xe7 : Box w7 bx _ _ := ((Bar2.right (D := D) hbm).block bx (by omega) (by omega) xeX.lt).trans xeX
                go_simp
                refine hK _ _ ⟨SB.bar2 (Bar2.right (D := D) hbm) (Nat.le_refl _) (by omega), ?_⟩
                clear hK K hmo hbm hma pmX xeX hW X pm6 xe6 hB6
                try simp only [Act.put, List.getElem_toArray, List.getElem_cons_zero, List.getElem_cons_succ, List.setIfInBounds_toArray, List.set_cons_zero, List.set_cons_succ]
                refine wpAnyV_one 20 (by kernel_rfl) ?_
                intro W hW
                obtain ⟨X, rfl⟩ := GW.of hW
                have pmX := pm7.grow X.grow
                have xeX : Box X.world bx _ _ := Box.gw xe7
                refine wpOp_step rfl (fun K hK => ?_)
                go_simp
                (with_reducible refine (does_ok D 0 ⟨md, ex, false, false, false, 0, 0, false⟩ kd b row col sh al ct _ _ pmX.pt (ht.below pmX.bl) hg hv rfl).mono ?_)
                rintro e w8 ⟨rfl, hpt, hkp⟩
                have pm8 := pmX.does hpt hkp
                have hB8 : D ≤ w8.heap.size := Nat.le_of_lt pm8.pt.lt
                have xe8 : Box w8 bx _ _ := ((Bar2.left (M := M) hkp.1).block bx (by omega) (by omega) xeX.lt).trans xeX
                go_simp
                refine hK _ _ ⟨SB.bar2 (Bar2.left (M := M) hkp.1) (Nat.le_refl _) (by omega), ?_⟩
                clear hK K hpt hkp pmX xeX hW X pm7 xe7 hB7
                try simp only [Act.put, List.getElem_toArray, List.getElem_cons_zero, List.getElem_cons_succ, List.setIfInBounds_toArray, List.set_cons_zero, List.set_cons_succ]
                refine wpAnyV_takeS hTr hGr (A := ?A21) 21 rfl (by kernel_rfl) (by kernel_rfl) (by kernel_rfl) (fun _ _ _ _ h => h) ?q21 ?r21
                case q21 =>
                  intro W hW
                  try simp only [List.getElem_toArray, List.getElem_cons_zero, List.getElem_cons_succ]
                  go_big_quiet_step (fail)
                  refine wpQuiet_nil ?_
                  rfl
                refine wpAnyV_takeS hTr hGr (A := ?A22) 22 rfl (by kernel_rfl) (by kernel_rfl) (by kernel_rfl) (fun _ _ _ _ h => h) ?q22 ?r22
                case q22 =>
                  intro W hW
                  try simp only [List.getElem_toArray, List.getElem_cons_zero, List.getElem_cons_succ]
                  go_big_quiet_step (fail)
                  refine wpQuiet_nil ?_
                  rfl
                refine wpAnyV_done (by kernel_rfl) ?_ _
                intro W hW
                have pmW := pm8.grow hW
                go_wp2_with fail
                go_roundw
                case rel => exact ⟨k + 1, by omega, by go_num, pmW.bl⟩
                case measure => simp [intOf]; omega
    · go_wp2_with (first | (go_at_call 12; (with_reducible refine (known_any _ (ht.below hbel)).mono ?_); rintro e w1 ⟨rfl, hb⟩))
      go_ret
      exact ⟨rfl, bl_trans hbel hb⟩

set_option maxRecDepth 100000 in
theorem pointerCodes_lifted (os : Os) (started : os.Started) (H : Type) (enc : TypeId × Value → H) :
    ReturnsInHanded {} Tryd.checked os 3 .any (fun w args => (Rows.pointerCodesSpec.pre enc Tryd.prog Tryd.f3 [] false w args ∧ laidMetH Tryd.prog laid3 w) ∧ sizedMet enc Tryd.prog Tryd.f3 (OpenSpec.ofChange Rows.pointerCodesSpec) false w args)
      (Rows.pointerCodesSpec.post enc Tryd.prog Tryd.f3 false true false false) := by
  refine returnsInHanded_of_change_and (C := Tryd.checked) (X := fun w _ => laidMetH Tryd.prog laid3 w) (fun _ _ _ hh h => h.of_heap hh) Tryd.own started (by kernel_rfl) Tryd.func3
    (ChangeSpec.witness_shaped (enc := enc) (C := Tryd.checked) (os := os) (X := fun w _ => laidMetH Tryd.prog laid3 w) false (World.doorLaid Tryd.prog 400 os) #[.int .i64 0, .int .i64 0, .int .i64 0] 8 rfl (World.shaped_of_RefB (by kernel_rfl) (by kernel_rfl)) (by kernel_rfl) (by kernel_rfl) (by kernel_rfl) (door_met os _)) ?_
  intro W base args ds gs before hval0 hW _ _ hL _
  have hval : ∀ (j : Nat) t v, Tryd.f3.params[j]? = some t → args[j]? = some v → Value.okWide Tryd.prog W .any base t v := hval0
  have hW' := hW
  obtain ⟨p, q, hA0, hV, rfl, hfz, hnd⟩ := hW
  have hA : DataW.TrodAll enc Tryd.prog W 0 (fun _ => true) true Tryd.f3.params.toList args.toList ds p := hA0
  rw [Tryd.params3] at hA hval
  obtain ⟨v0, v1, v2, d0, d1, d2, p0, p1, p2, rfl, rfl, rfl, h0, h1, h2⟩ := trodAll_three hA
  obtain ⟨rfl, rfl⟩ := trodVars_none hV
  obtain ⟨row, rfl, _⟩ := open_num Tryd.underlying3 (hval 0 3 v0 rfl rfl) h0
  obtain ⟨col, rfl, _⟩ := open_num Tryd.underlying3 (hval 1 3 v1 rfl rfl) h1
  obtain ⟨but, rfl, _⟩ := open_num Tryd.underlying3 (hval 2 3 v2 rfl rfl) h2
  clear hA0 hval0
  have hT := tab_of_laid hL
  refine (codes_any row col but W hT).mono fun e W' ⟨he, hw⟩ => ?_
  exact ⟨_, he, post_law Tryd.laidOut rfl hW' (by kernel_rfl) rfl Tryd.underlying4 rfl hw⟩

theorem pointerCodes_row : Rows.PointerCodesSaid :=
  OpenClaim.holds_of_wide 3 Tryd.f3 rfl rfl rfl rfl rfl rfl rfl ⟨rfl, rfl, rfl, rfl, rfl⟩ rfl rfl rfl rfl rfl (by kernel_rfl) Tryd.func3 (by kernel_rfl)
    (of_decide_eq_true (by kernel_rfl)) (by unfold Func.isWrapper; first | (rw [if_pos (by decide +kernel)]; kernel_rfl) | (rw [if_neg (by decide +kernel)]; exact ⟨rfl, rfl⟩))
    (fun os started H enc _ => pointerCodes_lifted os started H enc)

set_option maxHeartbeats 8000000 in
set_option maxRecDepth 100000 in
/-- THE TIED CARD. -/
theorem pointerCodes_holds : Rows.PointerCodesCardSaid :=
  Claim7.holds_tied_plain_at .later [] [.data, .data, .data] true (true, "90dd721bd90d809665aaa20713420bf5ee549876cf151f823e6f04bd9bbf0cf1") false
    pointerCodes_row (fun _ h => by cases h) (by kernel_rfl) (fun _ h => by cases h) pointerCodes_row_tie rfl ⟨rfl, rfl⟩ (by kernel_rfl) rfl
    (fun f fn hf hfn => by
      obtain rfl : f = 3 := Option.some.inj ((show Tryd.prog.funcNamed "scrollback/scrollbacklaw50.PointerCodes" = some 3 by kernel_rfl).symm.trans hf) |>.symm
      obtain rfl : fn = Tryd.f3 := (Option.some.inj (Tryd.func3.symm.trans hfn)).symm
      exact ⟨by kernel_rfl, fun j t ht => by
        rw [Tryd.params3] at ht
        have hm : t ∈ [3, 3, 3] := by simpa using Array.mem_of_getElem? ht
        have hall : ([3, 3, 3].all fun u => !Tryd.prog.wantsStandIn u) = true := by kernel_rfl
        exact (show Tryd.prog.wantsStandIn t = false by simpa using List.all_eq_true.1 hall t hm)⟩)
    (by kernel_rfl)

end Go.Proofs.YtfhigmogcpocpaaDoor
