/- parser: ParserSteps returns true for every input. No condition. Printed by mk_pt.py. -/
import Derived.Test.YtpkkfcfkhiaggaaXM
import Derived.Test.YtpkkfcfkhiaggaaOpen
import Derived.Test.YtpkkfcfkhiaggaaLift
import Derived.ChangeSlices
import Derived.Lib.OthersKept
import Derived.Deep.LoopGhost
import Derived.Deep.CutBlock
import Derived.Deep.DeepCutAuto
import Derived.Outline
set_option linter.unusedSimpArgs false
set_option linter.unusedVariables false
set_option linter.unnecessarySimpa false
namespace Go.Proofs.Ytpkkfcfkhiaggaa
open Go.ChangeShapes Go.WideShapes Go.ChangeAt Go.RowKit

/-- The state of the law's loop. -/
structure StI (w wr : World) (D : Nat) (p : Ps) (s : Rs) (m : Nat) : Prop where
  pv : PV wr D (fun g => g = (w.heap.size + 1)) p
  sim : Sim p s
  d : s.d = []
  ok : ROk m s
  box : Box wr (w.heap.size + 1) #[.string (opS s.op), .string (strOfNums s.sq), .slice none 0 0] 35
  ne : D ≠ (w.heap.size + 1)
  lo : w.heap.size ≤ D
  bel : Below w.heap.size w wr
theorem OutX.iter {X : Nat → Prop} {w1 w2 : World} {k : Nat} {s : ByteArray} {pos : Nat} (h : OutX X w1 w2) (hk : X k) : OutX X w1 (w2.iterAt k s pos) :=
  ⟨h.os, h.tape, h.output, by rw [Lib.iterAt_size]; exact h.size, fun j hj hl => (Lib.iterAt_other w2 k j s pos (fun e => hj (e ▸ hk))).trans (h.block j hj hl)⟩
theorem StI.alloc_lt {w wr : World} {D : Nat} {p : Ps} {s : Rs} {m : Nat} (h : StI w wr D p s m) : D < wr.heap.size := h.pv.lt

set_option maxRecDepth 100000 in
set_option maxHeartbeats 8000000 in
theorem parserSteps_any (v : Value) (xs : List Int) (a t : Int) (w : World) (h : Rd w .i32 v xs) : Calls Try.prog 6 #[v, .int .i64 a, .int .i64 t] w fun e w' => e = .returned (.bool true) ∧ Below w.heap.size w w' := by
  have h0 := h
  obtain ⟨p, cap, rfl, l1, m1, c1⟩ := h
  unfold maxLen at m1
  by_cases hl : 100 < xs.length
  · clear c1
    go_enter Try.func6, Try.ntmps6
    go_wp2_with (go_at_call 9; (with_reducible refine (known_any _).mono ?_); rintro e w1 ⟨rfl, hb1⟩)
    go_ret
    exact ⟨rfl, hb1⟩
  · go_enter Try.func6, Try.ntmps6
    go_wp2_with fail
    go_loopw [7, 24] (fun pv i wr => ∃ k : Nat, k ≤ xs.length ∧ i = .int .i64 k ∧ ∃ D p s, pv = .pointer (some ⟨D, 0, none⟩) ∧ StI w wr D p s (4 * k)) (fun _ i _ => xs.length - (intOf i).toNat)
    case atStart =>
      refine ⟨0, by omega, rfl, w.heap.size, ps0, rs0, rfl, ⟨(PV.zero _ (Box.new w #[.slice none 0 0, .int .i64 0, .int .u8 0, .int .u8 0, .int .i64 0, .int .i32 0, .string ⟨#[]⟩, .int .i64 0, .int .i64 0, .int .i64 0, .int .i64 0, .int .i64 0, .int .i64 0, .int .i64 0, .int .i64 0, .int .i64 0, .int .i64 0, .int .i64 0, .int .i64 0, .int .i64 0, .int .i64 0, .int .i64 0, .int .i64 0, .int .i64 0, .bool false, .slice none 0 0] 31 rfl)).past (bl_alloc (Below.refl _ _) _), sim_start, rfl, ROk.zero, Box.new _ _ _ (by simp), by omega, Nat.le_refl _, bl_alloc (bl_alloc (Below.refl _ _) _) _⟩⟩
    case round =>
      obtain ⟨k, hk, rfl, D, q, s, rfl, hst⟩ := hrel
      by_cases hlt : k < xs.length
      · obtain ⟨b1, o1, rfl, q1, d1⟩ := Rd.at c1 l1 hlt
        have d3 : wr.cell? ⟨b1, o1 + k, none⟩ = some (.int .i32 xs[k]) := by rw [hst.bel.cell (p := ⟨b1, _, none⟩) q1]; exact d1
        have q2 := Nat.lt_of_lt_of_le q1 hst.bel.size
        clear c1 d1
        generalize xs[k] = r at *
        have z1 : (0 : Int) ≤ (k : Int) := by omega
        have z2 : (k : Int) < (xs.length : Int) := by omega
        by_cases ht : t = k
        · have HT := Lib.hid ht
          have xB := hst.box
          have hD := hst.alloc_lt
          go_upto_region 11 with (first | (go_at_call 19; (with_reducible refine (preset_any D _ q wr hst.pv).mono ?_); rintro e wr1 ⟨rfl, r1, r2⟩; have xB1 := xB.bar r1 (fun e => hst.ne e.symm); have yf := xB1.free; have yc := xB1.cell; have yl := xB1.lt))
          refine wp_name (fun Z => StI w Z D ps0 rs0 (4 * k)) ⟨r2.other (Bar3 _ _ _ _ _) hst.ne rfl, sim_start, rfl, ROk.zero.mono (Nat.zero_le _), set3 xB1 _ _ _, hst.ne, hst.lo, Bar.to_below (Bar.to_below hst.bel r1 hst.lo) (Bar3 _ _ _ _ _) (by omega)⟩ ?_
          rintro W2 hst2
          clear yf yc yl xB1 r1 r2
          by_cases ha : a = k
          · have HA := Lib.hid ha
            go_upto_region 15 with (first | (go_at_call 20; (with_reducible refine (pcopy_any D _ ps0 W2 hst2.pv).mono ?_); rintro e wc ⟨rfl, n1, n2, hbc⟩))
            have hD0 := hst2.alloc_lt
            have hB0 := hst2.box.lt
            have hcs := hbc.size
            have hcl := n1.lt
            have hne0 := hst2.ne
            have hlo0 := hst2.lo
            have hbel0 := hst2.bel
            have g1 : Below wc.heap.size wc (wc.alloc (.stringIter ⟨#[49, 59, 32, 113]⟩ 0)) := bl_alloc (Below.refl _ _) _
            have n3 : PV (wc.alloc (.stringIter ⟨#[49, 59, 32, 113]⟩ 0)) W2.heap.size (fun g => (g = (w.heap.size + 1) ∨ g = D) ∨ g = wc.heap.size) ps0 := (n1.add (Y := fun g => g = wc.heap.size) (fun g e => by omega)).past g1
            have n4 : PV (wc.alloc (.stringIter ⟨#[49, 59, 32, 113]⟩ 0)) D (fun g => g = (w.heap.size + 1) ∨ g = wc.heap.size) ps0 := (n2.add (Y := fun g => g = wc.heap.size) (fun g e => by omega)).past g1
            have xB0 : Box (wc.alloc (.stringIter ⟨#[49, 59, 32, 113]⟩ 0)) (w.heap.size + 1) #[.string (opS rs0.op), .string (strOfNums rs0.sq), .slice none 0 0] 35 := Box.past g1 (Box.past hbc hst2.box)
            have i0 : (wc.alloc (.stringIter ⟨#[49, 59, 32, 113]⟩ 0)).heap[wc.heap.size]? = some (.stringIter ⟨#[49, 59, 32, 113]⟩ 0) := World.iter_heap wc _ _
            have gs : (wc.alloc (.stringIter ⟨#[49, 59, 32, 113]⟩ 0)).heap.size = wc.heap.size + 1 := by simp
            have gb : Below w.heap.size w (wc.alloc (.stringIter ⟨#[49, 59, 32, 113]⟩ 0)) := bl_trans (bl_trans hbel0 hbc) g1
            go_wp2_with fail
            go_loopg [] 5 (fun n wi => ∃ j : Nat, j + n = 5 ∧ wi.heap[wc.heap.size]? = some (.stringIter ⟨#[49, 59, 32, 113]⟩ j) ∧ OutX (fun g => g = D ∨ g = wc.heap.size) (wc.alloc (.stringIter ⟨#[49, 59, 32, 113]⟩ 0)) wi ∧ ∃ p1, PV wi D (fun g => g = (w.heap.size + 1) ∨ g = wc.heap.size) p1)
            case atStart => exact ⟨0, rfl, i0, OutX.refl _ _, _, n4⟩
            case round =>
              obtain ⟨j, hj, hit, hout, p1, hp1⟩ := hrel
              have hos := hout.size
              by_cases hj4 : j < 4
              · obtain ⟨ch, hch⟩ : ∃ ch : Int, Hid (∀ ty, (Instr.next (.pointer (some ⟨wc.heap.size, 0, none⟩)) true ty).run Try.prog wr = .ok (.tuple #[.bool true, .int .i64 j, .int .i32 ch]) (wr.iterAt wc.heap.size ⟨#[49, 59, 32, 113]⟩ (j + 1))) := by
                  have hsz : (⟨#[49, 59, 32, 113]⟩ : ByteArray).size = 4 := rfl
                  refine ⟨_, fun ty => Lib.run_next_ascii_at wr wc.heap.size ⟨#[49, 59, 32, 113]⟩ j ty hit (by omega) ?_⟩
                  obtain rfl | rfl | rfl | rfl : j = 0 ∨ j = 1 ∨ j = 2 ∨ j = 3 := by omega
                  all_goals exact of_decide_eq_true rfl
                have hnx := hch.out
                have hia : OutX (fun g => g = wc.heap.size) wr (wr.iterAt wc.heap.size ⟨#[49, 59, 32, 113]⟩ (j + 1)) := (OutX.refl _ _).iter rfl
                have hp2 := hp1.outx hia (fun g e => by subst e; exact ⟨by omega, .inr rfl⟩)
                have his := Lib.iterAt_heap wr wc.heap.size ⟨#[49, 59, 32, 113]⟩ j (j + 1) hit
                have hiz := Lib.iterAt_size wr wc.heap.size ⟨#[49, 59, 32, 113]⟩ (j + 1)
                have ho2 := hout.iter (k := wc.heap.size) (s := ⟨#[49, 59, 32, 113]⟩) (pos := j + 1) (.inr rfl)
                have cP := pstep_any D _ p1 ch _ hp2 (fun g e => by rw [hiz]; rcases e with e | e <;> omega)
                generalize hwn : wr.iterAt wc.heap.size ⟨#[49, 59, 32, 113]⟩ (j + 1) = wn at *
                clear hit hia hwn hch
                go_wp2_with (first | (go_at_call 18; (with_reducible refine cP.mono ?_); rintro e w2 ⟨v2, zs, rfl, m1, m2, m3, m4⟩))
                go_roundg (4 - j)
                case measure => omega
                case rel => exact ⟨j + 1, by omega, (m3.block wc.heap.size (by omega) (by omega)).trans his, ho2.bar m3 (.inl rfl), _, m4.mono (fun g h => .inl h)⟩
              · have hsz : (⟨#[49, 59, 32, 113]⟩ : ByteArray).size = 4 := rfl
                have hnx := fun ty => Lib.run_next_end_at (P := Try.prog) wr wc.heap.size ⟨#[49, 59, 32, 113]⟩ j ty hit (by omega)
                go_upto_region 20 with fail
                have hst3 : StI w wr W2.heap.size ps0 rs0 (4 * k) := ⟨(n3.outx hout (fun g e => by rcases e with e | e; exact ⟨by omega, .inl (.inr e)⟩; exact ⟨by omega, .inr e⟩)).mono (fun g h => .inl (.inl h)), hst2.sim, hst2.d, hst2.ok, hout.box xB0 (fun e => by rcases e with e | e <;> omega), by omega, by omega, OutX.after gb hout (fun g e => by rcases e with e | e <;> omega)⟩
                clear hnx hit hp1 n1 n2 n3 n4 hout
                have xB := hst3.box
                have yc := xB.cell
                have yl := xB.lt
                have hD := hst3.alloc_lt
                obtain ⟨hs1, hs2⟩ := step_sim r hst3.sim
                obtain ⟨ho1, ho2⟩ := rstep_ok r hst3.ok
                have cS := fun Z => rxstep_any rs0 none 0 0 r Z hst3.ok.op hst3.ok.bt (by have := hst3.ok.le; omega)
                have hdn : (rsStep rs0 r).1.d = [] := ho2.trans hst3.d
                have hd2 : (rsStep rs0 r).1.d.length = 0 := by rw [hdn]; rfl
                have cP : ∀ Z, Below wr.heap.size wr Z → Calls Try.prog 18 #[.pointer (some ⟨W2.heap.size, 0, none⟩), .int .i32 r] Z (Stepd (W2.heap.size) (fun g => g = (w.heap.size + 1)) Z (psStep ps0 r)) := fun Z hZ => pstep_any _ _ ps0 r Z (hst3.pv.past hZ) (fun g e => by subst e; have := hZ.size; omega)
                have cL : ∀ Z X, PV Z (W2.heap.size) X (psStep ps0 r).1 → Calls Try.prog 14 #[.pointer (some ⟨W2.heap.size, 0, none⟩), .agg #[.string (opS (rsStep rs0 r).1.op), .string (strOfNums (rsStep rs0 r).1.sq), .slice none 0 0]] Z fun e w' => e = .returned (.bool true) ∧ Below Z.heap.size Z w' := fun Z X h => by
                  have := looks_any _ X _ _ none 0 _ Z h hs1 ho1 (by omega)
                  rw [hd2] at this
                  exact this
                have HS2 := Lib.hid hs2
                have HD := Lib.hid hdn
                clear hs2 hdn ho2 hd2
                generalize psStep ps0 r = q2 at *
                generalize rsStep rs0 r = s2 at *
                unfold RSt at cS
                go_wp2_with (first | (go_at_call 21; (with_reducible refine (cS _).mono ?_); rintro e w1 ⟨v1, ys, rfl, k1, k2, hb1⟩; have xN := Box.new w1 #[.string (opS s2.1.op), .string (strOfNums s2.1.sq), .slice none 0 0] 35 rfl; have hW1 : Below wr.heap.size wr (w1.alloc (.cells #[.string (opS s2.1.op), .string (strOfNums s2.1.sq), .slice none 0 0] 35)) := bl_alloc hb1 _; have hsb1 := hb1.size) | (go_at_call 18; (with_reducible refine (cP _ hW1).mono ?_); rintro e w2 ⟨v2, zs, rfl, m1, m2, m3, m4⟩; have hsb2 : w1.heap.size + 1 ≤ w2.heap.size := (by have := m3.size; simpa using this); have hA : RdA w2 v2 s2.2 := (m1.trans HS2.out) ▸ m2.rd; have hB : RdA w2 v1 s2.2 := k1 ▸ ((k2.kept (bl_alloc (Below.refl _ _) _)).bar m3 hD).rd; have xN2 := xN.bar m3 (by omega); have xB2 := (Box.past hW1 xB).bar m3 (fun e => hst3.ne e.symm)) | (go_at_call 12; (with_reducible refine (rsame_any _ _ s2.2 w2 hA hB).mono ?_); rintro e w3 ⟨rfl, hb3⟩; have hsb3 := hb3.size; have xN3 := Box.past hb3 xN2; have xB3 := Box.past hb3 xB2; have nc := xN3.cell; have nl := xN3.lt; have cL3 := cL w3 _ (m4.past hb3)) | (go_at_call 14; (with_reducible refine cL3.mono ?_); rintro e w4 ⟨rfl, hb4⟩; have xN4 := Box.past hb4 xN3; have xB4 := Box.past hb4 xB3; clear nc nl yc yl; have nc := xN4.cell; have nl := xN4.lt; have yc := xB4.cell; have yl := xB4.lt; have yf := xB4.free))
                go_roundw
                have hb5 := Bar3 (w.heap.size + 1) w4 (.string (opS s2.1.op)) (.string (strOfNums s2.1.sq)) (.slice none 0 0)
                have hp4 := (((m4.mono (fun g h => .inl h)).past hb3).past hb4).other hb5 hst3.ne rfl
                have hst9 : StI w (((w4.setCell ⟨(w.heap.size + 1), 0, none⟩ (.string (opS s2.1.op))).setCell ⟨(w.heap.size + 1), 1, none⟩ (.string (strOfNums s2.1.sq))).setCell ⟨(w.heap.size + 1), 2, none⟩ (.slice none 0 0)) (W2.heap.size) q2.1 s2.1 (4 * (k + 1)) := ⟨hp4, hs1, HD.out, ho1.mono (by omega), set3 xB4 _ _ _, hst3.ne, hst3.lo, Bar.to_below (bl_trans (bl_trans (Bar.to_below (bl_trans hst3.bel hW1) m3 hst3.lo) hb3) hb4) hb5 (by omega)⟩
                case rel => first | exact ⟨k + 1, by omega, by go_num, _, q2.1, s2.1, rfl, hst9⟩ | ((repeat apply Exists.intro); refine ⟨⟨k + 1, by omega, by go_num, _, q2.1, s2.1, rfl, hst9⟩, ?_⟩; rw [HT.out]; rw [HA.out]; rfl)
                case measure => simp [intOf]; omega
          · go_upto_region 20 with fail
            have xB := hst2.box
            have yc := xB.cell
            have yl := xB.lt
            have hD := hst2.alloc_lt
            obtain ⟨hs1, hs2⟩ := step_sim r hst2.sim
            obtain ⟨ho1, ho2⟩ := rstep_ok r hst2.ok
            have cS := fun Z => rxstep_any rs0 none 0 0 r Z hst2.ok.op hst2.ok.bt (by have := hst2.ok.le; omega)
            have hdn : (rsStep rs0 r).1.d = [] := ho2.trans hst2.d
            have hd2 : (rsStep rs0 r).1.d.length = 0 := by rw [hdn]; rfl
            have cP : ∀ Z, Below W2.heap.size W2 Z → Calls Try.prog 18 #[.pointer (some ⟨D, 0, none⟩), .int .i32 r] Z (Stepd (D) (fun g => g = (w.heap.size + 1)) Z (psStep ps0 r)) := fun Z hZ => pstep_any _ _ ps0 r Z (hst2.pv.past hZ) (fun g e => by subst e; have := hZ.size; omega)
            have cL : ∀ Z X, PV Z (D) X (psStep ps0 r).1 → Calls Try.prog 14 #[.pointer (some ⟨D, 0, none⟩), .agg #[.string (opS (rsStep rs0 r).1.op), .string (strOfNums (rsStep rs0 r).1.sq), .slice none 0 0]] Z fun e w' => e = .returned (.bool true) ∧ Below Z.heap.size Z w' := fun Z X h => by
              have := looks_any _ X _ _ none 0 _ Z h hs1 ho1 (by omega)
              rw [hd2] at this
              exact this
            have HS2 := Lib.hid hs2
            have HD := Lib.hid hdn
            clear hs2 hdn ho2 hd2
            generalize psStep ps0 r = q2 at *
            generalize rsStep rs0 r = s2 at *
            unfold RSt at cS
            go_wp2_with (first | (go_at_call 21; (with_reducible refine (cS _).mono ?_); rintro e w1 ⟨v1, ys, rfl, k1, k2, hb1⟩; have xN := Box.new w1 #[.string (opS s2.1.op), .string (strOfNums s2.1.sq), .slice none 0 0] 35 rfl; have hW1 : Below W2.heap.size W2 (w1.alloc (.cells #[.string (opS s2.1.op), .string (strOfNums s2.1.sq), .slice none 0 0] 35)) := bl_alloc hb1 _; have hsb1 := hb1.size) | (go_at_call 18; (with_reducible refine (cP _ hW1).mono ?_); rintro e w2 ⟨v2, zs, rfl, m1, m2, m3, m4⟩; have hsb2 : w1.heap.size + 1 ≤ w2.heap.size := (by have := m3.size; simpa using this); have hA : RdA w2 v2 s2.2 := (m1.trans HS2.out) ▸ m2.rd; have hB : RdA w2 v1 s2.2 := k1 ▸ ((k2.kept (bl_alloc (Below.refl _ _) _)).bar m3 hD).rd; have xN2 := xN.bar m3 (by omega); have xB2 := (Box.past hW1 xB).bar m3 (fun e => hst2.ne e.symm)) | (go_at_call 12; (with_reducible refine (rsame_any _ _ s2.2 w2 hA hB).mono ?_); rintro e w3 ⟨rfl, hb3⟩; have hsb3 := hb3.size; have xN3 := Box.past hb3 xN2; have xB3 := Box.past hb3 xB2; have nc := xN3.cell; have nl := xN3.lt; have cL3 := cL w3 _ (m4.past hb3)) | (go_at_call 14; (with_reducible refine cL3.mono ?_); rintro e w4 ⟨rfl, hb4⟩; have xN4 := Box.past hb4 xN3; have xB4 := Box.past hb4 xB3; clear nc nl yc yl; have nc := xN4.cell; have nl := xN4.lt; have yc := xB4.cell; have yl := xB4.lt; have yf := xB4.free))
            go_roundw
            have hb5 := Bar3 (w.heap.size + 1) w4 (.string (opS s2.1.op)) (.string (strOfNums s2.1.sq)) (.slice none 0 0)
            have hp4 := (((m4.mono (fun g h => .inl h)).past hb3).past hb4).other hb5 hst2.ne rfl
            have hst9 : StI w (((w4.setCell ⟨(w.heap.size + 1), 0, none⟩ (.string (opS s2.1.op))).setCell ⟨(w.heap.size + 1), 1, none⟩ (.string (strOfNums s2.1.sq))).setCell ⟨(w.heap.size + 1), 2, none⟩ (.slice none 0 0)) (D) q2.1 s2.1 (4 * (k + 1)) := ⟨hp4, hs1, HD.out, ho1.mono (by omega), set3 xB4 _ _ _, hst2.ne, hst2.lo, Bar.to_below (bl_trans (bl_trans (Bar.to_below (bl_trans hst2.bel hW1) m3 hst2.lo) hb3) hb4) hb5 (by omega)⟩
            case rel => first | exact ⟨k + 1, by omega, by go_num, _, q2.1, s2.1, rfl, hst9⟩ | ((repeat apply Exists.intro); refine ⟨⟨k + 1, by omega, by go_num, _, q2.1, s2.1, rfl, hst9⟩, ?_⟩; rw [HT.out]; rfl)
            case measure => simp [intOf]; omega
        · go_upto_region 11 with fail
          refine wp_name (fun Z => StI w Z D q s (4 * k)) hst ?_
          rintro W2 hst2
          clear hst d3
          by_cases ha : a = k
          · have HA := Lib.hid ha
            go_upto_region 15 with (first | (go_at_call 20; (with_reducible refine (pcopy_any D _ q W2 hst2.pv).mono ?_); rintro e wc ⟨rfl, n1, n2, hbc⟩))
            have hD0 := hst2.alloc_lt
            have hB0 := hst2.box.lt
            have hcs := hbc.size
            have hcl := n1.lt
            have hne0 := hst2.ne
            have hlo0 := hst2.lo
            have hbel0 := hst2.bel
            have g1 : Below wc.heap.size wc (wc.alloc (.stringIter ⟨#[49, 59, 32, 113]⟩ 0)) := bl_alloc (Below.refl _ _) _
            have n3 : PV (wc.alloc (.stringIter ⟨#[49, 59, 32, 113]⟩ 0)) W2.heap.size (fun g => (g = (w.heap.size + 1) ∨ g = D) ∨ g = wc.heap.size) q := (n1.add (Y := fun g => g = wc.heap.size) (fun g e => by omega)).past g1
            have n4 : PV (wc.alloc (.stringIter ⟨#[49, 59, 32, 113]⟩ 0)) D (fun g => g = (w.heap.size + 1) ∨ g = wc.heap.size) q := (n2.add (Y := fun g => g = wc.heap.size) (fun g e => by omega)).past g1
            have xB0 : Box (wc.alloc (.stringIter ⟨#[49, 59, 32, 113]⟩ 0)) (w.heap.size + 1) #[.string (opS s.op), .string (strOfNums s.sq), .slice none 0 0] 35 := Box.past g1 (Box.past hbc hst2.box)
            have i0 : (wc.alloc (.stringIter ⟨#[49, 59, 32, 113]⟩ 0)).heap[wc.heap.size]? = some (.stringIter ⟨#[49, 59, 32, 113]⟩ 0) := World.iter_heap wc _ _
            have gs : (wc.alloc (.stringIter ⟨#[49, 59, 32, 113]⟩ 0)).heap.size = wc.heap.size + 1 := by simp
            have gb : Below w.heap.size w (wc.alloc (.stringIter ⟨#[49, 59, 32, 113]⟩ 0)) := bl_trans (bl_trans hbel0 hbc) g1
            go_wp2_with fail
            go_loopg [] 5 (fun n wi => ∃ j : Nat, j + n = 5 ∧ wi.heap[wc.heap.size]? = some (.stringIter ⟨#[49, 59, 32, 113]⟩ j) ∧ OutX (fun g => g = D ∨ g = wc.heap.size) (wc.alloc (.stringIter ⟨#[49, 59, 32, 113]⟩ 0)) wi ∧ ∃ p1, PV wi D (fun g => g = (w.heap.size + 1) ∨ g = wc.heap.size) p1)
            case atStart => exact ⟨0, rfl, i0, OutX.refl _ _, _, n4⟩
            case round =>
              obtain ⟨j, hj, hit, hout, p1, hp1⟩ := hrel
              have hos := hout.size
              by_cases hj4 : j < 4
              · obtain ⟨ch, hch⟩ : ∃ ch : Int, Hid (∀ ty, (Instr.next (.pointer (some ⟨wc.heap.size, 0, none⟩)) true ty).run Try.prog wr = .ok (.tuple #[.bool true, .int .i64 j, .int .i32 ch]) (wr.iterAt wc.heap.size ⟨#[49, 59, 32, 113]⟩ (j + 1))) := by
                  have hsz : (⟨#[49, 59, 32, 113]⟩ : ByteArray).size = 4 := rfl
                  refine ⟨_, fun ty => Lib.run_next_ascii_at wr wc.heap.size ⟨#[49, 59, 32, 113]⟩ j ty hit (by omega) ?_⟩
                  obtain rfl | rfl | rfl | rfl : j = 0 ∨ j = 1 ∨ j = 2 ∨ j = 3 := by omega
                  all_goals exact of_decide_eq_true rfl
                have hnx := hch.out
                have hia : OutX (fun g => g = wc.heap.size) wr (wr.iterAt wc.heap.size ⟨#[49, 59, 32, 113]⟩ (j + 1)) := (OutX.refl _ _).iter rfl
                have hp2 := hp1.outx hia (fun g e => by subst e; exact ⟨by omega, .inr rfl⟩)
                have his := Lib.iterAt_heap wr wc.heap.size ⟨#[49, 59, 32, 113]⟩ j (j + 1) hit
                have hiz := Lib.iterAt_size wr wc.heap.size ⟨#[49, 59, 32, 113]⟩ (j + 1)
                have ho2 := hout.iter (k := wc.heap.size) (s := ⟨#[49, 59, 32, 113]⟩) (pos := j + 1) (.inr rfl)
                have cP := pstep_any D _ p1 ch _ hp2 (fun g e => by rw [hiz]; rcases e with e | e <;> omega)
                generalize hwn : wr.iterAt wc.heap.size ⟨#[49, 59, 32, 113]⟩ (j + 1) = wn at *
                clear hit hia hwn hch
                go_wp2_with (first | (go_at_call 18; (with_reducible refine cP.mono ?_); rintro e w2 ⟨v2, zs, rfl, m1, m2, m3, m4⟩))
                go_roundg (4 - j)
                case measure => omega
                case rel => exact ⟨j + 1, by omega, (m3.block wc.heap.size (by omega) (by omega)).trans his, ho2.bar m3 (.inl rfl), _, m4.mono (fun g h => .inl h)⟩
              · have hsz : (⟨#[49, 59, 32, 113]⟩ : ByteArray).size = 4 := rfl
                have hnx := fun ty => Lib.run_next_end_at (P := Try.prog) wr wc.heap.size ⟨#[49, 59, 32, 113]⟩ j ty hit (by omega)
                go_upto_region 20 with fail
                have hst3 : StI w wr W2.heap.size q s (4 * k) := ⟨(n3.outx hout (fun g e => by rcases e with e | e; exact ⟨by omega, .inl (.inr e)⟩; exact ⟨by omega, .inr e⟩)).mono (fun g h => .inl (.inl h)), hst2.sim, hst2.d, hst2.ok, hout.box xB0 (fun e => by rcases e with e | e <;> omega), by omega, by omega, OutX.after gb hout (fun g e => by rcases e with e | e <;> omega)⟩
                clear hnx hit hp1 n1 n2 n3 n4 hout
                have xB := hst3.box
                have yc := xB.cell
                have yl := xB.lt
                have hD := hst3.alloc_lt
                obtain ⟨hs1, hs2⟩ := step_sim r hst3.sim
                obtain ⟨ho1, ho2⟩ := rstep_ok r hst3.ok
                have cS := fun Z => rxstep_any s none 0 0 r Z hst3.ok.op hst3.ok.bt (by have := hst3.ok.le; omega)
                have hdn : (rsStep s r).1.d = [] := ho2.trans hst3.d
                have hd2 : (rsStep s r).1.d.length = 0 := by rw [hdn]; rfl
                have cP : ∀ Z, Below wr.heap.size wr Z → Calls Try.prog 18 #[.pointer (some ⟨W2.heap.size, 0, none⟩), .int .i32 r] Z (Stepd (W2.heap.size) (fun g => g = (w.heap.size + 1)) Z (psStep q r)) := fun Z hZ => pstep_any _ _ q r Z (hst3.pv.past hZ) (fun g e => by subst e; have := hZ.size; omega)
                have cL : ∀ Z X, PV Z (W2.heap.size) X (psStep q r).1 → Calls Try.prog 14 #[.pointer (some ⟨W2.heap.size, 0, none⟩), .agg #[.string (opS (rsStep s r).1.op), .string (strOfNums (rsStep s r).1.sq), .slice none 0 0]] Z fun e w' => e = .returned (.bool true) ∧ Below Z.heap.size Z w' := fun Z X h => by
                  have := looks_any _ X _ _ none 0 _ Z h hs1 ho1 (by omega)
                  rw [hd2] at this
                  exact this
                have HS2 := Lib.hid hs2
                have HD := Lib.hid hdn
                clear hs2 hdn ho2 hd2
                generalize psStep q r = q2 at *
                generalize rsStep s r = s2 at *
                unfold RSt at cS
                go_wp2_with (first | (go_at_call 21; (with_reducible refine (cS _).mono ?_); rintro e w1 ⟨v1, ys, rfl, k1, k2, hb1⟩; have xN := Box.new w1 #[.string (opS s2.1.op), .string (strOfNums s2.1.sq), .slice none 0 0] 35 rfl; have hW1 : Below wr.heap.size wr (w1.alloc (.cells #[.string (opS s2.1.op), .string (strOfNums s2.1.sq), .slice none 0 0] 35)) := bl_alloc hb1 _; have hsb1 := hb1.size) | (go_at_call 18; (with_reducible refine (cP _ hW1).mono ?_); rintro e w2 ⟨v2, zs, rfl, m1, m2, m3, m4⟩; have hsb2 : w1.heap.size + 1 ≤ w2.heap.size := (by have := m3.size; simpa using this); have hA : RdA w2 v2 s2.2 := (m1.trans HS2.out) ▸ m2.rd; have hB : RdA w2 v1 s2.2 := k1 ▸ ((k2.kept (bl_alloc (Below.refl _ _) _)).bar m3 hD).rd; have xN2 := xN.bar m3 (by omega); have xB2 := (Box.past hW1 xB).bar m3 (fun e => hst3.ne e.symm)) | (go_at_call 12; (with_reducible refine (rsame_any _ _ s2.2 w2 hA hB).mono ?_); rintro e w3 ⟨rfl, hb3⟩; have hsb3 := hb3.size; have xN3 := Box.past hb3 xN2; have xB3 := Box.past hb3 xB2; have nc := xN3.cell; have nl := xN3.lt; have cL3 := cL w3 _ (m4.past hb3)) | (go_at_call 14; (with_reducible refine cL3.mono ?_); rintro e w4 ⟨rfl, hb4⟩; have xN4 := Box.past hb4 xN3; have xB4 := Box.past hb4 xB3; clear nc nl yc yl; have nc := xN4.cell; have nl := xN4.lt; have yc := xB4.cell; have yl := xB4.lt; have yf := xB4.free))
                go_roundw
                have hb5 := Bar3 (w.heap.size + 1) w4 (.string (opS s2.1.op)) (.string (strOfNums s2.1.sq)) (.slice none 0 0)
                have hp4 := (((m4.mono (fun g h => .inl h)).past hb3).past hb4).other hb5 hst3.ne rfl
                have hst9 : StI w (((w4.setCell ⟨(w.heap.size + 1), 0, none⟩ (.string (opS s2.1.op))).setCell ⟨(w.heap.size + 1), 1, none⟩ (.string (strOfNums s2.1.sq))).setCell ⟨(w.heap.size + 1), 2, none⟩ (.slice none 0 0)) (W2.heap.size) q2.1 s2.1 (4 * (k + 1)) := ⟨hp4, hs1, HD.out, ho1.mono (by omega), set3 xB4 _ _ _, hst3.ne, hst3.lo, Bar.to_below (bl_trans (bl_trans (Bar.to_below (bl_trans hst3.bel hW1) m3 hst3.lo) hb3) hb4) hb5 (by omega)⟩
                case rel => first | exact ⟨k + 1, by omega, by go_num, _, q2.1, s2.1, rfl, hst9⟩ | ((repeat apply Exists.intro); refine ⟨⟨k + 1, by omega, by go_num, _, q2.1, s2.1, rfl, hst9⟩, ?_⟩; rw [HA.out]; rfl)
                case measure => simp [intOf]; omega
          · go_upto_region 20 with fail
            have xB := hst2.box
            have yc := xB.cell
            have yl := xB.lt
            have hD := hst2.alloc_lt
            obtain ⟨hs1, hs2⟩ := step_sim r hst2.sim
            obtain ⟨ho1, ho2⟩ := rstep_ok r hst2.ok
            have cS := fun Z => rxstep_any s none 0 0 r Z hst2.ok.op hst2.ok.bt (by have := hst2.ok.le; omega)
            have hdn : (rsStep s r).1.d = [] := ho2.trans hst2.d
            have hd2 : (rsStep s r).1.d.length = 0 := by rw [hdn]; rfl
            have cP : ∀ Z, Below W2.heap.size W2 Z → Calls Try.prog 18 #[.pointer (some ⟨D, 0, none⟩), .int .i32 r] Z (Stepd (D) (fun g => g = (w.heap.size + 1)) Z (psStep q r)) := fun Z hZ => pstep_any _ _ q r Z (hst2.pv.past hZ) (fun g e => by subst e; have := hZ.size; omega)
            have cL : ∀ Z X, PV Z (D) X (psStep q r).1 → Calls Try.prog 14 #[.pointer (some ⟨D, 0, none⟩), .agg #[.string (opS (rsStep s r).1.op), .string (strOfNums (rsStep s r).1.sq), .slice none 0 0]] Z fun e w' => e = .returned (.bool true) ∧ Below Z.heap.size Z w' := fun Z X h => by
              have := looks_any _ X _ _ none 0 _ Z h hs1 ho1 (by omega)
              rw [hd2] at this
              exact this
            have HS2 := Lib.hid hs2
            have HD := Lib.hid hdn
            clear hs2 hdn ho2 hd2
            generalize psStep q r = q2 at *
            generalize rsStep s r = s2 at *
            unfold RSt at cS
            go_wp2_with (first | (go_at_call 21; (with_reducible refine (cS _).mono ?_); rintro e w1 ⟨v1, ys, rfl, k1, k2, hb1⟩; have xN := Box.new w1 #[.string (opS s2.1.op), .string (strOfNums s2.1.sq), .slice none 0 0] 35 rfl; have hW1 : Below W2.heap.size W2 (w1.alloc (.cells #[.string (opS s2.1.op), .string (strOfNums s2.1.sq), .slice none 0 0] 35)) := bl_alloc hb1 _; have hsb1 := hb1.size) | (go_at_call 18; (with_reducible refine (cP _ hW1).mono ?_); rintro e w2 ⟨v2, zs, rfl, m1, m2, m3, m4⟩; have hsb2 : w1.heap.size + 1 ≤ w2.heap.size := (by have := m3.size; simpa using this); have hA : RdA w2 v2 s2.2 := (m1.trans HS2.out) ▸ m2.rd; have hB : RdA w2 v1 s2.2 := k1 ▸ ((k2.kept (bl_alloc (Below.refl _ _) _)).bar m3 hD).rd; have xN2 := xN.bar m3 (by omega); have xB2 := (Box.past hW1 xB).bar m3 (fun e => hst2.ne e.symm)) | (go_at_call 12; (with_reducible refine (rsame_any _ _ s2.2 w2 hA hB).mono ?_); rintro e w3 ⟨rfl, hb3⟩; have hsb3 := hb3.size; have xN3 := Box.past hb3 xN2; have xB3 := Box.past hb3 xB2; have nc := xN3.cell; have nl := xN3.lt; have cL3 := cL w3 _ (m4.past hb3)) | (go_at_call 14; (with_reducible refine cL3.mono ?_); rintro e w4 ⟨rfl, hb4⟩; have xN4 := Box.past hb4 xN3; have xB4 := Box.past hb4 xB3; clear nc nl yc yl; have nc := xN4.cell; have nl := xN4.lt; have yc := xB4.cell; have yl := xB4.lt; have yf := xB4.free))
            go_roundw
            have hb5 := Bar3 (w.heap.size + 1) w4 (.string (opS s2.1.op)) (.string (strOfNums s2.1.sq)) (.slice none 0 0)
            have hp4 := (((m4.mono (fun g h => .inl h)).past hb3).past hb4).other hb5 hst2.ne rfl
            have hst9 : StI w (((w4.setCell ⟨(w.heap.size + 1), 0, none⟩ (.string (opS s2.1.op))).setCell ⟨(w.heap.size + 1), 1, none⟩ (.string (strOfNums s2.1.sq))).setCell ⟨(w.heap.size + 1), 2, none⟩ (.slice none 0 0)) (D) q2.1 s2.1 (4 * (k + 1)) := ⟨hp4, hs1, HD.out, ho1.mono (by omega), set3 xB4 _ _ _, hst2.ne, hst2.lo, Bar.to_below (bl_trans (bl_trans (Bar.to_below (bl_trans hst2.bel hW1) m3 hst2.lo) hb3) hb4) hb5 (by omega)⟩
            case rel => first | exact ⟨k + 1, by omega, by go_num, _, q2.1, s2.1, rfl, hst9⟩ | ((repeat apply Exists.intro); refine ⟨⟨k + 1, by omega, by go_num, _, q2.1, s2.1, rfl, hst9⟩, ?_⟩; rfl)
            case measure => simp [intOf]; omega
      · clear c1
        go_wp2_with (go_at_call 9; (with_reducible refine (known_any _).mono ?_); rintro e w8 ⟨rfl, hb8⟩)
        go_ret
        exact ⟨rfl, bl_trans hst.bel hb8⟩

set_option maxRecDepth 100000 in
theorem parserSteps_lifted (os : Os) (started : os.Started) (H : Type) (enc : TypeId × Value → H) :
    ReturnsInHanded {} Try.checked os 6 .any (Rows.parserStepsSpec.pre6 enc Try.prog Try.f6 Rows.parserStepsRow.domain false) (Rows.parserStepsSpec.post enc Try.prog Try.f6 false true false false) := by
  refine returnsInHanded_of_change (C := Try.checked) Try.own started (by kernel_rfl) Try.func6
    (ChangeSpec.witness6 (enc := enc) (C := Try.checked) false ⟨#[], #[.slice none 0 0, .int .i64 0, .int .i64 0], []⟩ 8 (by kernel_rfl) (by kernel_rfl) (by kernel_rfl) (by kernel_rfl)) ?_
  intro W base args ds gs before hval0 hW hcnd _
  have hval : ∀ (j : Nat) t v, Try.f6.params[j]? = some t → args[j]? = some v → Value.okWide Try.prog W .any base t v := hval0
  have hW' := hW
  obtain ⟨p, q, hA0, hV, rfl, hfz, hnd⟩ := hW
  have hA : DataW.TrodAll enc Try.prog W 0 (fun _ => true) true Try.f6.params.toList args.toList ds p := hA0
  rw [Try.params6] at hA hval
  obtain ⟨v0, v1, v2, d0, d1, d2, p0, p1, p2, rfl, rfl, rfl, h0, h1, h2⟩ := trodAll_three hA
  obtain ⟨rfl, rfl⟩ := trodVars_none hV
  obtain ⟨xs, hx, _⟩ := open_rd (k := .i32) Try.underlying45 Try.underlying21 (by kernel_rfl) (hval 0 _ v0 rfl rfl) h0
  obtain ⟨a, rfl, _⟩ := open_num Try.underlying3 (hval 1 3 v1 rfl rfl) h1
  obtain ⟨t, rfl, _⟩ := open_num Try.underlying3 (hval 2 3 v2 rfl rfl) h2
  clear hA0 hval0
  refine (parserSteps_any v0 xs a t W hx).mono fun e W' ⟨he, hw⟩ => ?_
  exact ⟨_, he, post_law Try.laidOut rfl hW' (by kernel_rfl) rfl Try.underlying4 rfl hw⟩

theorem parserSteps_holds : Rows.ParserStepsSaid :=
  OpenClaim.holds_of_wide 6 Try.f6 rfl rfl rfl rfl rfl rfl rfl ⟨rfl, rfl, rfl, rfl, rfl⟩ rfl rfl rfl rfl rfl (by kernel_rfl) Try.func6 (by kernel_rfl)
    (of_decide_eq_true (by kernel_rfl)) (by unfold Func.isWrapper; rw [if_neg (of_decide_eq_false (by kernel_rfl))]; exact ⟨rfl, rfl⟩)
    (fun os started H enc _ => parserSteps_lifted os started H enc)

end Go.Proofs.Ytpkkfcfkhiaggaa
