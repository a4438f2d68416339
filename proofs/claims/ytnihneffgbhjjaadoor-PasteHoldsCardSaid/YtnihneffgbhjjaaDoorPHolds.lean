/- paste: PasteHolds returns true for every input. No condition. -/
import Derived.Test.YtnihneffgbhjjaaDoorR
import Derived.Test.YtnihneffgbhjjaaDoorCards
import Derived.Test.YtnihneffgbhjjaaDoorTie
import Derived.SevenTiedAt
import Derived.Deep.CutBlock
import Derived.Deep.DeepCutAuto
import Derived.Outline
set_option linter.unusedSimpArgs false
set_option linter.unusedVariables false
set_option linter.unnecessarySimpa false
namespace Go.Proofs.YtnihneffgbhjjaaDoor
open Go.ChangeShapes Go.WideShapes Go.ChangeAt Go.RowKit

/-- What the laws of the chapter say of bytes. -/
structure Hd (l s : List Int) (size : Int) (xss : List (List Int)) : Prop where
  byte : ∀ x ∈ s, Byte x
  len : s.length ≤ 1000
  fix : clnB s = s
  left : leftR (decL s) = 0
  mal : malN s = 0
  lines : linesN s = linesN l
  runes : (clnD s).length = (clnD l).length
  esc : ∀ x ∈ s, x ≠ 27
  ctl : riskN l = false → ctlB s = false
  each : ∀ p ∈ xss, 0 < p.length ∧ (p.length : Int) ≤ size ∧ clnB p = p ∧ ∀ x ∈ p, Byte x
  flat : xss.flatten = s
theorem hd_of (l : List Int) (size : Int) (hl : ∀ x ∈ l, Byte x) (hlen : l.length ≤ 200) (hs : 4 ≤ size) : Hd l (clnB l) size ((pcsL size (clnD l)).map encL) := by
  have hc := clnD_cl l hl
  have hb : clnB l = encL (clnD l) := rfl
  have hcd := hc.clnD
  have hdec := hc.dec
  have hp := pcs_each size hs (clnD l).length (clnD l)
  refine ⟨clnB_byte l, by have := clnB_len l hl; omega, ?_, ?_, ?_, ?_, ?_, ?_, ?_, ?_, ?_⟩
  · rw [hb]; exact hc.clnB
  · rw [hb, hdec]; exact hc.left
  · unfold malN; rw [hb, hcd, occ3_encL _ hc.valid]; omega
  · unfold linesN; rw [hb, hcd]
  · rw [hb, hcd]
  · intro x hx; rw [hb] at hx; exact (hc.low x hx).1
  · intro hr; rw [hb]; exact hc.risk (risk_count l hr)
  · intro p hpm
    obtain ⟨q, hq, rfl⟩ := List.mem_map.1 hpm
    obtain ⟨h1, h2, h3⟩ := hp q hq
    have hcq : Cl q := fun r hr => hc r (h3 r hr)
    exact ⟨by have := (encL_length q).1; omega, h2, hcq.clnB, encL_byte q⟩
  · rw [encL_flat, pcsL_flat size hs]; exact hb.symm
theorem ctl_take (s : List Int) (k : Nat) (h : k < s.length) : ctlB (s.take (k + 1)) = (ctlB (s.take k) || (decide (s[k] < 32) && decide (s[k] ≠ 9))) := by
  unfold ctlB
  rw [List.take_succ_eq_append_getElem h, List.any_append]
  simp
theorem flat_take (xss : List (List Int)) (k : Nat) (h : k < xss.length) : (xss.take (k + 1)).flatten = (xss.take k).flatten ++ xss[k] := by
  rw [List.take_succ_eq_append_getElem h, List.flatten_append]; simp
theorem flat_len (xss : List (List Int)) (k : Nat) : (xss.take k).flatten.length ≤ xss.flatten.length := by
  conv => rhs; rw [← List.take_append_drop k xss]
  rw [List.flatten_append, List.length_append]; omega
set_option maxHeartbeats 8000000 in
set_option maxRecDepth 100000 in
theorem pasteHolds_any (vb : Value) (size : Int) (l : List Int) (w : World) (hg : Gl w) (hb : Rd w .u8 vb l) (hl : ∀ x ∈ l, Byte x) (hs : -9223372036854775808 ≤ size ∧ size ≤ 9223372036854775807) : Calls Tryd.prog 7 #[vb, .int .i64 size] w fun e w' => e = .returned (.bool true) ∧ Below w.heap.size w w' := by
  obtain ⟨p, cap, rfl, hlc, hcm, hcell⟩ := hb
  have hb : Rd w .u8 (.slice p l.length cap) l := ⟨p, cap, rfl, hlc, hcm, hcell⟩
  clear hcell
  unfold maxLen at hcm
  by_cases h : 200 < l.length
  · go_enter Tryd.func7, Tryd.ntmps7
    go_wp2_with (first | (go_at_call 8; (with_reducible refine (known_any _ hg).mono ?_); rintro e w1 ⟨rfl, hb1⟩))
    go_ret
    exact ⟨rfl, hb1⟩
  by_cases h4 : size < 4
  · go_enter Tryd.func7, Tryd.ntmps7
    go_wp2_with (first | (go_at_call 8; (with_reducible refine (known_any _ hg).mono ?_); rintro e w1 ⟨rfl, hb1⟩))
    go_ret
    exact ⟨rfl, hb1⟩
  have hsz : 4 ≤ size := by omega
  have hd := hd_of l size hl (by omega) hsz
  have cC := fun W (h : Below w.heap.size w W) => clean_ok _ l W (hb.below h) hl (by omega)
  unfold ClE at cC
  have cP := fun W (h : Below w.heap.size w W) => pieces_ok _ size l W (hg.below h) (hb.below h) hl (by omega) hsz hs.2
  unfold PcE at cP
  have cLl := fun W (h : Below w.heap.size w W) => look_ok _ l W (hg.below h) (hb.below h) hl (by omega)
  unfold LkE lookV at cLl
  generalize (pcsL size (clnD l)).map encL = xss at *
  generalize clnB l = s at *
  obtain ⟨hby, hsl, hfix, hleft, hmal, hlines, hrunes, hesc, hctl, heach, hflat⟩ := hd
  have cS := fun v W (hgW : Gl W) (h : Rd W .u8 v s) => cleans_ok v s W h hby (by omega)
  rw [hfix] at cS
  have cLs := fun v W (hgW : Gl W) (h : Rd W .u8 v s) => look_ok v s W hgW h hby (by omega)
  unfold LkE lookV at cLs
  rw [hleft, hmal, hlines, hrunes] at cLs
  have hrl : ∃ rl, riskN l = rl := ⟨_, rfl⟩
  obtain ⟨rl, hrl⟩ := hrl
  rw [hrl] at hctl cLl
  have hlen : l.length ≤ 200 := by omega
  clear hrl hfix hleft hmal hlines hrunes h4 h
  generalize riskN s = rs at *
  generalize linesN l = ln at *
  generalize (clnD l).length = dn at *
  generalize leftR (decL l) = lf at *
  generalize malN l = ml at *
  have HBY := Lib.hid hby
  have HES := Lib.hid hesc
  have HCT := Lib.hid hctl
  have HEA := Lib.hid heach
  have HFL := Lib.hid hflat
  clear hby hesc hctl heach hflat hl
  go_enter Tryd.func7, Tryd.ntmps7
  go_upto_region 4 with (first | (go_at_call 16; (with_reducible refine (cC _ (Below.refl _ _)).mono ?_); rintro e w1 ⟨v1, rfl, hrd1, hb1⟩; obtain ⟨p1, c1, hv1, hlc1, hcm1, hcell1⟩ := hrd1; subst hv1; have hrd1 : Rd w1 .u8 (.slice p1 s.length c1) s := ⟨p1, c1, rfl, hlc1, hcm1, hcell1⟩; unfold maxLen at hcm1))
  have ks := run_str (P := Tryd.prog) 22 9 5 Tryd.underlying22 Tryd.underlying5 Tryd.underlying9 hrd1
  go_wp2_with (first | (go_at_call 11; (with_reducible refine (cS _ _ (hg.below hb1) hrd1).mono ?_); rintro e w2 ⟨rfl, hb2⟩; have hb12 := bl_trans hb1 hb2) | (go_at_call 17; (with_reducible refine (cLs _ _ (hg.below hb12) (hrd1.below hb2)).mono ?_); rintro e w3 ⟨rfl, hb3⟩; have hb13 := bl_trans hb12 hb3) | (go_at_call 17; (with_reducible refine (cLl _ (bl_trans hb13 (bl_alloc (Below.refl _ _) _))).mono ?_); rintro e w4 ⟨rfl, hb4⟩; have hx4 : Box w4 w3.heap.size _ 33 := (hb4.block w3.heap.size (by simp)).trans (Box.new w3 _ _ rfl); have hx4c := hx4.cell; have hx4l := hx4.lt))
  have hb14 : Below w.heap.size w w4 := bl_trans (bl_trans hb13 (bl_alloc (Below.refl _ _) _)) hb4
  have hx5 : Box (w4.alloc (.cells #[.int .i64 ln, .int .i64 (dn : Int), .int .i64 (lf : Int), .int .i64 ml, .bool rl] 33)) w4.heap.size #[.int .i64 ln, .int .i64 (dn : Int), .int .i64 (lf : Int), .int .i64 ml, .bool rl] 33 := Box.new _ _ _ rfl
  have hb15 : Below w.heap.size w (w4.alloc (.cells #[.int .i64 ln, .int .i64 (dn : Int), .int .i64 (lf : Int), .int .i64 ml, .bool rl] 33)) := bl_alloc hb14 _
  have hb1_5 : Below w1.heap.size w1 (w4.alloc (.cells #[.int .i64 ln, .int .i64 (dn : Int), .int .i64 (lf : Int), .int .i64 ml, .bool rl] 33)) := bl_alloc (bl_trans (bl_trans (bl_trans hb2 hb3) (bl_alloc (Below.refl _ _) _)) hb4) _
  obtain ⟨w5, hw5⟩ : ∃ w5, w4.alloc (.cells #[.int .i64 ln, .int .i64 (dn : Int), .int .i64 (lf : Int), .int .i64 ml, .bool rl] 33) = w5 := ⟨_, rfl⟩
  obtain ⟨b9, hb9e⟩ : ∃ b9, w4.heap.size = b9 := ⟨_, rfl⟩
  rw [hw5] at hx5 hb15 hb1_5 ⊢
  rw [hb9e] at hx5 ⊢
  clear hw5 hb9e hx4c hx4l hx4 hb14 hb2 hb3 hb4 ks cC cS cLs cLl
  have hl9 := hx5.lt
  go_loopw [11, 12] (fun c i wr => ∃ k : Nat, k ≤ s.length ∧ i = .int .i64 k ∧ c = .bool (ctlB (s.take k)) ∧ Below w5.heap.size w5 wr) (fun _ i _ => s.length - (intOf i).toNat)
  case atStart => exact ⟨0, by omega, rfl, rfl, Below.refl _ _⟩
  case round =>
    obtain ⟨k, hk, rfl, rfl, hbel⟩ := hrel
    by_cases hlt : k < s.length
    · obtain ⟨b, off, rfl, hbl, hc⟩ := Rd.at hcell1 hlc1 hlt
      have hcr : wr.cell? ⟨b, off + k, none⟩ = some (.int .u8 s[k]) := ((bl_trans hb1_5 hbel).cell (p := ⟨b, off + k, none⟩) hbl).trans hc
      have hbw : b < wr.heap.size := Nat.lt_of_lt_of_le hbl (bl_trans hb1_5 hbel).size
      have HT := Lib.hid (ctl_take s k hlt)
      have hne := HES.out _ (List.getElem_mem hlt)
      have hxb := HBY.out _ (List.getElem_mem hlt)
      have hltI : (k : Int) < (s.length : Int) := by omega
      unfold Byte at hxb
      clear hc hcell1
      generalize s[k] = x at *
      generalize ctlB (s.take k) = c at *
      have n27 : (x == 27) = false := by (rw [beq_eq_false_iff_ne]; exact hne)
      clear hne
      cases c
      · have hcs : x = 9 ∨ (x < 32 ∧ x ≠ 9) ∨ 32 ≤ x := by omega
        rcases hcs with rfl | ⟨h1, h2⟩ | h1
        · go_wp2_with fail
          go_roundw
          case rel => first | exact ⟨k + 1, by omega, by go_num, by (rw [HT.out]; rfl), hbel⟩ | ((repeat apply Exists.intro); exact ⟨⟨k + 1, by omega, by go_num, by (rw [HT.out]; rfl), hbel⟩, rfl⟩)
          case measure => simp [intOf]; omega
        · have m9 : (x != 9) = true := by (rw [bne_iff_ne]; exact h2)
          have m9' : (x == 9) = false := by (rw [beq_eq_false_iff_ne]; exact h2)
          have HD : Hid ((decide (x < 32) && decide (x ≠ 9)) = true) := Lib.hid (by simp [h1, h2])
          clear h2
          go_wp2_with fail
          go_roundw
          case rel => first | exact ⟨k + 1, by omega, by go_num, by (rw [HT.out, HD.out]; rfl), hbel⟩ | ((repeat apply Exists.intro); exact ⟨⟨k + 1, by omega, by go_num, by (rw [HT.out, HD.out]; rfl), hbel⟩, rfl⟩)
          case measure => simp [intOf]; omega
        · have HD : Hid ((decide (x < 32) && decide (x ≠ 9)) = false) := Lib.hid (by rw [Bool.and_eq_false_iff]; exact .inl (by rw [decide_eq_false_iff_not]; omega))
          go_wp2_with fail
          go_roundw
          case rel => first | exact ⟨k + 1, by omega, by go_num, by (rw [HT.out, HD.out]; rfl), hbel⟩ | ((repeat apply Exists.intro); exact ⟨⟨k + 1, by omega, by go_num, by (rw [HT.out, HD.out]; rfl), hbel⟩, rfl⟩)
          case measure => simp [intOf]; omega
      · go_wp2_with fail
        go_roundw
        case rel => first | exact ⟨k + 1, by omega, by go_num, by (rw [HT.out]; rfl), hbel⟩ | ((repeat apply Exists.intro); exact ⟨⟨k + 1, by omega, by go_num, by (rw [HT.out]; rfl), hbel⟩, rfl⟩)
        case measure => simp [intOf]; omega
    · obtain rfl : k = s.length := by omega
      rw [List.take_length]
      obtain ⟨w6, hw6⟩ : ∃ w6 : World, w6 = wr := ⟨_, rfl⟩
      subst hw6
      have hx6 : Box w6 b9 _ _ := (hbel.block _ hl9).trans hx5
      have hx6c := hx6.cell
      have hx6l := hx6.lt
      have hbw6 := bl_trans hb15 hbel
      have hb1_6 := bl_trans hb1_5 hbel
      have hcc : (rl = true) ∨ (rl = false ∧ ctlB s = false) := by
        cases h : rl
        · exact .inr ⟨rfl, HCT.out h⟩
        · exact .inl rfl
      have HCC := Lib.hid hcc
      clear hcc HCT hcell1
      go_upto_region 17 with fail
      go_cut [109, 11] (fun t c wx => t = .bool false ∧ wx = w6)
      case first =>
        rcases HCC.out with rfl | ⟨rfl, h2⟩
        · go_wp2_with fail
          go_meet
          exact ⟨rfl, rfl⟩
        · rw [h2]
          go_wp2_with fail
          go_meet
          exact ⟨rfl, rfl⟩
      case rest =>
      obtain ⟨rfl, rfl⟩ := hcut
      clear HCC
      obtain ⟨w6, hw6⟩ : ∃ w6 : World, w6 = wc := ⟨_, rfl⟩
      subst hw6
      clear hx6c
      go_wp2_with (first | (go_at_call 15; (with_reducible refine (cP _ hbw6).mono ?_); rintro e w7 ⟨v7, rfl, hown7, hb7⟩; obtain ⟨pv, cv, hve, hlm, hat⟩ := hown7.shape; subst hve; unfold maxLen at hlm; have HA := Lib.hid hat; clear hat hown7))
      have hbw7 := bl_trans hbw6 hb7
      have hb1_7 := bl_trans hb1_6 hb7
      clear cP
      go_loopw [14, 15] (fun al i wr => ∃ k : Nat, k ≤ xss.length ∧ i = .int .i64 k ∧ Own wr w7.heap.size 5 .u8 al ((xss.take k).flatten) ∧ Below w7.heap.size w7 wr) (fun _ i _ => xss.length - (intOf i).toNat)
      case atStart => exact ⟨0, by omega, rfl, Own.nil _ _ _ _, Below.refl _ _⟩
      case round =>
        obtain ⟨k, hk, rfl, hown, hbel⟩ := hrel
        by_cases hlt : k < xss.length
        · obtain ⟨g, u, rfl, hgl, hcu, hou⟩ := HA.out k hlt
          obtain ⟨e1, e2, e3, e4⟩ := HEA.out _ (List.getElem_mem hlt)
          have hcu2 : wr.cell? ⟨g, k, none⟩ = some u := (hbel.cell (p := ⟨g, k, none⟩) hgl).trans hcu
          have hru := (hou.kept hbel).rd
          have hgw : g < wr.heap.size := Nat.lt_of_lt_of_le hgl hbel.size
          have hltI : (k : Int) < (xss.length : Int) := by omega
          have HFT := Lib.hid (flat_take xss k hlt)
          have hfl := flat_len xss k
          have hfl1 := flat_len xss (k + 1)
          rw [HFT.out, List.length_append, HFL.out] at hfl1
          rw [HFL.out] at hfl
          have hgG := hg.below (bl_trans hbw7 hbel)
          have cX : ∀ X : GW wr, Calls Tryd.prog 11 #[u, .string (strOfNums xss[k]), .int .i64 0] X.world fun e w' => e = .returned (.bool true) ∧ Below X.world.heap.size X.world w' := fun X => by
            have h := cleans_ok u xss[k] X.world (hru.below (GW.grow X)) e4 (by omega)
            rw [e3] at h
            exact h
          have kcX : ∀ X : GW wr, (convert 22 9 u).run Tryd.prog X.world = .ok (.string (strOfNums xss[k])) X.world := fun X => run_str (P := Tryd.prog) 22 9 5 Tryd.underlying22 Tryd.underlying5 Tryd.underlying9 (hru.below (GW.grow X))
          obtain ⟨pu, cu, hue, hq1, hq2, hq3⟩ := hru
          subst hue
          have hru : Rd wr .u8 (.slice pu xss[k].length cu) xss[k] := ⟨pu, cu, rfl, hq1, hq2, hq3⟩
          clear hcu hou e3 hq1 hq2 hq3
          generalize strOfNums xss[k] = S at *
          generalize xss[k] = ys at *
          generalize (xss.take k).flatten = pre at *
          have z0 : ((ys.length : Int) == 0) = false := by (rw [beq_eq_false_iff_ne]; omega)
          have z1 : (ys.length == 0) = false := by (rw [beq_eq_false_iff_ne]; omega)
          have z2 : decide (size < (ys.length : Int)) = false := by (rw [decide_eq_false_iff_not]; omega)
          go_upto_region 26 with fail
          first | refine wp_grow2 (by kernel_rfl) (by kernel_rfl) ?_ | refine wp_grow (by kernel_rfl) (by kernel_rfl) ?_
          repeat (go_big_quiet_step ((go_at_call 11; with_reducible exact GW.call (cX _))))
          refine wpQuiet_nil ?_
          rintro _ ⟨X, rfl⟩
          have hruX := hru.below (GW.grow X)
          have hownX := hown.kept (GW.grow X)
          have hszX : w7.heap.size ≤ X.world.heap.size := (bl_trans hbel (GW.grow X)).size
          go_wp2_with (first | (at_builtin; refine wpList_app rfl (.tmp 152) (.tmp 156) 22 5 .u8 1 rfl Tryd.underlying22 el8 w7.heap.size _ _ pre ys hownX hruX rfl rfl (by unfold maxLen; omega) (by omega) hszX ?_; intro v9 w9 hown9 hb9 hg9))
          go_roundw
          case rel => first | exact ⟨k + 1, by omega, by go_num, by (rw [HFT.out]; exact hown9), (bl_trans hbel (GW.grow X)).trans hb9⟩ | ((repeat apply Exists.intro); exact ⟨⟨k + 1, by omega, by go_num, by (rw [HFT.out]; exact hown9), (bl_trans hbel (GW.grow X)).trans hb9⟩, rfl⟩)
          case measure => simp [intOf]; omega
        · obtain rfl : k = xss.length := by omega
          rw [List.take_length, HFL.out] at hown
          have hrda := hown.rd
          have k1 := run_str (P := Tryd.prog) 22 9 5 Tryd.underlying22 Tryd.underlying5 Tryd.underlying9 hrda
          obtain ⟨pa, na, ca, hva⟩ := hrda.shape
          subst hva
          have k2 := run_str (P := Tryd.prog) 22 9 5 Tryd.underlying22 Tryd.underlying5 Tryd.underlying9 (hrd1.below (bl_trans hb1_7 hbel))
          have cK := known_any wr (hg.below (bl_trans hbw7 hbel))
          clear hown hrda
          go_wp2_with (first | (go_at_call 8; (with_reducible refine (cK).mono ?_); rintro e w8 ⟨rfl, hb8⟩))
          go_ret
          exact ⟨rfl, bl_trans (bl_trans hbw7 hbel) hb8⟩

set_option maxRecDepth 100000 in
theorem pasteHolds_lifted (os : Os) (started : os.Started) (H : Type) (enc : TypeId × Value → H) :
    ReturnsInHanded {} Tryd.checked os 7 .any (fun w args => (Rows.pasteHoldsSpec.pre enc Tryd.prog Tryd.f7 [] false w args ∧ laidMetH Tryd.prog laid2 w) ∧ sizedMet enc Tryd.prog Tryd.f7 (OpenSpec.ofChange Rows.pasteHoldsSpec) false w args)
      (Rows.pasteHoldsSpec.post enc Tryd.prog Tryd.f7 false true false false) := by
  refine handed_and_shaped (C := Tryd.checked) (X := fun w _ => laidMetH Tryd.prog laid2 w) (fun _ _ _ hh h => h.of_heap hh) Tryd.own started (by kernel_rfl) Tryd.func7
    (ChangeSpec.witness_shaped (enc := enc) (C := Tryd.checked) (os := os) (X := fun w _ => laidMetH Tryd.prog laid2 w) false (World.laidAll Tryd.prog os laid2) #[.slice none 0 0, .int .i64 0] 8 (World.laidAll_os _ _ _) (World.shaped_of_ZipB (by kernel_rfl) (by kernel_rfl)) (by kernel_rfl) (by kernel_rfl) (by kernel_rfl) (door_met os _)) ?_
  intro W base args ds gs before hval0 hW _ _ hL hsh _
  have hval : ∀ (j : Nat) t v, Tryd.f7.params[j]? = some t → args[j]? = some v → Value.okWide Tryd.prog W .any base t v := hval0
  have hW' := hW
  obtain ⟨p, q, hA0, hV, rfl, hfz, hnd⟩ := hW
  have hA : DataW.TrodAll enc Tryd.prog W 0 (fun _ => true) true Tryd.f7.params.toList args.toList ds p := hA0
  rw [Tryd.params7] at hA hval
  obtain ⟨v0, v1, d0, d1, p0, p1, rfl, rfl, rfl, h0, h1⟩ := trodAll_two hA
  obtain ⟨rfl, rfl⟩ := trodVars_none hV
  obtain ⟨xs, hrd, hwf⟩ := open_rd Tryd.underlying22 Tryd.underlying5 (by kernel_rfl) (hval 0 22 v0 rfl rfl) h0
  obtain ⟨n, rfl, hn⟩ := open_num Tryd.underlying3 (hval 1 3 v1 rfl rfl) h1
  clear hA0 hval0
  have hT := gl_of_laid hL hsh
  refine (pasteHolds_any _ n xs W hT hrd (fun x hx => wf_byte (hwf x hx)) (wf_i64 hn)).mono fun e W' ⟨he, hw⟩ => ?_
  exact ⟨_, he, post_law Tryd.laidOut rfl hW' (by kernel_rfl) rfl Tryd.underlying4 rfl hw⟩

theorem pasteHolds_row : Rows.PasteHoldsSaid :=
  OpenClaim.holds_of_wide 7 Tryd.f7 rfl rfl rfl rfl rfl rfl rfl ⟨rfl, rfl, rfl, rfl, rfl⟩ rfl rfl rfl rfl rfl (by kernel_rfl) Tryd.func7 (by kernel_rfl)
    (of_decide_eq_true (by kernel_rfl)) (by unfold Func.isWrapper; first | (rw [if_pos (by decide +kernel)]; kernel_rfl) | (rw [if_neg (by decide +kernel)]; exact ⟨rfl, rfl⟩))
    (fun os started H enc _ => pasteHolds_lifted os started H enc)

set_option maxHeartbeats 8000000 in
set_option maxRecDepth 100000 in
/-- THE TIED CARD. -/
theorem pasteHolds_holds : Rows.PasteHoldsCardSaid :=
  Claim7.holds_tied_plain_at .later [] [.data, .pinned] true (true, "4865bef8d02670118b7e3de5bc1c7e6eb07ffdb70b2ae0f3df0af0c1c64667ed") false
    pasteHolds_row (fun _ h => by cases h) (by kernel_rfl) (fun _ h => by cases h) pasteHolds_row_tie rfl ⟨rfl, rfl⟩ (by kernel_rfl) rfl
    (fun f fn hf hfn => by
      obtain rfl : f = 7 := Option.some.inj ((show Tryd.prog.funcNamed "scrollback/scrollbacklaw51.PasteHolds" = some 7 by kernel_rfl).symm.trans hf) |>.symm
      obtain rfl : fn = Tryd.f7 := (Option.some.inj (Tryd.func7.symm.trans hfn)).symm
      exact ⟨by kernel_rfl, fun j t ht => by
        rw [Tryd.params7] at ht
        have hm : t ∈ [22, 3] := by simpa using Array.mem_of_getElem? ht
        have hall : ([22, 3].all fun u => !Tryd.prog.wantsStandIn u) = true := by kernel_rfl
        exact (show Tryd.prog.wantsStandIn t = false by simpa using List.all_eq_true.1 hall t hm)⟩)
    (by kernel_rfl)

end Go.Proofs.YtnihneffgbhjjaaDoor
