/- paste: PasteLongs returns true for every input. No condition. -/
import Derived.Test.YtnihneffgbhjjaaDoorR
import Derived.OwnWalk
import Derived.Laws.MakeOwn
import Derived.Laws.OwnMore
import Derived.Test.YtnihneffgbhjjaaDoorCards
import Derived.Test.YtnihneffgbhjjaaDoorTie
import Derived.SevenTiedAt
import Derived.Deep.CutBlock
import Derived.Deep.DeepCutAuto
import Derived.Outline
set_option linter.unusedSimpArgs false
set_option linter.unusedVariables false
set_option linter.unnecessarySimpa false
namespace Go.Proofs.YtnihneffgbhjjaaDoor
open Go.ChangeShapes Go.WideShapes Go.ChangeAt Go.RowKit

theorem enc1_one (c : Int) (h : 0 ≤ c ∧ c < 128) : enc1 c = [c] := by
  unfold enc1
  rw [if_pos (by unfold validR; simp; omega)]
  unfold enc0
  rw [if_pos h.2]
theorem encL_rep (c : Int) (h : 0 ≤ c ∧ c < 128) (n : Nat) : encL (List.replicate n c) = List.replicate n c := by
  induction n with
  | zero => rfl
  | succ n ih =>
    have e : encL (List.replicate (n + 1) c) = enc1 c ++ encL (List.replicate n c) := rfl
    rw [e, ih, enc1_one c h]
    rfl
theorem rep_cl (c : Int) (h : 32 ≤ c ∧ c ≤ 126) (n : Nat) : Cl (List.replicate n c) := fun r hr => by
  rw [List.eq_of_mem_replicate hr]
  exact ⟨by unfold validR; simp; omega, by omega, by unfold outR; rw [decide_eq_false_iff_not]; omega⟩
theorem rep_clnD (c : Int) (h : 32 ≤ c ∧ c ≤ 126) (n : Nat) : clnD (List.replicate n c) = List.replicate n c := by
  have := (rep_cl c h n).clnD
  rwa [encL_rep c (by omega)] at this
theorem rep_clnB (c : Int) (h : 32 ≤ c ∧ c ≤ 126) (n : Nat) : clnB (List.replicate n c) = List.replicate n c := by
  have := (rep_cl c h n).clnB
  rwa [encL_rep c (by omega)] at this
theorem rep_decL (c : Int) (h : 32 ≤ c ∧ c ≤ 126) (n : Nat) : decL (List.replicate n c) = List.replicate n c := by
  have := (rep_cl c h n).dec
  rwa [encL_rep c (by omega)] at this
theorem rep_occ (c : Int) (h : c ≠ 239) (n : Nat) : occ3 (List.replicate n c) = 0 := by
  induction n with
  | zero => rfl
  | succ n ih => rw [List.replicate_succ, occ3_skip _ _ h, ih]
theorem rep_look (c : Int) (h : 32 ≤ c ∧ c ≤ 126) (n : Nat) (hn : 0 < n) : lookV (List.replicate n c) = #[.int .i64 1, .int .i64 (n : Int), .int .i64 0, .int .i64 0, .bool false] := by
  have hc1 : (List.replicate n c).count 13 = 0 := by rw [List.count_replicate]; rw [if_neg (by simp; omega)]
  have hc2 : (List.replicate n c).count 65533 = 0 := by rw [List.count_replicate]; rw [if_neg (by simp; omega)]
  have hne : List.replicate n c ≠ [] := by intro e; have := congrArg List.length e; simp at this; omega
  have hl : linesN (List.replicate n c) = 1 := by unfold linesN; rw [rep_clnD c h, if_neg hne, hc1]; rfl
  have hm : malN (List.replicate n c) = 0 := by unfold malN; rw [rep_clnD c h, hc2, rep_occ c (by omega)]; rfl
  have hf : leftR (decL (List.replicate n c)) = 0 := by rw [rep_decL c h]; exact (rep_cl c h n).left
  have hr : riskN (List.replicate n c) = false := by unfold riskN; rw [hl, hf]; decide
  unfold lookV
  rw [hl, hm, hf, hr, rep_clnD c h, List.length_replicate]
  rfl
theorem rep_fit (size : Int) (c : Int) (h : 32 ≤ c ∧ c ≤ 126) : ∀ (m : Nat) (n0 : Int), n0 ≤ size → fit size n0 (List.replicate m c) = (List.replicate (min m (size - n0).toNat) c, List.replicate (m - (size - n0).toNat) c) := by
  intro m
  induction m with
  | zero => intro n0 _; simp [fit]
  | succ m ih =>
    intro n0 hn
    rw [List.replicate_succ]
    have e1 : ((enc1 c).length : Int) = 1 := by rw [enc1_one c (by omega)]; rfl
    unfold fit
    rw [e1]
    by_cases hc : size < n0 + 1
    · have e : (size - n0).toNat = 0 := by omega
      rw [if_pos hc, e, Nat.min_zero, Nat.sub_zero, List.replicate_succ]
      rfl
    · rw [if_neg hc, ih (n0 + 1) (by omega)]
      have e : (size - n0).toNat = (size - (n0 + 1)).toNat + 1 := by omega
      rw [e, Nat.succ_min_succ, List.replicate_succ, Nat.add_sub_add_right]
theorem rep_pcs (c : Int) (h : 32 ≤ c ∧ c ≤ 126) (n S : Nat) (hS : 4 ≤ S) (h1 : S < n) (h2 : n ≤ S + S) : (pcsL (S : Int) (List.replicate n c)).length = 2 := by
  obtain ⟨m, rfl⟩ : ∃ m, n = m + 1 := ⟨n - 1, by omega⟩
  have e : ((S : Int) - 0).toNat = S := by omega
  have e4 : (4 : Int) ≤ (S : Int) := by omega
  have e0 : (0 : Int) ≤ (S : Int) := by omega
  rw [List.replicate_succ, pcsL_cons (S : Int) e4, ← List.replicate_succ, rep_fit (S : Int) c h (m + 1) 0 e0, e]
  simp only
  obtain ⟨k, hk⟩ : ∃ k, m + 1 - S = k + 1 := ⟨m - S, by omega⟩
  rw [hk, List.replicate_succ, List.length_cons, pcsL_cons (S : Int) e4, ← List.replicate_succ, rep_fit (S : Int) c h (k + 1) 0 e0, e]
  simp only
  have e2 : k + 1 - S = 0 := by omega
  rw [e2]
  rfl
theorem rep_set (c : Int) (n k : Nat) (h : k < n) : (List.replicate k c ++ List.replicate (n - k) 0).set k c = List.replicate (k + 1) c ++ List.replicate (n - (k + 1)) 0 := by
  rw [List.set_append, if_neg (by simp), List.length_replicate, Nat.sub_self]
  obtain ⟨m, hm⟩ : ∃ m, n - k = m + 1 := ⟨n - k - 1, by omega⟩
  rw [hm, List.replicate_succ, List.set_cons_zero, show n - (k + 1) = m by omega, List.replicate_succ']
  simp
set_option maxHeartbeats 8000000 in
set_option maxRecDepth 100000 in
theorem pasteLongs_any (more c : Int) (w : World) (hg : Gl w) (hm : -9223372036854775808 ≤ more ∧ more ≤ 9223372036854775807) (hc : Byte c) : Calls Tryd.prog 6 #[.int .i64 more, .int .u8 c] w fun e w' => e = .returned (.bool true) ∧ Below w.heap.size w w' := by
  have hc' := hc
  unfold Byte at hc'
  by_cases hcond : -2 ≤ more ∧ more ≤ 2 ∧ 32 ≤ c ∧ c ≤ 126
  case neg =>
    have hcs : more < -2 ∨ (-2 ≤ more ∧ 2 < more) ∨ ((-2 ≤ more ∧ more ≤ 2) ∧ c < 32) ∨ ((-2 ≤ more ∧ more ≤ 2) ∧ 32 ≤ c ∧ 126 < c) := by omega
    clear hcond
    rcases hcs with h1 | ⟨h1, h2⟩ | ⟨⟨h1, h2⟩, h3⟩ | ⟨⟨h1, h2⟩, h3, h4⟩
    all_goals
      go_enter Tryd.func6, Tryd.ntmps6
      go_wp2_with (first | (go_at_call 8; (with_reducible refine (known_any _ hg).mono ?_); rintro e w1 ⟨rfl, hb1⟩))
      go_ret
      exact ⟨rfl, hb1⟩
  case pos =>
    obtain ⟨h1, h2, h3, h4⟩ := hcond
    obtain ⟨n, hn⟩ : ∃ n : Nat, (1048576 : Int) + more = (n : Int) := ⟨(1048576 + more).toNat, by omega⟩
    have hn1 : 1048574 ≤ n := by omega
    have hn2 : n ≤ 1048578 := by omega
    have hmn : (0 < more ∧ 1048576 < n) ∨ (more ≤ 0 ∧ n ≤ 1048576) := by omega
    obtain ⟨i0, hi, hz0, hz1, hz2⟩ := info_parts el8
    go_enter Tryd.func6, Tryd.ntmps6
    go_upto_region 4 with fail
    clear hn
    go_wp2_with (first | (refine wpList_make_full _ rfl (.tmp 27) (.tmp 27) 22 rfl w.heap.size 5 i0 (.int .u8 0) 1 Tryd.underlying22 hi hz0 hz1 .i64 .i64 _ _ n rfl rfl rfl rfl (by rw [hz2]; omega) (by unfold maxLen; omega) (Nat.le_refl _) ?_; intro w1 hown hg1))
    have hown0 : Own w1 w.heap.size 5 .u8 (.slice (some ⟨w.heap.size, 0, none⟩) n n) (List.replicate 0 c ++ List.replicate (n - 0) 0) := by
      have e : (madeCells (Value.int IntKind.u8 0).cells (n * 1)).toList = (List.replicate 0 c ++ List.replicate (n - 0) 0).map (Value.int .u8) := by
        rw [Nat.mul_one, Nat.sub_zero, show (Value.int IntKind.u8 0).cells = #[Value.int IntKind.u8 0] from rfl]
        have := toList_madeCells_one (.int .u8 0) n
        simpa using this
      unfold Own
      rw [e] at hown
      simpa using hown
    have hb1 : Below w.heap.size w w1 := app_below (Below.refl _ _) hg1 (fun g h => by cases h)
    clear hown hg1 hi hz0 hz1 hz2
    go_loopw [7] (fun i wr => ∃ k : Nat, k ≤ n ∧ i = .int .i64 k ∧ Own wr w.heap.size 5 .u8 (.slice (some ⟨w.heap.size, 0, none⟩) n n) (List.replicate k c ++ List.replicate (n - k) 0) ∧ Below w.heap.size w wr) (fun i _ => n - (intOf i).toNat)
    case atStart => exact ⟨0, by omega, rfl, hown0, hb1⟩
    case round =>
      clear hown0
      obtain ⟨k, hk, rfl, hown, hbel⟩ := hrel
      by_cases hlt : k < n
      · obtain ⟨q1, q2, q3⟩ := hown.cellAt rfl k (by simp; omega)
        have hst := hown.store rfl k (by simp; omega) c
        rw [rep_set c n k hlt] at hst
        have hltI : (k : Int) < (n : Int) := by omega
        clear hown
        go_wp2_with fail
        go_roundw
        case rel => first | exact ⟨k + 1, by omega, by go_num, hst, hbel.setCell (p := ⟨w.heap.size, k, none⟩) (Nat.le_refl _) _⟩ | ((repeat apply Exists.intro); exact ⟨⟨k + 1, by omega, by go_num, hst, hbel.setCell (p := ⟨w.heap.size, k, none⟩) (Nat.le_refl _) _⟩, rfl⟩)
        case measure => simp [intOf]; omega
      · obtain rfl : k = n := by omega
        rw [Nat.sub_self, List.replicate_zero, List.append_nil] at hown
        have hrd := hown.rd
        have hby : ∀ x ∈ List.replicate k c, Byte x := fun x hx => by rw [List.eq_of_mem_replicate hx]; exact hc
        have hgl := hg.below hbel
        have hll : (List.replicate k c).length = k := List.length_replicate
        rcases hmn with ⟨hm1, hk2⟩ | ⟨hm1, hk2⟩
        · have cC := fun W (h : Below wr.heap.size wr W) => cleans_no _ _ W (hrd.below h) (by rw [hll]; exact hk2)
          have cP := fun W (h : Below wr.heap.size wr W) => pastes_no _ true _ W (hrd.below h) (by rw [hll]; exact hk2)
          have cL := fun W (h : Below wr.heap.size wr W) => looks_no _ _ W (hrd.below h) (by rw [hll]; exact hk2)
          have cQ := fun W (h : Below wr.heap.size wr W) => parts_no _ 0 _ W (hrd.below h) (by rw [hll]; exact hk2)
          clear hown hrd hby hll
          go_wp2_with (first | (go_at_call 11; (with_reducible refine (cC _ (Below.refl _ _)).mono ?_); rintro e w2 ⟨rfl, hb2⟩) | (go_at_call 12; (with_reducible refine (cP _ hb2).mono ?_); rintro e w3 ⟨rfl, hb3⟩; have hb23 := bl_trans hb2 hb3) | (go_at_call 13; (with_reducible refine (cL _ hb23).mono ?_); rintro e w4 ⟨rfl, hb4⟩; have hb24 := bl_trans hb23 hb4) | (go_at_call 14; (with_reducible refine (cQ _ hb24).mono ?_); rintro e w5 ⟨rfl, hb5⟩; have hb25 := bl_trans hb24 hb5) | (go_at_call 8; (with_reducible refine (known_any _ (hgl.below hb25)).mono ?_); rintro e w6 ⟨rfl, hb6⟩))
          go_ret
          exact ⟨rfl, bl_trans (bl_trans hbel hb25) hb6⟩
        · have cC := fun W (h : Below wr.heap.size wr W) => cleans_ok _ _ W (hrd.below h) hby (by rw [hll]; exact hk2)
          rw [rep_clnB c ⟨h3, h4⟩] at cC
          have cL := fun W (h : Below wr.heap.size wr W) => looks_ok _ _ W (hgl.below h) (hrd.below h) hby (by rw [hll]; exact hk2)
          rw [rep_look c ⟨h3, h4⟩ k (by omega)] at cL
          have cQ := fun W (h : Below wr.heap.size wr W) => pieces_ok _ 524288 _ W (hgl.below h) (hrd.below h) hby (by rw [hll]; exact hk2) (by omega) (by omega)
          rw [rep_clnD c ⟨h3, h4⟩] at cQ
          unfold PcE at cQ
          have hpl : ((pcsL 524288 (List.replicate k c)).map encL).length = 2 := by
            rw [List.length_map]
            exact rep_pcs c ⟨h3, h4⟩ k 524288 (by omega) (by omega) (by omega)
          have HPL := Lib.hid hpl
          have kcX := fun W (h : Below wr.heap.size wr W) => run_str (P := Tryd.prog) 22 9 5 Tryd.underlying22 Tryd.underlying5 Tryd.underlying9 (hrd.below h)
          clear hown hrd hby hll hpl
          generalize (pcsL 524288 (List.replicate k c)).map encL = xss at *
          generalize strOfNums (List.replicate k c) = S at *
          go_wp2_with (first | (go_at_call 15; (with_reducible refine (cQ _ (Below.refl _ _)).mono ?_); rintro e w2 ⟨v8, rfl, hos, hb2⟩; obtain ⟨pv, cv, hve, _, _⟩ := hos.shape; subst hve; have hpl2 := HPL.out; rw [hpl2]; clear hpl2; have kc2 := kcX w2 hb2; clear hos) | (go_at_call 11; (with_reducible refine (cC _ hb2).mono ?_); rintro e w3 ⟨rfl, hb3⟩; have hb23 := bl_trans hb2 hb3) | (go_at_call 13; (with_reducible refine (cL _ hb23).mono ?_); rintro e w4 ⟨rfl, hb4⟩; have hb24 := bl_trans hb23 hb4) | (go_at_call 8; (with_reducible refine (known_any _ (hgl.below hb24)).mono ?_); rintro e w6 ⟨rfl, hb6⟩))
          go_ret
          exact ⟨rfl, bl_trans (bl_trans hbel hb24) hb6⟩

set_option maxRecDepth 100000 in
theorem pasteLongs_lifted (os : Os) (started : os.Started) (H : Type) (enc : TypeId × Value → H) :
    ReturnsInHanded {} Tryd.checked os 6 .any (fun w args => (Rows.pasteLongsSpec.pre enc Tryd.prog Tryd.f6 [] false w args ∧ laidMetH Tryd.prog laid2 w) ∧ sizedMet enc Tryd.prog Tryd.f6 (OpenSpec.ofChange Rows.pasteLongsSpec) false w args)
      (Rows.pasteLongsSpec.post enc Tryd.prog Tryd.f6 false true false false) := by
  refine handed_and_shaped (C := Tryd.checked) (X := fun w _ => laidMetH Tryd.prog laid2 w) (fun _ _ _ hh h => h.of_heap hh) Tryd.own started (by kernel_rfl) Tryd.func6
    (ChangeSpec.witness_shaped (enc := enc) (C := Tryd.checked) (os := os) (X := fun w _ => laidMetH Tryd.prog laid2 w) false (World.laidAll Tryd.prog os laid2) #[.int .i64 0, .int .u8 0] 8 (World.laidAll_os _ _ _) (World.shaped_of_ZipB (by kernel_rfl) (by kernel_rfl)) (by kernel_rfl) (by kernel_rfl) (by kernel_rfl) (door_met os _)) ?_
  intro W base args ds gs before hval0 hW _ _ hL hsh _
  have hval : ∀ (j : Nat) t v, Tryd.f6.params[j]? = some t → args[j]? = some v → Value.okWide Tryd.prog W .any base t v := hval0
  have hW' := hW
  obtain ⟨p, q, hA0, hV, rfl, hfz, hnd⟩ := hW
  have hA : DataW.TrodAll enc Tryd.prog W 0 (fun _ => true) true Tryd.f6.params.toList args.toList ds p := hA0
  rw [Tryd.params6] at hA hval
  obtain ⟨v0, v1, d0, d1, p0, p1, rfl, rfl, rfl, h0, h1⟩ := trodAll_two hA
  obtain ⟨rfl, rfl⟩ := trodVars_none hV
  obtain ⟨m, rfl, hmw⟩ := open_num Tryd.underlying3 (hval 0 3 v0 rfl rfl) h0
  obtain ⟨c, rfl, hc⟩ := open_num Tryd.underlying5 (hval 1 5 v1 rfl rfl) h1
  clear hA0 hval0
  have hT := gl_of_laid hL hsh
  refine (pasteLongs_any m c W hT (wf_i64 hmw) (wf_byte hc)).mono fun e W' ⟨he, hw⟩ => ?_
  exact ⟨_, he, post_law Tryd.laidOut rfl hW' (by kernel_rfl) rfl Tryd.underlying4 rfl hw⟩

theorem pasteLongs_row : Rows.PasteLongsSaid :=
  OpenClaim.holds_of_wide 6 Tryd.f6 rfl rfl rfl rfl rfl rfl rfl ⟨rfl, rfl, rfl, rfl, rfl⟩ rfl rfl rfl rfl rfl (by kernel_rfl) Tryd.func6 (by kernel_rfl)
    (of_decide_eq_true (by kernel_rfl)) (by unfold Func.isWrapper; first | (rw [if_pos (by decide +kernel)]; kernel_rfl) | (rw [if_neg (by decide +kernel)]; exact ⟨rfl, rfl⟩))
    (fun os started H enc _ => pasteLongs_lifted os started H enc)

set_option maxHeartbeats 8000000 in
set_option maxRecDepth 100000 in
/-- THE TIED CARD. -/
theorem pasteLongs_holds : Rows.PasteLongsCardSaid :=
  Claim7.holds_tied_plain_at .later [] [.data, .pinned] true (true, "4865bef8d02670118b7e3de5bc1c7e6eb07ffdb70b2ae0f3df0af0c1c64667ed") false
    pasteLongs_row (fun _ h => by cases h) (by kernel_rfl) (fun _ h => by cases h) pasteLongs_row_tie rfl ⟨rfl, rfl⟩ (by kernel_rfl) rfl
    (fun f fn hf hfn => by
      obtain rfl : f = 6 := Option.some.inj ((show Tryd.prog.funcNamed "scrollback/scrollbacklaw51.PasteLongs" = some 6 by kernel_rfl).symm.trans hf) |>.symm
      obtain rfl : fn = Tryd.f6 := (Option.some.inj (Tryd.func6.symm.trans hfn)).symm
      exact ⟨by kernel_rfl, fun j t ht => by
        rw [Tryd.params6] at ht
        have hm : t ∈ [3, 5] := by simpa using Array.mem_of_getElem? ht
        have hall : ([3, 5].all fun u => !Tryd.prog.wantsStandIn u) = true := by kernel_rfl
        exact (show Tryd.prog.wantsStandIn t = false by simpa using List.all_eq_true.1 hall t hm)⟩)
    (by kernel_rfl)

end Go.Proofs.YtnihneffgbhjjaaDoor
