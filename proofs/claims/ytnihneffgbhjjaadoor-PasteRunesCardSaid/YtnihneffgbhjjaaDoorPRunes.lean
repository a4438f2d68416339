/- paste: PasteRunes returns true for every input. No condition. -/
import Derived.Test.YtnihneffgbhjjaaDoorQ
import Derived.Test.YtnihneffgbhjjaaDoorCards
import Derived.Test.YtnihneffgbhjjaaDoorTie
import Derived.SevenTiedAt
import Derived.Deep.CutBlock
import Derived.Deep.DeepCutAuto
import Derived.Outline
set_option linter.unusedSimpArgs false
set_option linter.unusedVariables false
set_option linter.unnecessarySimpa false
namespace Go.Proofs.YtnihneffgbhjjaaDoor
open Go.ChangeShapes Go.WideShapes Go.ChangeAt Go.RowKit

/-- The runes that there are. -/
def okR2 (l : List Int) : List Int := l.filter fun r => validR r
theorem okR2_take (l : List Int) (k : Nat) (h : k < l.length) : okR2 (l.take (k + 1)) = okR2 (l.take k) ++ (if validR l[k] = true then [l[k]] else []) := by
  unfold okR2
  rw [List.take_succ_eq_append_getElem h, List.filter_append]
  congr 1
  cases hv : validR l[k] <;> simp [List.filter, hv]
set_option maxHeartbeats 4000000 in
set_option maxRecDepth 100000 in
theorem pasteRunes_any (vb : Value) (size : Int) (l : List Int) (w : World) (hg : Gl w) (hb : Rd w .i32 vb l) (hs : -9223372036854775808 ≤ size ∧ size ≤ 9223372036854775807) : Calls Tryd.prog 4 #[vb, .int .i64 size] w fun e w' => e = .returned (.bool true) ∧ Below w.heap.size w w' := by
  obtain ⟨p, cap, rfl, hlc, hcm, hcell⟩ := hb
  unfold maxLen at hcm
  by_cases h : 60 < l.length
  · go_enter Tryd.func4, Tryd.ntmps4
    go_wp2_with (first | (go_at_call 8; (with_reducible refine (known_any _ hg).mono ?_); rintro e w1 ⟨rfl, hb1⟩))
    go_ret
    exact ⟨rfl, hb1⟩
  · go_enter Tryd.func4, Tryd.ntmps4
    go_wp2_with fail
    go_loopw [5, 6] (fun v i wr => ∃ k : Nat, k ≤ l.length ∧ i = .int .i64 k ∧ Own wr w.heap.size 21 .i32 v (okR2 (l.take k)) ∧ Below w.heap.size w wr) (fun _ i _ => l.length - (intOf i).toNat)
    case atStart => exact ⟨0, by omega, rfl, Own.nil _ _ _ _, Below.refl _ _⟩
    case round =>
      obtain ⟨k, hk, rfl, hown, hbel⟩ := hrel
      by_cases hlt : k < l.length
      · obtain ⟨b, off, rfl, hbl, hc⟩ := Rd.at hcell hlc hlt
        have hcr : wr.cell? ⟨b, off + k, none⟩ = some (.int .i32 l[k]) := (hbel.cell (p := ⟨b, off + k, none⟩) hbl).trans hc
        have HT := Lib.hid (okR2_take l k hlt)
        have hle : (okR2 (l.take k)).length ≤ k := Nat.le_trans (List.length_filter_le _ _) (List.length_take_le _ _)
        have hbs := hbel.size
        have hbw : b < wr.heap.size := Nat.lt_of_lt_of_le hbl hbs
        clear hc hcell
        generalize l[k] = r at *
        generalize okR2 (l.take k) = pre at *
        have hltI : (k : Int) < (l.length : Int) := by omega
        have hcs : (r < 0) ∨ (1114111 < r) ∨ (55296 ≤ r ∧ r ≤ 57343) ∨ (0 ≤ r ∧ r < 55296) ∨ (57343 < r ∧ r ≤ 1114111) := by omega
        rcases hcs with h1 | h1 | ⟨h1, h2⟩ | ⟨h1, h2⟩ | ⟨h1, h2⟩
        · have HV : Hid (okR2 (l.take (k + 1)) = pre) := Lib.hid (by rw [HT.out, if_neg (by unfold validR; simp; omega), List.append_nil])
          go_wp2_with fail
          go_roundw
          case rel => first | exact ⟨k + 1, by omega, by go_num, by (rw [HV.out]; exact hown), hbel⟩ | ((repeat apply Exists.intro); exact ⟨⟨k + 1, by omega, by go_num, by (rw [HV.out]; exact hown), hbel⟩, rfl⟩)
          case measure => simp [intOf]; omega
        · have HV : Hid (okR2 (l.take (k + 1)) = pre) := Lib.hid (by rw [HT.out, if_neg (by unfold validR; simp; omega), List.append_nil])
          go_wp2_with fail
          go_roundw
          case rel => first | exact ⟨k + 1, by omega, by go_num, by (rw [HV.out]; exact hown), hbel⟩ | ((repeat apply Exists.intro); exact ⟨⟨k + 1, by omega, by go_num, by (rw [HV.out]; exact hown), hbel⟩, rfl⟩)
          case measure => simp [intOf]; omega
        · have HV : Hid (okR2 (l.take (k + 1)) = pre) := Lib.hid (by rw [HT.out, if_neg (by unfold validR; simp; omega), List.append_nil])
          go_wp2_with fail
          go_roundw
          case rel => first | exact ⟨k + 1, by omega, by go_num, by (rw [HV.out]; exact hown), hbel⟩ | ((repeat apply Exists.intro); exact ⟨⟨k + 1, by omega, by go_num, by (rw [HV.out]; exact hown), hbel⟩, rfl⟩)
          case measure => simp [intOf]; omega
        all_goals
          have HV : Hid (okR2 (l.take (k + 1)) = pre ++ [r]) := Lib.hid (by rw [HT.out, if_pos (by unfold validR; simp; omega)])
          go_wp2_with (first | (at_builtin; refine wpList_app rfl _ _ 25 21 .i32 4 rfl Tryd.underlying25 el32 w.heap.size _ _ pre [r] (Own.kept hown (bl_alloc (Below.refl _ _) _)) (Rd.lit1 _ _ _ _ _ rfl) rfl rfl (by simp only [List.length_singleton, maxLen]; omega) (by simp only [List.length_singleton]; omega) (by simp; omega) ?_; intro v' w3 hown3 hb3 hg3))
          go_roundw
          case rel => first | exact ⟨k + 1, by omega, by go_num, by (rw [HV.out]; exact hown3), hbel.trans ((Below.alloc (Below.refl _ _) (by omega) _).trans hb3)⟩ | ((repeat apply Exists.intro); exact ⟨⟨k + 1, by omega, by go_num, by (rw [HV.out]; exact hown3), hbel.trans ((Below.alloc (Below.refl _ _) (by omega) _).trans hb3)⟩, rfl⟩)
          case measure => simp [intOf]; omega
      · obtain rfl : k = l.length := by omega
        rw [List.take_length] at hown
        have hrd := hown.rd
        have hle : (okR2 l).length ≤ l.length := List.length_filter_le _ _
        obtain ⟨pv, nv, cv, hve⟩ := hrd.shape
        subst hve
        have cE := fun W (h : Below wr.heap.size wr W) => encode_any _ (okR2 l) W (hrd.below h) (by omega)
        unfold RetOwn at cE
        have hel := (encL_length (okR2 l)).2
        have hby := encL_byte (okR2 l)
        generalize encL (okR2 l) = bs at *
        clear hown hrd
        go_wp2_with (first | (go_at_call 10; (with_reducible refine (cE _ (Below.refl _ _)).mono ?_); rintro e w2 ⟨u, rfl, hou, hb2⟩; have hru := hou.rd; obtain ⟨pu, nu, cu, hue⟩ := hru.shape; subst hue; have hbr2 := bl_trans hbel hb2) | (go_at_call 9; (with_reducible refine (right_any _ size bs _ (hg.below hbr2) hru hby (by omega) hs.1 hs.2).mono ?_); rintro e w3 ⟨rfl, hb3⟩; have hbr3 := bl_trans hbr2 hb3) | (go_at_call 8; (with_reducible refine (known_any _ (hg.below hbr3)).mono ?_); rintro e w4 ⟨rfl, hb4⟩))
        go_ret
        exact ⟨rfl, bl_trans hbr3 hb4⟩

set_option maxRecDepth 100000 in
theorem pasteRunes_lifted (os : Os) (started : os.Started) (H : Type) (enc : TypeId × Value → H) :
    ReturnsInHanded {} Tryd.checked os 4 .any (fun w args => (Rows.pasteRunesSpec.pre enc Tryd.prog Tryd.f4 [] false w args ∧ laidMetH Tryd.prog laid2 w) ∧ sizedMet enc Tryd.prog Tryd.f4 (OpenSpec.ofChange Rows.pasteRunesSpec) false w args)
      (Rows.pasteRunesSpec.post enc Tryd.prog Tryd.f4 false true false false) := by
  refine handed_and_shaped (C := Tryd.checked) (X := fun w _ => laidMetH Tryd.prog laid2 w) (fun _ _ _ hh h => h.of_heap hh) Tryd.own started (by kernel_rfl) Tryd.func4
    (ChangeSpec.witness_shaped (enc := enc) (C := Tryd.checked) (os := os) (X := fun w _ => laidMetH Tryd.prog laid2 w) false (World.laidAll Tryd.prog os laid2) #[.slice none 0 0, .int .i64 0] 8 (World.laidAll_os _ _ _) (World.shaped_of_ZipB (by kernel_rfl) (by kernel_rfl)) (by kernel_rfl) (by kernel_rfl) (by kernel_rfl) (door_met os _)) ?_
  intro W base args ds gs before hval0 hW _ _ hL hsh _
  have hval : ∀ (j : Nat) t v, Tryd.f4.params[j]? = some t → args[j]? = some v → Value.okWide Tryd.prog W .any base t v := hval0
  have hW' := hW
  obtain ⟨p, q, hA0, hV, rfl, hfz, hnd⟩ := hW
  have hA : DataW.TrodAll enc Tryd.prog W 0 (fun _ => true) true Tryd.f4.params.toList args.toList ds p := hA0
  rw [Tryd.params4] at hA hval
  obtain ⟨v0, v1, d0, d1, p0, p1, rfl, rfl, rfl, h0, h1⟩ := trodAll_two hA
  obtain ⟨rfl, rfl⟩ := trodVars_none hV
  obtain ⟨xs, hrd, hwf⟩ := open_rd Tryd.underlying25 Tryd.underlying21 (by kernel_rfl) (hval 0 25 v0 rfl rfl) h0
  obtain ⟨n, rfl, hn⟩ := open_num Tryd.underlying3 (hval 1 3 v1 rfl rfl) h1
  clear hA0 hval0
  have hT := gl_of_laid hL hsh
  refine (pasteRunes_any _ n xs W hT hrd (wf_i64 hn)).mono fun e W' ⟨he, hw⟩ => ?_
  exact ⟨_, he, post_law Tryd.laidOut rfl hW' (by kernel_rfl) rfl Tryd.underlying4 rfl hw⟩

theorem pasteRunes_row : Rows.PasteRunesSaid :=
  OpenClaim.holds_of_wide 4 Tryd.f4 rfl rfl rfl rfl rfl rfl rfl ⟨rfl, rfl, rfl, rfl, rfl⟩ rfl rfl rfl rfl rfl (by kernel_rfl) Tryd.func4 (by kernel_rfl)
    (of_decide_eq_true (by kernel_rfl)) (by unfold Func.isWrapper; first | (rw [if_pos (by decide +kernel)]; kernel_rfl) | (rw [if_neg (by decide +kernel)]; exact ⟨rfl, rfl⟩))
    (fun os started H enc _ => pasteRunes_lifted os started H enc)

set_option maxHeartbeats 8000000 in
set_option maxRecDepth 100000 in
/-- THE TIED CARD. -/
theorem pasteRunes_holds : Rows.PasteRunesCardSaid :=
  Claim7.holds_tied_plain_at .later [] [.data, .pinned] true (true, "4865bef8d02670118b7e3de5bc1c7e6eb07ffdb70b2ae0f3df0af0c1c64667ed") false
    pasteRunes_row (fun _ h => by cases h) (by kernel_rfl) (fun _ h => by cases h) pasteRunes_row_tie rfl ⟨rfl, rfl⟩ (by kernel_rfl) rfl
    (fun f fn hf hfn => by
      obtain rfl : f = 4 := Option.some.inj ((show Tryd.prog.funcNamed "scrollback/scrollbacklaw51.PasteRunes" = some 4 by kernel_rfl).symm.trans hf) |>.symm
      obtain rfl : fn = Tryd.f4 := (Option.some.inj (Tryd.func4.symm.trans hfn)).symm
      exact ⟨by kernel_rfl, fun j t ht => by
        rw [Tryd.params4] at ht
        have hm : t ∈ [25, 3] := by simpa using Array.mem_of_getElem? ht
        have hall : ([25, 3].all fun u => !Tryd.prog.wantsStandIn u) = true := by kernel_rfl
        exact (show Tryd.prog.wantsStandIn t = false by simpa using List.all_eq_true.1 hall t hm)⟩)
    (by kernel_rfl)

end Go.Proofs.YtnihneffgbhjjaaDoor
