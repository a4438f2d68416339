/- paste: PasteOnes returns true for every input. No condition. -/
import Derived.Test.YtnihneffgbhjjaaDoorQ
import Derived.Test.YtnihneffgbhjjaaDoorCards
import Derived.Test.YtnihneffgbhjjaaDoorTie
import Derived.SevenTiedAt
import Derived.Deep.CutBlock
import Derived.Deep.DeepCutAuto
import Derived.Outline
set_option linter.unusedSimpArgs false
set_option linter.unusedVariables false
set_option linter.unnecessarySimpa false
namespace Go.Proofs.YtnihneffgbhjjaaDoor
open Go.ChangeShapes Go.WideShapes Go.ChangeAt Go.RowKit

set_option maxHeartbeats 4000000 in
set_option maxRecDepth 100000 in
theorem pasteOnes_any (c : Int) (w : World) (hg : Gl w) (hc : Byte c) : Calls Tryd.prog 5 #[.int .u8 c] w fun e w' => e = .returned (.bool true) ∧ Below w.heap.size w w' := by
  have hc' := hc
  unfold Byte at hc'
  go_enter Tryd.func5, Tryd.ntmps5
  go_wp2_with fail
  go_loopw [3] (fun i wr => ∃ k : Nat, k ≤ 300 ∧ i = .int .i64 k ∧ Below w.heap.size w wr) (fun i _ => 300 - (intOf i).toNat)
  case atStart => exact ⟨0, by omega, rfl, Below.refl _ _⟩
  case round =>
    obtain ⟨k, hk, rfl, hbel⟩ := hrel
    by_cases hlt : k < 300
    · have cE := fun W v (h : Rd W .i32 v [(k : Int)]) => encode_any v [(k : Int)] W h (by simp)
      unfold RetOwn at cE
      have hel : (encL [(k : Int)]).length ≤ 4 := by have := (encL_length [(k : Int)]).2; simpa using this
      have hby := encL_byte [(k : Int)]
      generalize encL [(k : Int)] = er at *
      have hbc : ∀ x ∈ [c] ++ er ++ [c], Byte x := fun x hx => by
        simp only [List.mem_append, List.mem_singleton] at hx
        rcases hx with (rfl | hx) | rfl
        · exact hc
        · exact hby x hx
        · exact hc
      have hlen : ([c] ++ er ++ [c]).length ≤ 1048576 := by simp; omega
      have HBC := Lib.hid hbc
      have HLEN := Lib.hid hlen
      clear hbc hlen hby
      have R1 := fun v W (h1 : Below wr.heap.size wr W) (h : Rd W .u8 v ([c] ++ er ++ [c])) => right_any v 4 _ W (hg.below (bl_trans hbel h1)) h HBC.out HLEN.out (by decide) (by decide)
      by_cases h256 : k < 256
      · have hbc2 : ∀ x ∈ [c, (k : Int)], Byte x := fun x hx => by
          simp only [List.mem_cons, List.not_mem_nil, or_false] at hx
          rcases hx with rfl | rfl
          · exact hc
          · unfold Byte; omega
        have HBC2 := Lib.hid hbc2
        clear hbc2
        have R2 := fun v W (h1 : Below wr.heap.size wr W) (h : Rd W .u8 v [c, (k : Int)]) => right_any v 5 _ W (hg.below (bl_trans hbel h1)) h HBC2.out (by simp) (by decide) (by decide)
        have t8 : IntKind.u8.wrap (k : Int) = (k : Int) := IntWalk.u8_in _ (by omega)
        go_wp2_with (first | (go_at_call 10; (with_reducible refine (cE _ _ (Rd.lit1 (wr.alloc (.cells #[.int .u8 c] 5)) 21 .i32 k (wr.heap.size + 1) (by simp))).mono ?_); rintro e w2 ⟨u, rfl, hou, hb2⟩; have hrd2 := hou.rd; obtain ⟨pu, nu, cu, hue⟩ := hrd2.shape; subst hue; have hown1 : Own w2 wr.heap.size 5 .u8 (.slice (some ⟨wr.heap.size, 0, none⟩) 1 1) [c] := ((Own.lit1 wr 5 .u8 c wr.heap.size wr.heap.size rfl (Nat.le_refl _)).kept (bl_alloc (Below.refl _ _) _)).kept hb2; have hs2 := hb2.size; simp at hs2) | (at_builtin; refine wpList_app rfl (.tmp 9) (.tmp 13) 22 5 .u8 1 rfl Tryd.underlying22 el8 wr.heap.size _ _ [c] er hown1 hrd2 rfl rfl (by simp only [List.length_singleton, maxLen]; omega) (by simp only [List.length_singleton]; omega) (by omega) ?_; intro v3 w3 hown3 hb3 hg3; have hs3 := hb3.size; obtain ⟨p3, n3, c3, hv3⟩ := hown3.rd.shape; subst hv3) | (at_builtin; refine wpList_app rfl (.tmp 14) (.tmp 16) 22 5 .u8 1 rfl Tryd.underlying22 el8 wr.heap.size _ _ ([c] ++ er) [c] (Own.kept hown3 (bl_alloc (Below.refl _ _) _)) (Rd.lit1 _ _ _ _ _ rfl) rfl rfl (by simp only [List.length_append, List.length_singleton, maxLen]; omega) (by simp only [List.length_append, List.length_singleton]; omega) (by simp; omega) ?_; intro v4 w4 hown4 hb4 hg4; have hrd4 := hown4.rd; obtain ⟨p4, n4, c4, hv4⟩ := hrd4.shape; subst hv4; have hbr4 : Below wr.heap.size wr w4 := ((bl_trans (bl_alloc (bl_alloc (Below.refl _ _) _) _) hb2).trans hb3).trans ((Below.alloc (Below.refl _ _) (by omega) _).trans hb4)) | (go_at_call 9; (with_reducible refine (R1 _ _ hbr4 hrd4).mono ?_); rintro e w5 ⟨rfl, hb5⟩; have hbr5 := bl_trans hbr4 hb5) | (go_at_call 9; (with_reducible refine (R2 _ _ (bl_trans hbr5 (bl_alloc (Below.refl _ _) _)) (Rd.lit2 _ _ _ _ _ _ rfl)).mono ?_); rintro e w6 ⟨rfl, hb6⟩; have hbr6 := bl_trans (bl_trans hbr5 (bl_alloc (Below.refl _ _) _)) hb6))
        go_roundw
        case rel => first | exact ⟨k + 1, by omega, by go_num, bl_trans hbel hbr6⟩ | ((repeat apply Exists.intro); exact ⟨⟨k + 1, by omega, by go_num, bl_trans hbel hbr6⟩, rfl⟩)
        case measure => simp [intOf]; omega
      · go_wp2_with (first | (go_at_call 10; (with_reducible refine (cE _ _ (Rd.lit1 (wr.alloc (.cells #[.int .u8 c] 5)) 21 .i32 k (wr.heap.size + 1) (by simp))).mono ?_); rintro e w2 ⟨u, rfl, hou, hb2⟩; have hrd2 := hou.rd; obtain ⟨pu, nu, cu, hue⟩ := hrd2.shape; subst hue; have hown1 : Own w2 wr.heap.size 5 .u8 (.slice (some ⟨wr.heap.size, 0, none⟩) 1 1) [c] := ((Own.lit1 wr 5 .u8 c wr.heap.size wr.heap.size rfl (Nat.le_refl _)).kept (bl_alloc (Below.refl _ _) _)).kept hb2; have hs2 := hb2.size; simp at hs2) | (at_builtin; refine wpList_app rfl (.tmp 9) (.tmp 13) 22 5 .u8 1 rfl Tryd.underlying22 el8 wr.heap.size _ _ [c] er hown1 hrd2 rfl rfl (by simp only [List.length_singleton, maxLen]; omega) (by simp only [List.length_singleton]; omega) (by omega) ?_; intro v3 w3 hown3 hb3 hg3; have hs3 := hb3.size; obtain ⟨p3, n3, c3, hv3⟩ := hown3.rd.shape; subst hv3) | (at_builtin; refine wpList_app rfl (.tmp 14) (.tmp 16) 22 5 .u8 1 rfl Tryd.underlying22 el8 wr.heap.size _ _ ([c] ++ er) [c] (Own.kept hown3 (bl_alloc (Below.refl _ _) _)) (Rd.lit1 _ _ _ _ _ rfl) rfl rfl (by simp only [List.length_append, List.length_singleton, maxLen]; omega) (by simp only [List.length_append, List.length_singleton]; omega) (by simp; omega) ?_; intro v4 w4 hown4 hb4 hg4; have hrd4 := hown4.rd; obtain ⟨p4, n4, c4, hv4⟩ := hrd4.shape; subst hv4; have hbr4 : Below wr.heap.size wr w4 := ((bl_trans (bl_alloc (bl_alloc (Below.refl _ _) _) _) hb2).trans hb3).trans ((Below.alloc (Below.refl _ _) (by omega) _).trans hb4)) | (go_at_call 9; (with_reducible refine (R1 _ _ hbr4 hrd4).mono ?_); rintro e w5 ⟨rfl, hb5⟩; have hbr5 := bl_trans hbr4 hb5))
        go_roundw
        case rel => first | exact ⟨k + 1, by omega, by go_num, bl_trans hbel hbr5⟩ | ((repeat apply Exists.intro); exact ⟨⟨k + 1, by omega, by go_num, bl_trans hbel hbr5⟩, rfl⟩)
        case measure => simp [intOf]; omega
    · have cK := known_any wr (hg.below hbel)
      go_wp2_with (first | (go_at_call 8; (with_reducible refine (cK).mono ?_); rintro e w4 ⟨rfl, hb4⟩))
      go_ret
      exact ⟨rfl, bl_trans hbel hb4⟩

set_option maxRecDepth 100000 in
theorem pasteOnes_lifted (os : Os) (started : os.Started) (H : Type) (enc : TypeId × Value → H) :
    ReturnsInHanded {} Tryd.checked os 5 .any (fun w args => (Rows.pasteOnesSpec.pre enc Tryd.prog Tryd.f5 [] false w args ∧ laidMetH Tryd.prog laid2 w) ∧ sizedMet enc Tryd.prog Tryd.f5 (OpenSpec.ofChange Rows.pasteOnesSpec) false w args)
      (Rows.pasteOnesSpec.post enc Tryd.prog Tryd.f5 false true false false) := by
  refine handed_and_shaped (C := Tryd.checked) (X := fun w _ => laidMetH Tryd.prog laid2 w) (fun _ _ _ hh h => h.of_heap hh) Tryd.own started (by kernel_rfl) Tryd.func5
    (ChangeSpec.witness_shaped (enc := enc) (C := Tryd.checked) (os := os) (X := fun w _ => laidMetH Tryd.prog laid2 w) false (World.laidAll Tryd.prog os laid2) #[.int .u8 0] 8 (World.laidAll_os _ _ _) (World.shaped_of_ZipB (by kernel_rfl) (by kernel_rfl)) (by kernel_rfl) (by kernel_rfl) (by kernel_rfl) (door_met os _)) ?_
  intro W base args ds gs before hval0 hW _ _ hL hsh _
  have hval : ∀ (j : Nat) t v, Tryd.f5.params[j]? = some t → args[j]? = some v → Value.okWide Tryd.prog W .any base t v := hval0
  have hW' := hW
  obtain ⟨p, q, hA0, hV, rfl, hfz, hnd⟩ := hW
  have hA : DataW.TrodAll enc Tryd.prog W 0 (fun _ => true) true Tryd.f5.params.toList args.toList ds p := hA0
  rw [Tryd.params5] at hA hval
  obtain ⟨v0, d0, rfl, rfl, h0⟩ := trodAll_one hA
  obtain ⟨rfl, rfl⟩ := trodVars_none hV
  obtain ⟨c, rfl, hc⟩ := open_num Tryd.underlying5 (hval 0 5 v0 rfl rfl) h0
  clear hA0 hval0
  have hT := gl_of_laid hL hsh
  refine (pasteOnes_any c W hT (wf_byte hc)).mono fun e W' ⟨he, hw⟩ => ?_
  exact ⟨_, he, post_law Tryd.laidOut rfl hW' (by kernel_rfl) rfl Tryd.underlying4 rfl hw⟩

theorem pasteOnes_row : Rows.PasteOnesSaid :=
  OpenClaim.holds_of_wide 5 Tryd.f5 rfl rfl rfl rfl rfl rfl rfl ⟨rfl, rfl, rfl, rfl, rfl⟩ rfl rfl rfl rfl rfl (by kernel_rfl) Tryd.func5 (by kernel_rfl)
    (of_decide_eq_true (by kernel_rfl)) (by unfold Func.isWrapper; first | (rw [if_pos (by decide +kernel)]; kernel_rfl) | (rw [if_neg (by decide +kernel)]; exact ⟨rfl, rfl⟩))
    (fun os started H enc _ => pasteOnes_lifted os started H enc)

set_option maxHeartbeats 8000000 in
set_option maxRecDepth 100000 in
/-- THE TIED CARD. -/
theorem pasteOnes_holds : Rows.PasteOnesCardSaid :=
  Claim7.holds_tied_plain_at .later [] [.data, .pinned] true (true, "4865bef8d02670118b7e3de5bc1c7e6eb07ffdb70b2ae0f3df0af0c1c64667ed") false
    pasteOnes_row (fun _ h => by cases h) (by kernel_rfl) (fun _ h => by cases h) pasteOnes_row_tie rfl ⟨rfl, rfl⟩ (by kernel_rfl) rfl
    (fun f fn hf hfn => by
      obtain rfl : f = 5 := Option.some.inj ((show Tryd.prog.funcNamed "scrollback/scrollbacklaw51.PasteOnes" = some 5 by kernel_rfl).symm.trans hf) |>.symm
      obtain rfl : fn = Tryd.f5 := (Option.some.inj (Tryd.func5.symm.trans hfn)).symm
      exact ⟨by kernel_rfl, fun j t ht => by
        rw [Tryd.params5] at ht
        have hm : t ∈ [5] := by simpa using Array.mem_of_getElem? ht
        have hall : ([5].all fun u => !Tryd.prog.wantsStandIn u) = true := by kernel_rfl
        exact (show Tryd.prog.wantsStandIn t = false by simpa using List.all_eq_true.1 hall t hm)⟩)
    (by kernel_rfl)

end Go.Proofs.YtnihneffgbhjjaaDoor
