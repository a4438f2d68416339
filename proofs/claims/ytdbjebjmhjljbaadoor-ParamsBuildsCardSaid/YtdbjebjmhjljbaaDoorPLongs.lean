/- params: ParamsLongs returns true for every input. No condition. -/
import Derived.Test.YtdbjebjmhjljbaaDoorU
import Derived.Test.YtdbjebjmhjljbaaDoorV
import Derived.Test.YtdbjebjmhjljbaaDoorPTexts
import Derived.Test.YtdbjebjmhjljbaaDoorCards
import Derived.Test.YtdbjebjmhjljbaaDoorTie
import Derived.SevenTiedAt
import Derived.ChangeMaps5
import Derived.Outline
import Derived.Deep.LoopGhost
set_option linter.unusedSimpArgs false
set_option linter.unusedVariables false
set_option linter.unnecessarySimpa false
namespace Go.Proofs.YtdbjebjmhjljbaaDoor
open Go.ChangeShapes Go.WideShapes Go.ChangeAt Go.RowKit Go.ChangeMaps

theorem rep_size (s : ByteArray) (c : Nat) : (⟨(Lib.repeatL s.data.toList c).toArray⟩ : ByteArray).size = c * s.size := by
  rw [size_mk, Lib.repeatL_length]; rfl
theorem rep_fine (s : ByteArray) (c : Nat) (h : ∀ x ∈ bytesOf s, fineR x = true) : ∀ x ∈ bytesOf (⟨(Lib.repeatL s.data.toList c).toArray⟩ : ByteArray), fineR x = true := by
  rw [bytesOf_mk]
  induction c with
  | zero => intro x hx; simp [Lib.repeatL, asI] at hx
  | succ c ih =>
    intro x hx
    rw [Lib.repeatL, asI_app, List.mem_append] at hx
    rcases hx with hx | hx
    · exact h x hx
    · exact ih x hx
theorem rep_any (s : ByteArray) (n : Int) (w : World) (hn : 0 ≤ n ∧ n ≤ 200) (hs : s.size ≤ 31) :
    Calls Tryd.prog 19 #[.string s, .int .i64 n] w fun e w' => e = .returned (.string ⟨(Lib.repeatL s.data.toList n.toNat).toArray⟩) ∧ Below w.heap.size w w' := by
  obtain ⟨c, rfl⟩ : ∃ c : Nat, n = c := ⟨n.toNat, by omega⟩
  exact rep_c s _ c _ w rfl (by omega) (by omega) (by simp)
theorem enc_digit (k : Int) (h : 48 ≤ k ∧ k ≤ 59) : Utf8.encode k = ⟨#[UInt8.ofNat k.toNat]⟩ := by
  have key : ∀ j : Fin 12, Utf8.encode (48 + (j.val : Int)) = ⟨#[UInt8.ofNat (48 + j.val)]⟩ := by decide +kernel
  have := key ⟨(k - 48).toNat, by omega⟩
  simp only at this
  rw [show 48 + (((k - 48).toNat : Nat) : Int) = k by omega] at this
  rw [this, show 48 + (k - 48).toNat = k.toNat by omega]
theorem enc_fine (k : Int) (h : 48 ≤ k ∧ k ≤ 59) : bytesOf (Utf8.encode k) = [k] := by
  rw [enc_digit k h]
  have e : (UInt8.ofNat k.toNat).toNat = k.toNat := by rw [UInt8.toNat_ofNat']; omega
  simp [bytesOf, e]; omega
set_option maxHeartbeats 4000000 in
set_option maxRecDepth 100000 in
theorem paramsLongs_any (m n d : Int) (w : World) (hm : Byte m) (hn : Byte n) (hd : Byte d) (ht : Tab w) : Calls Tryd.prog 5 #[.int .u8 m, .int .u8 n, .int .u8 d] w fun e w' => e = .returned (.bool true) ∧ Below w.heap.size w w' := by
  unfold Byte at hm hn hd
  by_cases hm2 : 200 < m
  · go_enter Tryd.func5, Tryd.ntmps5
    go_wp2_with (go_at_call 9; (with_reducible refine (known_any _ (ht.below (Below.refl _ _))).mono ?_); rintro e wk ⟨rfl, hbk⟩)
    go_ret
    exact ⟨rfl, hbk⟩
  by_cases hn2 : 30 < n
  · go_enter Tryd.func5, Tryd.ntmps5
    go_wp2_with (go_at_call 9; (with_reducible refine (known_any _ (ht.below (Below.refl _ _))).mono ?_); rintro e wk ⟨rfl, hbk⟩)
    go_ret
    exact ⟨rfl, hbk⟩
  have hs0 := enc_fine (48 + d % 10) (by omega)
  have hz0 : (Utf8.encode (48 + d % 10)).size = 1 := by rw [← bytesOf_len, hs0]; rfl
  have hf0 : ∀ x ∈ bytesOf (Utf8.encode (48 + d % 10)), fineR x = true := by rw [hs0]; intro x hx; simp at hx; subst hx; simp [fineR]; omega
  clear hs0
  have hf1 := rep_fine (Utf8.encode (48 + d % 10)) n.toNat hf0
  have hz1 := rep_size (Utf8.encode (48 + d % 10)) n.toNat
  have cR := fun w => rep_any (Utf8.encode (48 + d % 10)) n w (by omega) (by omega)
  rw [hz0] at hz1
  have hp : ∀ a : ByteArray, (∀ x ∈ bytesOf a, fineR x = true) → ∀ x ∈ bytesOf (a ++ ⟨#[59]⟩), fineR x = true := fun a ha x hx => by
    rw [bytesOf_app, List.mem_append] at hx
    rcases hx with hx | hx
    · exact ha x hx
    · have : x = 59 := by simpa [bytesOf] using hx
      subst this; rfl
  generalize hE : Utf8.encode (48 + d % 10) = s0 at *
  generalize (⟨(Lib.repeatL s0.data.toList n.toNat).toArray⟩ : ByteArray) = s1 at *
  have hf2 := rep_fine (s1 ++ ⟨#[59]⟩) m.toNat (hp s1 hf1)
  have hz2 := rep_size (s1 ++ ⟨#[59]⟩) m.toNat
  have hz11 : (s1 ++ (⟨#[59]⟩ : ByteArray)).size ≤ 31 := by rw [ByteArray.size_append, hz1]; show n.toNat * 1 + 1 ≤ 31; omega
  have cR2 := fun w => rep_any (s1 ++ ⟨#[59]⟩) m w (by omega) hz11
  generalize (⟨(Lib.repeatL (s1 ++ ⟨#[59]⟩ : ByteArray).data.toList m.toNat).toArray⟩ : ByteArray) = s2 at *
  have hzs : (s2 ++ s1).size ≤ 10000 := by
    rw [ByteArray.size_append, hz1, hz2]
    have := Nat.mul_le_mul (show m.toNat ≤ 200 by omega) hz11
    omega
  have hfs : ∀ x ∈ bytesOf (s2 ++ s1), fineR x = true := fun x hx => by
    rw [bytesOf_app, List.mem_append] at hx
    rcases hx with hx | hx
    · exact hf2 x hx
    · exact hf1 x hx
  have cRP := fun w => rparse_u (s2 ++ s1) w (by omega)
  have hfS : fineS (s2 ++ s1) = true := (fineS_iff _).2 hfs
  rw [hfS] at cRP
  have hpe : parseE (s2 ++ s1) = 0 := if_pos hfS
  have hpl : (bldQ (bytesOf (s2 ++ s1))).1 = parseL (s2 ++ s1) := (if_pos hfS).symm
  have HD := Lib.hid hfs
  obtain ⟨s, hs⟩ : ∃ s, s2 ++ s1 = s := ⟨_, rfl⟩
  have hs11 : s1.size ≤ 100 := by omega
  have hs22 : s2.size ≤ 10000 := by rw [ByteArray.size_append] at hzs; omega
  rw [hs] at cRP hpe hpl HD hzs
  have HPL := Lib.hid hpl
  clear hf0 hf1 hf2 hz0 hz1 hz2 hp hfs hfS hpl
  go_enter Tryd.func5, Tryd.ntmps5
  go_wp2_with (first | (go_at_call 19; (with_reducible refine (cR _).mono ?_); rintro e w1 ⟨rfl, hb1⟩) | (go_at_call 19; (with_reducible refine (cR2 _).mono ?_); rintro e w2 ⟨rfl, hb2⟩; have hl2 := bl_trans hb1 hb2) | (go_at_call 18; (with_reducible refine (cRP _).mono ?_); rintro e w4 ⟨u, rfl, hu, hb4⟩; have hl4 := bl_trans hl2 hb4; obtain ⟨p1, n1, c1, hu1⟩ := hu.rd.shape; subst hu1; have hu4 := hu.rd; clear hu))
  go_loopg [13] s.size (fun gf s6 wx => ∃ (pos : Nat), pos ≤ s.size ∧ s.size ≤ pos + gf ∧ wx.heap[w4.heap.size + 1]? = some (.stringIter s pos) ∧ BldV wx w4.heap.size 38 [] [] (bldQ ((bytesOf s).take pos)).1 (bldQ ((bytesOf s).take pos)).2 ∧ Below w4.heap.size w4 wx)
  case atStart =>
    exact ⟨0, Nat.zero_le _, by omega, by first | exact World.iter_heap (w4.alloc _) s 0 | (have := World.iter_heap (w4.alloc (.cells #[.int .i64 0, .int .i64 0, .int .i64 0, .int .i64 0, .int .i64 0, .int .i64 0, .int .i64 0, .int .i64 0, .int .i64 0, .int .i64 0, .int .i64 0, .int .i64 0, .int .i64 0, .int .i64 0, .int .i64 0, .int .i64 0, .int .i64 0, .bool false] 38)) s 0; rw [show (w4.alloc (.cells #[.int .i64 0, .int .i64 0, .int .i64 0, .int .i64 0, .int .i64 0, .int .i64 0, .int .i64 0, .int .i64 0, .int .i64 0, .int .i64 0, .int .i64 0, .int .i64 0, .int .i64 0, .int .i64 0, .int .i64 0, .int .i64 0, .int .i64 0, .bool false] 38)).heap.size = w4.heap.size + 1 by simp] at this; exact this), ⟨List.replicate 16 0, rfl, Nat.zero_le _, rfl, (Box.new w4 _ _ rfl).alloc _⟩, ((Below.refl _ w4).alloc (Nat.le_refl _) _).alloc (by simp) _⟩
  case round =>
    obtain ⟨pos, hp1, hp2, hit, hbv, hbw⟩ := hrel
    by_cases hlt : pos < s.size
    · obtain ⟨g', rfl⟩ : ∃ g', gk = g' + 1 := ⟨gk - 1, by omega⟩
      have hf : fineR (s[pos].toNat : Int) = true := HD.out _ (by
        have e := bytesOf_take_succ s pos hlt
        exact List.mem_of_mem_take (i := pos + 1) (by rw [e]; simp))
      have h128 : s[pos].toNat < 128 := by simp [fineR] at hf; omega
      have hnx : ∀ ty, (Instr.next (.pointer (some ⟨w4.heap.size + 1, 0, none⟩)) true ty).run Tryd.prog wr = _ := fun ty => Lib.run_next_ascii_at wr (w4.heap.size + 1) s pos ty hit hlt h128
      have hit2 := Lib.iterAt_heap wr (w4.heap.size + 1) s pos (pos + 1) hit
      have hbw2 := Lib.below_iterAt hbw (k := w4.heap.size + 1) (by omega) s (pos + 1)
      have hbv2 := hbv.iterAt (k := w4.heap.size + 1) (by omega) s (pos + 1)
      have HQ : Hid (bldQ ((bytesOf s).take (pos + 1)) = bldS (bldQ ((bytesOf s).take pos)) (s[pos].toNat : Int)) := by unfold Hid; rw [bytesOf_take_succ s pos hlt, bldQ_snoc]
      have hok := bldQ_ok ((bytesOf s).take pos) (fun c hc => HD.out c (List.mem_of_mem_take hc))
      obtain ⟨W, hWd⟩ : ∃ W, wr.iterAt (w4.heap.size + 1) s (pos + 1) = W := ⟨_, rfl⟩
      rw [hWd] at hnx hit2 hbw2 hbv2
      have cA := add_any w4.heap.size 38 [] [] _ _ _ W hbv2 hf hok
      clear hbv hit hbw hbv2 hok hf
      go_wp2_with (go_at_call 20; refine cA.mono ?_; rintro e W' ⟨rfl, hB, hV⟩)
      go_roundg g'
      case measure => omega
      case rel => exact ⟨pos + 1, by omega, by omega, (hB.block _ (by omega) (Array.getElem?_eq_some_iff.1 hit2).1).trans hit2, by rw [HQ.out]; exact hV, Bar.to_below hbw2 hB (Nat.le_refl _)⟩
    · have hnx : ∀ ty, (Instr.next (.pointer (some ⟨w4.heap.size + 1, 0, none⟩)) true ty).run Tryd.prog wr = _ := fun ty => Lib.run_next_end_at wr (w4.heap.size + 1) s pos ty hit hlt
      have ep : (bytesOf s).take pos = bytesOf s := List.take_of_length_le (by rw [bytesOf_len]; omega)
      rw [ep] at hbv
      clear hit ep
      have cH := fun W (hb : Below w4.heap.size w4 W) (hd : BldV W w4.heap.size 38 [] [] (bldQ (bytesOf s)).1 (bldQ (bytesOf s)).2) => has_t w4.heap.size 38 _ _ _ (parseL s) W hd (hu4.below hb) HPL.out
      have hcb : BldV wr w4.heap.size 38 [] [] (bldQ (bytesOf s)).1 (bldQ (bytesOf s)).2 := hbv
      go_wp2_with (first | (go_at_call 17; (with_reducible refine (parses_t s 0 _ _ _ (by omega) (hu4.below hbw) rfl hpe).mono ?_); rintro e w5 ⟨rfl, hb5⟩; have hcb5 := hcb.below hb5; have hbw5 := bl_trans hbw hb5) | (go_at_call 21; (with_reducible refine (cH _ hbw5 hcb5).mono ?_); rintro e w8 ⟨rfl, hb8⟩; have hbG := bl_trans hl4 (bl_trans hbw5 hb8)) | (go_at_call 9; (with_reducible refine (known_any _ (ht.below hbG)).mono ?_); rintro e wk ⟨rfl, hbk⟩))
      go_ret
      exact ⟨rfl, bl_trans hbG hbk⟩


set_option maxRecDepth 100000 in
theorem paramsLongs_lifted (os : Os) (started : os.Started) (H : Type) (enc : TypeId × Value → H) :
    ReturnsInHanded {} Tryd.checked os 5 .any (fun w args => (Rows.paramsLongsSpec.pre enc Tryd.prog Tryd.f5 [] false w args ∧ laidMetH Tryd.prog laid3 w) ∧ sizedMet enc Tryd.prog Tryd.f5 (OpenSpec.ofChange Rows.paramsLongsSpec) false w args)
      (Rows.paramsLongsSpec.post enc Tryd.prog Tryd.f5 false true false false) := by
  refine returnsInHanded_of_change_and (C := Tryd.checked) (X := fun w _ => laidMetH Tryd.prog laid3 w) (fun _ _ _ hh h => h.of_heap hh) Tryd.own started (by kernel_rfl) Tryd.func5
    (ChangeSpec.witness_shaped (enc := enc) (C := Tryd.checked) (os := os) (X := fun w _ => laidMetH Tryd.prog laid3 w) false (World.doorLaid Tryd.prog 400 os) #[.int .u8 0, .int .u8 0, .int .u8 0] 8 rfl (World.shaped_of_RefB (by kernel_rfl) (by kernel_rfl)) (by kernel_rfl) (by kernel_rfl) (by kernel_rfl) (door_met os _)) ?_
  intro W base args ds gs before hval0 hW _ _ hL _
  have hval : ∀ (j : Nat) t v, Tryd.f5.params[j]? = some t → args[j]? = some v → Value.okWide Tryd.prog W .any base t v := hval0
  have hW' := hW
  obtain ⟨p, q, hA0, hV, rfl, hfz, hnd⟩ := hW
  have hA : DataW.TrodAll enc Tryd.prog W 0 (fun _ => true) true Tryd.f5.params.toList args.toList ds p := hA0
  rw [Tryd.params5] at hA hval
  obtain ⟨v0, v1, v2, d0, d1, d2, p0, p1, p2, rfl, rfl, rfl, h0, h1, h2⟩ := trodAll_three hA
  obtain ⟨rfl, rfl⟩ := trodVars_none hV
  obtain ⟨m, rfl, hm⟩ := open_num Tryd.underlying5 (hval 0 5 v0 rfl rfl) h0
  obtain ⟨n, rfl, hn⟩ := open_num Tryd.underlying5 (hval 1 5 v1 rfl rfl) h1
  obtain ⟨d, rfl, hd⟩ := open_num Tryd.underlying5 (hval 2 5 v2 rfl rfl) h2
  clear hA0 hval0
  have hT := tab_of_laid hL
  refine (paramsLongs_any m n d W (wf_byte hm) (wf_byte hn) (wf_byte hd) hT).mono fun e W' ⟨he, hw⟩ => ?_
  exact ⟨_, he, post_law Tryd.laidOut rfl hW' (by kernel_rfl) rfl Tryd.underlying4 rfl hw⟩

theorem paramsLongs_row : Rows.ParamsLongsSaid :=
  OpenClaim.holds_of_wide 5 Tryd.f5 rfl rfl rfl rfl rfl rfl rfl ⟨rfl, rfl, rfl, rfl, rfl⟩ rfl rfl rfl rfl rfl (by kernel_rfl) Tryd.func5 (by kernel_rfl)
    (of_decide_eq_true (by kernel_rfl)) (by unfold Func.isWrapper; first | (rw [if_pos (by decide +kernel)]; kernel_rfl) | (rw [if_neg (by decide +kernel)]; exact ⟨rfl, rfl⟩))
    (fun os started H enc _ => paramsLongs_lifted os started H enc)

/-- THE TIED CARD. -/
theorem paramsLongs_holds : Rows.ParamsLongsCardSaid :=
  Claim7.holds_tied_plain_at .later [] [.data, .data, .data] true (true, "4458feca6dd9f3487c4421ad4cb313d72e0174510b7d77276993b3156a906d65") false
    paramsLongs_row (fun _ h => by cases h) (by kernel_rfl) (fun _ h => by cases h) paramsLongs_row_tie rfl ⟨rfl, rfl⟩ (by kernel_rfl) rfl
    (fun f fn hf hfn => by
      obtain rfl : f = 5 := Option.some.inj ((show Tryd.prog.funcNamed "scrollback/scrollbacklaw10.ParamsLongs" = some 5 by kernel_rfl).symm.trans hf) |>.symm
      obtain rfl : fn = Tryd.f5 := (Option.some.inj (Tryd.func5.symm.trans hfn)).symm
      exact ⟨by kernel_rfl, fun j t ht => by
        rw [Tryd.params5] at ht
        have hm : t ∈ [5, 5, 5] := by simpa using Array.mem_of_getElem? ht
        have hall : ([5, 5, 5].all fun u => !Tryd.prog.wantsStandIn u) = true := by kernel_rfl
        exact (show Tryd.prog.wantsStandIn t = false by simpa using List.all_eq_true.1 hall t hm)⟩)
    (by kernel_rfl)

end Go.Proofs.YtdbjebjmhjljbaaDoor
