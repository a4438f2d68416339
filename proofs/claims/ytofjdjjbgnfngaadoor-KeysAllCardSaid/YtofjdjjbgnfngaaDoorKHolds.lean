/- keys: KeysHolds returns true for every input. No condition. -/
import Derived.Test.YtofjdjjbgnfngaaDoorQ
import Derived.Test.YtofjdjjbgnfngaaDoorG
import Derived.Test.YtofjdjjbgnfngaaDoorCards
import Derived.Test.YtofjdjjbgnfngaaDoorTie
import Derived.SevenTiedAt
import Derived.Deep.CutBlock
import Derived.Deep.DeepCutAuto
import Derived.Outline
set_option linter.unusedSimpArgs false
set_option linter.unusedVariables false
set_option linter.unnecessarySimpa false
namespace Go.Proofs.YtofjdjjbgnfngaaDoor
open Go.ChangeShapes Go.WideShapes Go.ChangeAt Go.RowKit

/-- The error's number, and the bytes. -/
def gB (code rune : Int) (sh ct nl bk : Bool) : Int := if bytesI code rune sh ct nl bk = true then 0 else 9
def sB (code rune : Int) (sh al ct : Bool) (app nl bk : Bool) : ByteArray := if bytesI code rune sh ct nl bk = true then bytesS code rune sh al ct app nl bk else ⟨#[]⟩
def BytesU (code rune : Int) (sh al ct : Bool) (app nl bk : Bool) (w : World) (e : Ending) (w' : World) : Prop := ∃ v, e = .returned (.tuple #[v, .int .i64 (gB code rune sh ct nl bk)]) ∧ Rd w' .u8 v (bytesOf (sB code rune sh al ct app nl bk)) ∧ Below w.heap.size w w'
theorem bytes_u (code rune : Int) (sh al ct : Bool) (app nl bk : Bool) (w : World) (ht : Tab w) (hr : -2147483648 ≤ rune ∧ rune ≤ 2147483647) (hv : validK code rune = true) : Calls Tryd.prog 18 #[.agg #[.int .i64 code, .int .i32 rune, .bool sh, .bool al, .bool ct], .agg #[.bool app, .bool nl, .bool bk]] w (BytesU code rune sh al ct app nl bk w) := by
  refine (bytes_any code rune sh al ct app nl bk w ht hr hv).mono fun e w' h => ?_
  unfold BytesU gB sB
  cases hi : bytesI code rune sh ct nl bk
  · rw [hi] at h
    rw [if_neg (by decide)] at h
    obtain ⟨rfl, hb⟩ := h
    rw [if_neg (by decide), if_neg (by decide)]
    exact ⟨_, rfl, Rd.nil _ _, hb⟩
  · rw [hi, if_pos rfl] at h
    rw [if_pos rfl, if_pos rfl]
    exact h
def mdB (code : Int) : Bool := decide ((6 ≤ code ∧ code ≤ 11) ∨ code = 2 ∨ code = 4)
theorem plain_snd (code rune : Int) (sh ct nl bk : Bool) : (plainN code rune sh ct nl bk).2 = (plainN code rune sh ct false false).2 := by
  unfold plainN
  by_cases h2 : code = 2
  · rw [if_pos h2, if_pos h2]
  by_cases h3 : code = 3
  · rw [if_neg h2, if_pos h3, if_neg h2, if_pos h3]
  by_cases h4 : code = 4
  · rw [if_neg h2, if_neg h3, if_pos h4, if_neg h2, if_neg h3, if_pos h4]
  rw [if_neg h2, if_neg h3, if_neg h4, if_neg h2, if_neg h3, if_neg h4]
theorem plain_fst (code rune : Int) (sh ct nl bk : Bool) (h2 : code ≠ 2) (h4 : code ≠ 4) : (plainN code rune sh ct nl bk).1 = (plainN code rune sh ct false false).1 := by
  unfold plainN
  by_cases h3 : code = 3
  · rw [if_neg h2, if_pos h3, if_neg h2, if_pos h3]
  rw [if_neg h2, if_neg h3, if_neg h4, if_neg h2, if_neg h3, if_neg h4]
theorem bytesI_0 (code rune : Int) (sh ct nl bk : Bool) : bytesI code rune sh ct nl bk = bytesI code rune sh ct false false := by unfold bytesI; rw [plain_snd]
theorem gB_0 (code rune : Int) (sh ct nl bk : Bool) : gB code rune sh ct false false = gB code rune sh ct nl bk := by unfold gB; rw [bytesI_0 code rune sh ct nl bk]
theorem sB_0 (code rune : Int) (sh al ct : Bool) (app nl bk : Bool) (h : mdB code = false) : sB code rune sh al ct false false false = sB code rune sh al ct app nl bk := by
  have h := of_decide_eq_false h
  unfold sB
  rw [bytesI_0 code rune sh ct nl bk]
  congr 1
  unfold bytesS
  by_cases h5 : code ≤ 5
  · rw [if_pos h5, if_pos h5, plain_fst code rune sh ct nl bk (by omega) (by omega)]
  · have h11 : ¬ code ≤ 11 := by omega
    rw [if_neg h5, if_neg h5, if_neg h11, if_neg h11]
theorem sB_alt (code rune : Int) (sh al ct : Bool) (app nl bk : Bool) (ha : al = false) (h : code ≤ 5) (hi : bytesI code rune sh ct nl bk = true) : sB code rune sh true ct app nl bk = (⟨#[27]⟩ : ByteArray) ++ sB code rune sh al ct app nl bk := by
  subst ha
  unfold sB
  rw [hi, if_pos rfl, if_pos rfl]
  unfold bytesS
  rw [if_pos h, if_pos h, if_pos rfl, if_neg (by decide)]
  congr 1
theorem sB_size (code rune : Int) (sh al ct : Bool) (app nl bk : Bool) (h : code ≤ 5) : (sB code rune sh al ct app nl bk).size ≤ 20 := by
  have hp := plain_size code rune sh ct nl bk
  unfold sB
  split
  · unfold bytesS
    rw [if_pos h, ByteArray.size_append]
    cases al
    · rw [if_neg (by decide)]; show 0 + _ ≤ 20; omega
    · rw [if_pos rfl]; show 1 + _ ≤ 20; omega
  · decide
theorem gB_of (code rune : Int) (sh ct nl bk : Bool) : (gB code rune sh ct nl bk = 9 ∧ bytesI code rune sh ct nl bk = false) ∨ (gB code rune sh ct nl bk = 0 ∧ bytesI code rune sh ct nl bk = true) := by
  unfold gB
  cases bytesI code rune sh ct nl bk
  · exact .inl ⟨rfl, rfl⟩
  · exact .inr ⟨rfl, rfl⟩
def NameF (nm : ByteArray) (code rune : Int) (sh al ct : Bool) (c2 r2 : Int) (s2 a2 t2 : Bool) (nb : ByteArray) (fb : Int) : Prop :=
  fb = 2 ∨ (fb = 0 ∧ ((nb = nm ∧ c2 = code ∧ r2 = rune ∧ s2 = sh ∧ a2 = al ∧ t2 = ct) ∨ ((nm.toList == nb.toList) = false ∧ (c2 ≠ code ∨ r2 ≠ rune ∨ s2 ≠ sh ∨ a2 ≠ al ∨ t2 ≠ ct))))
theorem name_u (code rune : Int) (sh al ct : Bool) (c2 r2 : Int) (s2 a2 t2 : Bool) (w : World) (ht : Tab w) (hr : -2147483648 ≤ r2 ∧ r2 ≤ 2147483647) (hv : validK code rune = true) : ∃ nb fb, (∀ W, Below w.heap.size w W → Calls Tryd.prog 17 #[.agg #[.int .i64 c2, .int .i32 r2, .bool s2, .bool a2, .bool t2]] W fun e w' => e = .returned (.tuple #[.string nb, .int .i64 fb]) ∧ Below W.heap.size W w') ∧ NameF (nameS code rune sh al ct) code rune sh al ct c2 r2 s2 a2 t2 nb fb := by
  cases h : validK c2 r2
  · exact ⟨_, _, fun W _ => name_bad c2 r2 s2 a2 t2 W h, .inl rfl⟩
  · refine ⟨_, _, fun W hb => name_ok c2 r2 s2 a2 t2 W (ht.below hb) hr h, .inr ⟨rfl, ?_⟩⟩
    obtain ⟨x1, x2, x3, x4, x5⟩ := by_name code rune sh al ct hv
    obtain ⟨y1, y2, y3, y4, y5⟩ := by_name c2 r2 s2 a2 t2 h
    by_cases he : c2 = code ∧ r2 = rune ∧ s2 = sh ∧ a2 = al ∧ t2 = ct
    · obtain ⟨rfl, rfl, rfl, rfl, rfl⟩ := he
      exact .inl ⟨rfl, rfl, rfl, rfl, rfl, rfl⟩
    · refine .inr ⟨beq_toList _ _ fun e => he ?_, ?_⟩
      · rw [e] at x1 x2 x3 x4 x5
        exact ⟨y1.symm.trans x1, y2.symm.trans x2, y5.symm.trans x5, y4.symm.trans x4, y3.symm.trans x3⟩
      · by_cases h1 : c2 = code
        · by_cases h2 : r2 = rune
          · by_cases h3 : s2 = sh
            · by_cases h4 : a2 = al
              · exact .inr (.inr (.inr (.inr fun h5 => he ⟨h1, h2, h3, h4, h5⟩)))
              · exact .inr (.inr (.inr (.inl h4)))
            · exact .inr (.inr (.inl h3))
          · exact .inr (.inl h2)
        · exact .inl h1
set_option maxHeartbeats 8000000 in
set_option maxRecDepth 100000 in
theorem keysHolds_any (code rune : Int) (sh al ct : Bool) (c2 r2 : Int) (s2 a2 t2 : Bool) (app nl bk : Bool) (w : World) (hg : Gl w) (hr : -2147483648 ≤ rune ∧ rune ≤ 2147483647) (hr2 : -2147483648 ≤ r2 ∧ r2 ≤ 2147483647) : Calls Tryd.prog 6 #[.agg #[.int .i64 code, .int .i32 rune, .bool sh, .bool al, .bool ct], .agg #[.int .i64 c2, .int .i32 r2, .bool s2, .bool a2, .bool t2], .agg #[.bool app, .bool nl, .bool bk]] w fun e w' => e = .returned (.bool true) ∧ Below w.heap.size w w' := by
  have hB : Gl (((w.alloc (.cells #[.int .i64 code, .int .i32 rune, .bool sh, .bool al, .bool ct] 24)).alloc (.cells #[.int .i64 c2, .int .i32 r2, .bool s2, .bool a2, .bool t2] 24)).alloc (.cells #[.bool app, .bool nl, .bool bk] 26)) := hg.below (bl_alloc (bl_alloc (bl_alloc (Below.refl _ _) _) _) _)
  have cV := fun W => valid_any code rune sh al ct W
  cases hv : validK code rune
  · rw [hv] at cV
    have cNa := fun W => name_bad code rune sh al ct W hv
    have cNb : ∃ nb fb, ∀ W, Below w.heap.size w W → Calls Tryd.prog 17 #[.agg #[.int .i64 c2, .int .i32 r2, .bool s2, .bool a2, .bool t2]] W fun e w' => e = .returned (.tuple #[.string nb, .int .i64 fb]) ∧ Below W.heap.size W w' := by
      cases h : validK c2 r2
      · exact ⟨_, _, fun W _ => name_bad c2 r2 s2 a2 t2 W h⟩
      · exact ⟨_, _, fun W hb => name_ok c2 r2 s2 a2 t2 W (hg.t.below hb) hr2 h⟩
    obtain ⟨nb, fb, cNb⟩ := cNb
    have hbW : Below w.heap.size w (((w.alloc (.cells #[.int .i64 code, .int .i32 rune, .bool sh, .bool al, .bool ct] 24)).alloc (.cells #[.int .i64 c2, .int .i32 r2, .bool s2, .bool a2, .bool t2] 24)).alloc (.cells #[.bool app, .bool nl, .bool bk] 26)) := bl_alloc (bl_alloc (bl_alloc (Below.refl _ _) _) _) _
    go_enter Tryd.func6, Tryd.ntmps6
    go_wp2_with (first | (go_at_call 17; (with_reducible refine (cNa _).mono ?_); rintro e w1 ⟨rfl, hb⟩; (first | obtain ⟨X1, rfl⟩ := GW.of2 hb | obtain ⟨X1, rfl⟩ := GW.of hb); clear hb) | (go_at_call 17; (with_reducible refine (cNb _ (bl_trans hbW (GW.grow _))).mono ?_); rintro e w1 ⟨rfl, hb⟩; (first | obtain ⟨X2, rfl⟩ := GW.of2 hb | obtain ⟨X2, rfl⟩ := GW.of hb); clear hb) | (go_at_call 8; (with_reducible refine (cV _).mono ?_); rintro e w1 ⟨rfl, hb⟩; (first | obtain ⟨X3, rfl⟩ := GW.of2 hb | obtain ⟨X3, rfl⟩ := GW.of hb); clear hb) | (go_at_call 12; (with_reducible refine (known_any _ (hB.below (GW.grow _))).mono ?_); rintro e w1 ⟨rfl, hb⟩; (first | obtain ⟨X4, rfl⟩ := GW.of2 hb | obtain ⟨X4, rfl⟩ := GW.of hb); clear hb))
    go_ret
    exact ⟨rfl, bl_trans hbW (GW.grow _)⟩
  · rw [hv] at cV
    obtain ⟨nb, fb, cNb, hF⟩ := name_u code rune sh al ct c2 r2 s2 a2 t2 w hg.t hr2 hv
    have cNa := fun W (hg : Gl W) => name_ok code rune sh al ct W hg.t hr hv
    have cM := fun W (hg : Gl W) => named_ok code rune sh al ct W hg hv
    have hbW : Below w.heap.size w (((w.alloc (.cells #[.int .i64 code, .int .i32 rune, .bool sh, .bool al, .bool ct] 24)).alloc (.cells #[.int .i64 c2, .int .i32 r2, .bool s2, .bool a2, .bool t2] 24)).alloc (.cells #[.bool app, .bool nl, .bool bk] 26)) := bl_alloc (bl_alloc (bl_alloc (Below.refl _ _) _) _) _
    have cx := fun W (h : Gl W) => bytes_u code rune sh al ct app nl bk W h.t hr hv
    have cy := fun W (h : Gl W) => bytes_u code rune sh al ct false false false W h.t hr hv
    have cz := fun W (h : Gl W) => bytes_u code rune sh true ct app nl bk W h.t hr hv
    unfold BytesU at cx cy cz
    rw [gB_0 code rune sh ct nl bk] at cy
    have hs0 := Lib.hid (sB_0 code rune sh al ct app nl bk)
    have hs1 := Lib.hid (sB_alt code rune sh al ct app nl bk)
    have hs2 := Lib.hid (sB_size code rune sh al ct app nl bk)
    have hgb := gB_of code rune sh ct nl bk
    have hc : 1 ≤ code ∧ code ≤ 27 := by unfold validK at hv; have := of_decide_eq_true hv; omega
    have HF := Lib.hid hF
    have HG := Lib.hid hgb
    clear hF hgb
    generalize nameS code rune sh al ct = nm at *
    go_enter Tryd.func6, Tryd.ntmps6
    go_upto_region 3 with (first | (go_at_call 17; (with_reducible refine (cNa _ hB).mono ?_); rintro e w1 ⟨rfl, hb⟩; (first | obtain ⟨X1, rfl⟩ := GW.of2 hb | obtain ⟨X1, rfl⟩ := GW.of hb); clear hb) | (go_at_call 17; (with_reducible refine (cNb _ (bl_trans hbW (GW.grow _))).mono ?_); rintro e w1 ⟨rfl, hb⟩; (first | obtain ⟨X2, rfl⟩ := GW.of2 hb | obtain ⟨X2, rfl⟩ := GW.of hb); clear hb))
    go_cut [60] (fun t wx => t = .bool false ∧ ∃ X : GW (((w.alloc (.cells #[.int .i64 code, .int .i32 rune, .bool sh, .bool al, .bool ct] 24)).alloc (.cells #[.int .i64 c2, .int .i32 r2, .bool s2, .bool a2, .bool t2] 24)).alloc (.cells #[.bool app, .bool nl, .bool bk] 26)), wx = X.world)
    case first =>
      have hf := HF.out
      clear HF cx cy cz
      unfold NameF at hf
      rcases hf with rfl | ⟨rfl, ⟨rfl, rfl, rfl, rfl, rfl, rfl⟩ | ⟨hne, hd⟩⟩
      · go_wp2_with (first | (go_at_call 8; (with_reducible refine (cV _).mono ?_); rintro e w1 ⟨rfl, hb⟩; (first | obtain ⟨X3, rfl⟩ := GW.of2 hb | obtain ⟨X3, rfl⟩ := GW.of hb); clear hb) | (go_at_call 15; (with_reducible refine (cM _ (hB.below (GW.grow _))).mono ?_); rintro e w1 ⟨rfl, hb⟩; (first | obtain ⟨X4, rfl⟩ := GW.of2 hb | obtain ⟨X4, rfl⟩ := GW.of hb); clear hb))
        go_meet
        exact ⟨rfl, _, rfl⟩
      · go_wp2_with (first | (go_at_call 8; (with_reducible refine (cV _).mono ?_); rintro e w1 ⟨rfl, hb⟩; (first | obtain ⟨X3, rfl⟩ := GW.of2 hb | obtain ⟨X3, rfl⟩ := GW.of hb); clear hb) | (go_at_call 15; (with_reducible refine (cM _ (hB.below (GW.grow _))).mono ?_); rintro e w1 ⟨rfl, hb⟩; (first | obtain ⟨X4, rfl⟩ := GW.of2 hb | obtain ⟨X4, rfl⟩ := GW.of hb); clear hb))
        go_meet
        exact ⟨rfl, _, rfl⟩
      · rcases hd with hd | hd | hd | hd | hd
        · have hd2 : (code == c2) = false := by rw [beq_eq_false_iff_ne]; exact fun e => hd e.symm
          clear hd
          go_wp2_with (first | (go_at_call 8; (with_reducible refine (cV _).mono ?_); rintro e w1 ⟨rfl, hb⟩; (first | obtain ⟨X3, rfl⟩ := GW.of2 hb | obtain ⟨X3, rfl⟩ := GW.of hb); clear hb) | (go_at_call 15; (with_reducible refine (cM _ (hB.below (GW.grow _))).mono ?_); rintro e w1 ⟨rfl, hb⟩; (first | obtain ⟨X4, rfl⟩ := GW.of2 hb | obtain ⟨X4, rfl⟩ := GW.of hb); clear hb))
          go_meet
          exact ⟨rfl, _, rfl⟩
        · have hd2 : (rune == r2) = false := by rw [beq_eq_false_iff_ne]; exact fun e => hd e.symm
          clear hd
          go_wp2_with (first | (go_at_call 8; (with_reducible refine (cV _).mono ?_); rintro e w1 ⟨rfl, hb⟩; (first | obtain ⟨X3, rfl⟩ := GW.of2 hb | obtain ⟨X3, rfl⟩ := GW.of hb); clear hb) | (go_at_call 15; (with_reducible refine (cM _ (hB.below (GW.grow _))).mono ?_); rintro e w1 ⟨rfl, hb⟩; (first | obtain ⟨X4, rfl⟩ := GW.of2 hb | obtain ⟨X4, rfl⟩ := GW.of hb); clear hb))
          go_meet
          exact ⟨rfl, _, rfl⟩
        · cases s2 <;> cases sh <;> (first | exact absurd rfl hd | skip)
          all_goals
            clear hd
            go_wp2_with (first | (go_at_call 8; (with_reducible refine (cV _).mono ?_); rintro e w1 ⟨rfl, hb⟩; (first | obtain ⟨X3, rfl⟩ := GW.of2 hb | obtain ⟨X3, rfl⟩ := GW.of hb); clear hb) | (go_at_call 15; (with_reducible refine (cM _ (hB.below (GW.grow _))).mono ?_); rintro e w1 ⟨rfl, hb⟩; (first | obtain ⟨X4, rfl⟩ := GW.of2 hb | obtain ⟨X4, rfl⟩ := GW.of hb); clear hb))
            go_meet
            exact ⟨rfl, _, rfl⟩
        · cases a2 <;> cases al <;> (first | exact absurd rfl hd | skip)
          all_goals
            clear hd
            go_wp2_with (first | (go_at_call 8; (with_reducible refine (cV _).mono ?_); rintro e w1 ⟨rfl, hb⟩; (first | obtain ⟨X3, rfl⟩ := GW.of2 hb | obtain ⟨X3, rfl⟩ := GW.of hb); clear hb) | (go_at_call 15; (with_reducible refine (cM _ (hB.below (GW.grow _))).mono ?_); rintro e w1 ⟨rfl, hb⟩; (first | obtain ⟨X4, rfl⟩ := GW.of2 hb | obtain ⟨X4, rfl⟩ := GW.of hb); clear hb))
            go_meet
            exact ⟨rfl, _, rfl⟩
        · cases t2 <;> cases ct <;> (first | exact absurd rfl hd | skip)
          all_goals
            clear hd
            go_wp2_with (first | (go_at_call 8; (with_reducible refine (cV _).mono ?_); rintro e w1 ⟨rfl, hb⟩; (first | obtain ⟨X3, rfl⟩ := GW.of2 hb | obtain ⟨X3, rfl⟩ := GW.of hb); clear hb) | (go_at_call 15; (with_reducible refine (cM _ (hB.below (GW.grow _))).mono ?_); rintro e w1 ⟨rfl, hb⟩; (first | obtain ⟨X4, rfl⟩ := GW.of2 hb | obtain ⟨X4, rfl⟩ := GW.of hb); clear hb))
            go_meet
            exact ⟨rfl, _, rfl⟩
    case rest =>
    obtain ⟨rfl, X5, rfl⟩ := hcut
    clear HF cNb cNa cM cV
    generalize hgg : gB code rune sh ct nl bk = gg at *
    generalize hS : sB code rune sh al ct app nl bk = S at *
    generalize hT : sB code rune sh al ct false false false = T at *
    generalize hZ : sB code rune sh true ct app nl bk = Z at *
    clear hgg hS hT hZ
    go_upto_region 9 with (first | (go_at_call 18; (with_reducible refine (cx _ (hB.below (GW.grow _))).mono ?_); rintro e w1 ⟨v1, rfl, hx1, hb⟩; obtain ⟨p1, n1, k1, hv1⟩ := hx1.shape; subst hv1; obtain ⟨Y1, rfl⟩ := GW.of2 hb; clear hb) | (go_at_call 18; (with_reducible refine (cy _ (hB.below (GW.grow _))).mono ?_); rintro e w1 ⟨v2, rfl, hy2, hb⟩; obtain ⟨p2, n2, k2, hv2⟩ := hy2.shape; subst hv2; have hx2 := hx1.below hb; clear hx1; obtain ⟨Y2, rfl⟩ := GW.of2 hb; clear hb))
    go_cut [15] (fun t wx => t = .bool (mdB code) ∧ wx = Y2.world)
    case first =>
      clear cx cy cz
      have hcl : code = 1 ∨ code = 2 ∨ code = 3 ∨ code = 4 ∨ code = 5 ∨ (6 ≤ code ∧ code ≤ 11) ∨ 12 ≤ code := by omega
      rcases hcl with rfl | rfl | rfl | rfl | rfl | ⟨h1, h2⟩ | h1
      all_goals
        first | (have hm : mdB code = true := by (unfold mdB; rw [decide_eq_true_eq]; omega)) | (have hm : mdB code = false := by (unfold mdB; rw [decide_eq_false_iff_not]; omega)) | skip
        first | (have a1 : decide (code ≤ 11) = false := by (rw [decide_eq_false_iff_not]; omega)) | skip
        first | (have a2 : (code == 2) = false := by (rw [beq_eq_false_iff_ne]; omega)) | skip
        first | (have a3 : (code == 4) = false := by (rw [beq_eq_false_iff_ne]; omega)) | skip
        go_wp2_with fail
        go_meet
        first | exact ⟨rfl, rfl⟩ | exact ⟨by rw [hm], rfl⟩
    case rest =>
    obtain ⟨rfl, rfl⟩ := hcut
    have kx := run_str (P := Tryd.prog) 44 9 5 Tryd.underlying44 Tryd.underlying5 Tryd.underlying9 hx2
    have ky := run_str (P := Tryd.prog) 44 9 5 Tryd.underlying44 Tryd.underlying5 Tryd.underlying9 hy2
    rw [strOf_bytesOf] at kx ky
    have HG := HG.out
    have cz' := fun W (hb : Below Y2.world.heap.size Y2.world W) => cz W (hB.below (bl_trans (GW.grow Y2) hb))
    clear cx cy cz
    have fin : Below w.heap.size w Y2.world := bl_trans hbW (GW.grow Y2)
    have hcas : mdB code = true ∨ (mdB code = false ∧ T = S) := by
      cases h : mdB code
      · exact .inr ⟨rfl, hs0.out h⟩
      · exact .inl rfl
    clear hs0
    have hfm : ∀ md : Bool, md = true ∨ (md = false ∧ T = S) → True := fun _ _ => trivial
    clear hfm
    generalize mdB code = md at *
    by_cases h5 : code ≤ 5
    · have hsz := hs2.out h5
      cases al
      · rcases HG with ⟨rfl, hi⟩ | ⟨rfl, hi⟩
        · clear hs1 hi
          rcases hcas with rfl | ⟨rfl, rfl⟩
          all_goals
            go_wp2_with (first | (go_at_call 18; (with_reducible refine (cz' _ (by repeat (first | with_reducible exact Below.refl _ _ | with_reducible assumption | with_reducible exact GW.grow _ | with_reducible refine bl_alloc ?_ _ | with_reducible refine Below.drew ?_ | (with_reducible refine Below.setCell ?_ ?_ _; rotate_left; focus (simp; first | done | omega)) | with_reducible refine bl_trans ?_ (GW.grow _) | (with_reducible refine bl_trans ?_ (by assumption))))).mono ?_); rintro e w1 ⟨v3, rfl, hz3, hb⟩; obtain ⟨p3, n3, k3, hv3⟩ := hz3.shape; subst hv3; have fin3 := bl_trans (bl_trans fin (by repeat (first | with_reducible exact Below.refl _ _ | with_reducible assumption | with_reducible exact GW.grow _ | with_reducible refine bl_alloc ?_ _ | with_reducible refine Below.drew ?_ | (with_reducible refine Below.setCell ?_ ?_ _; rotate_left; focus (simp; first | done | omega)) | with_reducible refine bl_trans ?_ (GW.grow _) | (with_reducible refine bl_trans ?_ (by assumption))))) hb; have hg3 := hg.below fin3; clear cz') | (go_at_call 12; (with_reducible refine (known_any _ hg3).mono ?_); rintro e w1 ⟨rfl, hb⟩))
            go_ret
            exact ⟨rfl, bl_trans fin3 hb⟩
        · have hz := hs1.out rfl h5 hi
          subst hz
          clear hs1 hi
          rcases hcas with rfl | ⟨rfl, rfl⟩
          all_goals
            go_wp2_with (first | (go_at_call 18; (with_reducible refine (cz' _ (by repeat (first | with_reducible exact Below.refl _ _ | with_reducible assumption | with_reducible exact GW.grow _ | with_reducible refine bl_alloc ?_ _ | with_reducible refine Below.drew ?_ | (with_reducible refine Below.setCell ?_ ?_ _; rotate_left; focus (simp; first | done | omega)) | with_reducible refine bl_trans ?_ (GW.grow _) | (with_reducible refine bl_trans ?_ (by assumption))))).mono ?_); rintro e w1 ⟨v3, rfl, hz3, hb⟩; obtain ⟨p3, n3, k3, hv3⟩ := hz3.shape; subst hv3; have fin3 := bl_trans (bl_trans fin (by repeat (first | with_reducible exact Below.refl _ _ | with_reducible assumption | with_reducible exact GW.grow _ | with_reducible refine bl_alloc ?_ _ | with_reducible refine Below.drew ?_ | (with_reducible refine Below.setCell ?_ ?_ _; rotate_left; focus (simp; first | done | omega)) | with_reducible refine bl_trans ?_ (GW.grow _) | (with_reducible refine bl_trans ?_ (by assumption))))) hb; have hx3 := hx2.below (bl_trans (by repeat (first | with_reducible exact Below.refl _ _ | with_reducible assumption | with_reducible exact GW.grow _ | with_reducible refine bl_alloc ?_ _ | with_reducible refine Below.drew ?_ | (with_reducible refine Below.setCell ?_ ?_ _; rotate_left; focus (simp; first | done | omega)) | with_reducible refine bl_trans ?_ (GW.grow _) | (with_reducible refine bl_trans ?_ (by assumption)))) hb); have hg3 := hg.below fin3; have kz := run_str (P := Tryd.prog) 44 9 5 Tryd.underlying44 Tryd.underlying5 Tryd.underlying9 hz3; have kx3 := run_str (P := Tryd.prog) 44 9 5 Tryd.underlying44 Tryd.underlying5 Tryd.underlying9 hx3; rw [strOf_bytesOf] at kz kx3; clear cz') | (go_at_call 12; (with_reducible refine (known_any _ hg3).mono ?_); rintro e w1 ⟨rfl, hb⟩))
            go_ret
            exact ⟨rfl, bl_trans fin3 hb⟩
      · have hg3 := hg.below fin
        clear hs1 HG cz'
        rcases hcas with rfl | ⟨rfl, rfl⟩
        all_goals
          go_wp2_with (first | (go_at_call 12; (with_reducible refine (known_any _ hg3).mono ?_); rintro e w1 ⟨rfl, hb⟩))
          go_ret
          exact ⟨rfl, bl_trans fin hb⟩
    · have hg3 := hg.below fin
      clear hs1 HG cz'
      rcases hcas with rfl | ⟨rfl, rfl⟩
      all_goals
        go_wp2_with (first | (go_at_call 12; (with_reducible refine (known_any _ hg3).mono ?_); rintro e w1 ⟨rfl, hb⟩))
        go_ret
        exact ⟨rfl, bl_trans fin hb⟩

set_option maxRecDepth 100000 in
theorem keysHolds_lifted (os : Os) (started : os.Started) (H : Type) (enc : TypeId × Value → H) :
    ReturnsInHanded {} Tryd.checked os 6 .any (fun w args => (Rows.keysHoldsSpec.pre enc Tryd.prog Tryd.f6 [] false w args ∧ laidMetH Tryd.prog laid5 w) ∧ sizedMet enc Tryd.prog Tryd.f6 (OpenSpec.ofChange Rows.keysHoldsSpec) false w args)
      (Rows.keysHoldsSpec.post enc Tryd.prog Tryd.f6 false true false false) := by
  refine returnsInHanded_of_change_and (C := Tryd.checked) (X := fun w _ => laidMetH Tryd.prog laid5 w) (fun _ _ _ hh h => h.of_heap hh) Tryd.own started (by kernel_rfl) Tryd.func6
    (ChangeSpec.witness_shaped (enc := enc) (C := Tryd.checked) (os := os) (X := fun w _ => laidMetH Tryd.prog laid5 w) false (World.laidAll Tryd.prog os laid5) #[.agg #[.int .i64 0, .int .i32 0, .bool false, .bool false, .bool false], .agg #[.int .i64 0, .int .i32 0, .bool false, .bool false, .bool false], .agg #[.bool false, .bool false, .bool false]] 8 (World.laidAll_os _ _ _) (World.shaped_of_ZipB (by kernel_rfl) (by kernel_rfl)) (by kernel_rfl) (by kernel_rfl) (by kernel_rfl) (door_met os _)) ?_
  intro W base args ds gs before hval0 hW _ _ hL _
  have hval : ∀ (j : Nat) t v, Tryd.f6.params[j]? = some t → args[j]? = some v → Value.okWide Tryd.prog W .any base t v := hval0
  have hW' := hW
  obtain ⟨p, q, hA0, hV, rfl, hfz, hnd⟩ := hW
  have hA : DataW.TrodAll enc Tryd.prog W 0 (fun _ => true) true Tryd.f6.params.toList args.toList ds p := hA0
  rw [Tryd.params6] at hA hval
  obtain ⟨v0, v1, v2, d0, d1, d2, p0, p1, p2, rfl, rfl, rfl, h0, h1, h2⟩ := trodAll_three hA
  obtain ⟨rfl, rfl⟩ := trodVars_none hV
  obtain ⟨code, rune, sh, al, ct, rfl, hw⟩ := open_key (hval 0 24 v0 rfl rfl) h0
  obtain ⟨c2, r2, s2, a2, t2, rfl, hw2⟩ := open_key (hval 1 24 v1 rfl rfl) h1
  obtain ⟨app, nl, bk, rfl⟩ := open_input (hval 2 26 v2 rfl rfl) h2
  clear hA0 hval0
  have hT := gl_of_laid hL
  refine (keysHolds_any code rune sh al ct c2 r2 s2 a2 t2 app nl bk W hT (wf_i32 hw) (wf_i32 hw2)).mono fun e W' ⟨he, hw⟩ => ?_
  exact ⟨_, he, post_law Tryd.laidOut rfl hW' (by kernel_rfl) rfl Tryd.underlying4 rfl hw⟩

theorem keysHolds_row : Rows.KeysHoldsSaid :=
  OpenClaim.holds_of_wide 6 Tryd.f6 rfl rfl rfl rfl rfl rfl rfl ⟨rfl, rfl, rfl, rfl, rfl⟩ rfl rfl rfl rfl rfl (by kernel_rfl) Tryd.func6 (by kernel_rfl)
    (of_decide_eq_true (by kernel_rfl)) (by unfold Func.isWrapper; first | (rw [if_pos (by decide +kernel)]; kernel_rfl) | (rw [if_neg (by decide +kernel)]; exact ⟨rfl, rfl⟩))
    (fun os started H enc _ => keysHolds_lifted os started H enc)

set_option maxHeartbeats 8000000 in
set_option maxRecDepth 100000 in
/-- THE TIED CARD. -/
theorem keysHolds_holds : Rows.KeysHoldsCardSaid :=
  Claim7.holds_tied_plain_at .later [] [.data, .data, .data, .data, .pinned] true (true, "890afae7ed2c885f344a8cf78685aad67095242f2643ec5516ae53b0677103bb") false
    keysHolds_row (fun _ h => by cases h) (by kernel_rfl) (fun _ h => by cases h) keysHolds_row_tie rfl ⟨rfl, rfl⟩ (by kernel_rfl) rfl
    (fun f fn hf hfn => by
      obtain rfl : f = 6 := Option.some.inj ((show Tryd.prog.funcNamed "scrollback/scrollbacklaw49.KeysHolds" = some 6 by kernel_rfl).symm.trans hf) |>.symm
      obtain rfl : fn = Tryd.f6 := (Option.some.inj (Tryd.func6.symm.trans hfn)).symm
      exact ⟨by kernel_rfl, fun j t ht => by
        rw [Tryd.params6] at ht
        have hm : t ∈ [24, 24, 26] := by simpa using Array.mem_of_getElem? ht
        have hall : ([24, 24, 26].all fun u => !Tryd.prog.wantsStandIn u) = true := by kernel_rfl
        exact (show Tryd.prog.wantsStandIn t = false by simpa using List.all_eq_true.1 hall t hm)⟩)
    (by kernel_rfl)

end Go.Proofs.YtofjdjjbgnfngaaDoor
