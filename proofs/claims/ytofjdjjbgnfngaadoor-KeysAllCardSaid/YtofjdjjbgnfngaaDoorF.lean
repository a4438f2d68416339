/- keys: the law's own: a rune, a number, a name. -/
import Derived.Test.YtofjdjjbgnfngaaDoorE
import Derived.Deep.CutBlock
import Derived.Deep.DeepCutAuto
import Derived.Outline
set_option linter.unusedSimpArgs false
set_option linter.unusedVariables false
set_option linter.unnecessarySimpa false
namespace Go.Proofs.YtofjdjjbgnfngaaDoor
open Go.RowKit

theorem enc_1 (r : Int) (h : 0 ≤ r ∧ r < 128) : Utf8.encode r = strOfNums [r] := by
  have hv : Utf8.valid r = true := by unfold Utf8.valid; simp; omega
  unfold Utf8.encode
  simp only [hv, if_true]
  rw [if_pos (by omega)]
  rfl
theorem enc_2 (r : Int) (h : 128 ≤ r ∧ r < 2048) : Utf8.encode r = strOfNums [192 + r / 64, 128 + r % 64] := by
  have hv : Utf8.valid r = true := by unfold Utf8.valid; simp; omega
  unfold Utf8.encode strOfNums
  simp only [hv, if_true, List.map_cons, List.map_nil]
  rw [if_neg (by omega), if_pos (by omega), show (192 + r / 64).toNat = 0xC0 + r.toNat / 64 by omega, show (128 + r % 64).toNat = 0x80 + r.toNat % 64 by omega]
theorem enc_3 (r : Int) (h : 2048 ≤ r ∧ r < 65536) (hs : r < 55296 ∨ 57343 < r) : Utf8.encode r = strOfNums [224 + r / 4096, 128 + r / 64 % 64, 128 + r % 64] := by
  have hv : Utf8.valid r = true := by unfold Utf8.valid; simp; omega
  unfold Utf8.encode strOfNums
  simp only [hv, if_true, List.map_cons, List.map_nil]
  rw [if_neg (by omega), if_neg (by omega), if_pos (by omega), show (224 + r / 4096).toNat = 0xE0 + r.toNat / 4096 by omega, show (128 + r / 64 % 64).toNat = 0x80 + r.toNat / 64 % 64 by omega, show (128 + r % 64).toNat = 0x80 + r.toNat % 64 by omega]
theorem enc_4 (r : Int) (h : 65536 ≤ r ∧ r ≤ 1114111) : Utf8.encode r = strOfNums [240 + r / 262144, 128 + r / 4096 % 64, 128 + r / 64 % 64, 128 + r % 64] := by
  have hv : Utf8.valid r = true := by unfold Utf8.valid; simp; omega
  unfold Utf8.encode strOfNums
  simp only [hv, if_true, List.map_cons, List.map_nil]
  rw [if_neg (by omega), if_neg (by omega), if_neg (by omega), show (240 + r / 262144).toNat = 0xF0 + r.toNat / 262144 by omega, show (128 + r / 4096 % 64).toNat = 0x80 + r.toNat / 4096 % 64 by omega, show (128 + r / 64 % 64).toNat = 0x80 + r.toNat / 64 % 64 by omega, show (128 + r % 64).toNat = 0x80 + r.toNat % 64 by omega]
set_option maxHeartbeats 4000000 in
theorem utf_any (r : Int) (w : World) (hr : 0 ≤ r ∧ r ≤ 1114111) (hs : r < 55296 ∨ 57343 < r) : Calls Tryd.prog 22 #[.int .i32 r] w fun e w' => e = .returned (.string (Utf8.encode r)) ∧ Below w.heap.size w w' := by
  by_cases h1 : r < 128
  · have kc := fun (W : World) => run_str (P := Tryd.prog) 44 9 5 Tryd.underlying44 Tryd.underlying5 Tryd.underlying9 (Rd.lit1 W 5 .u8 (r) W.heap.size rfl)
    have v0 : IntKind.u8.wrap (r) = r := by simp [IntKind.wrap, IntKind.signed, IntKind.bits]; omega
    rw [enc_1 r (by omega)]
    go_enter Tryd.func22, Tryd.ntmps22
    go_wp2_with fail
    go_ret
    exact ⟨rfl, (by repeat (first | with_reducible exact Below.refl _ _ | with_reducible assumption | with_reducible exact GW.grow _ | with_reducible refine bl_alloc ?_ _ | with_reducible refine Below.drew ?_ | (with_reducible refine Below.setCell ?_ ?_ _; rotate_left; focus (simp; first | done | omega)) | with_reducible refine bl_trans ?_ (GW.grow _) | (with_reducible refine bl_trans ?_ (by assumption))))⟩
  by_cases h2 : r < 2048
  · have kc := fun (W : World) => run_str (P := Tryd.prog) 44 9 5 Tryd.underlying44 Tryd.underlying5 Tryd.underlying9 (Rd.lit2 W 5 .u8 (192 + r / 64) (128 + r % 64) W.heap.size rfl)
    have v0 : IntKind.u8.wrap (192 + r / 64) = 192 + r / 64 := by simp [IntKind.wrap, IntKind.signed, IntKind.bits]; omega
    have v1 : IntKind.u8.wrap (128 + r % 64) = 128 + r % 64 := by simp [IntKind.wrap, IntKind.signed, IntKind.bits]; omega
    rw [enc_2 r (by omega)]
    go_enter Tryd.func22, Tryd.ntmps22
    go_wp2_with fail
    go_ret
    exact ⟨rfl, (by repeat (first | with_reducible exact Below.refl _ _ | with_reducible assumption | with_reducible exact GW.grow _ | with_reducible refine bl_alloc ?_ _ | with_reducible refine Below.drew ?_ | (with_reducible refine Below.setCell ?_ ?_ _; rotate_left; focus (simp; first | done | omega)) | with_reducible refine bl_trans ?_ (GW.grow _) | (with_reducible refine bl_trans ?_ (by assumption))))⟩
  by_cases h3 : r < 65536
  · have kc := fun (W : World) => run_str (P := Tryd.prog) 44 9 5 Tryd.underlying44 Tryd.underlying5 Tryd.underlying9 (Rd.lit3 W 5 .u8 (224 + r / 4096) (128 + r / 64 % 64) (128 + r % 64) W.heap.size rfl)
    have v0 : IntKind.u8.wrap (224 + r / 4096) = 224 + r / 4096 := by simp [IntKind.wrap, IntKind.signed, IntKind.bits]; omega
    have v1 : IntKind.u8.wrap (128 + r / 64 % 64) = 128 + r / 64 % 64 := by simp [IntKind.wrap, IntKind.signed, IntKind.bits]; omega
    have v2 : IntKind.u8.wrap (128 + r % 64) = 128 + r % 64 := by simp [IntKind.wrap, IntKind.signed, IntKind.bits]; omega
    rw [enc_3 r (by omega) hs]
    go_enter Tryd.func22, Tryd.ntmps22
    go_wp2_with fail
    go_ret
    exact ⟨rfl, (by repeat (first | with_reducible exact Below.refl _ _ | with_reducible assumption | with_reducible exact GW.grow _ | with_reducible refine bl_alloc ?_ _ | with_reducible refine Below.drew ?_ | (with_reducible refine Below.setCell ?_ ?_ _; rotate_left; focus (simp; first | done | omega)) | with_reducible refine bl_trans ?_ (GW.grow _) | (with_reducible refine bl_trans ?_ (by assumption))))⟩
  · have kc := fun (W : World) => run_str (P := Tryd.prog) 44 9 5 Tryd.underlying44 Tryd.underlying5 Tryd.underlying9 (Rd.lit4 W 5 .u8 (240 + r / 262144) (128 + r / 4096 % 64) (128 + r / 64 % 64) (128 + r % 64) W.heap.size rfl)
    have v0 : IntKind.u8.wrap (240 + r / 262144) = 240 + r / 262144 := by simp [IntKind.wrap, IntKind.signed, IntKind.bits]; omega
    have v1 : IntKind.u8.wrap (128 + r / 4096 % 64) = 128 + r / 4096 % 64 := by simp [IntKind.wrap, IntKind.signed, IntKind.bits]; omega
    have v2 : IntKind.u8.wrap (128 + r / 64 % 64) = 128 + r / 64 % 64 := by simp [IntKind.wrap, IntKind.signed, IntKind.bits]; omega
    have v3 : IntKind.u8.wrap (128 + r % 64) = 128 + r % 64 := by simp [IntKind.wrap, IntKind.signed, IntKind.bits]; omega
    rw [enc_4 r (by omega)]
    go_enter Tryd.func22, Tryd.ntmps22
    go_wp2_with fail
    go_ret
    exact ⟨rfl, (by repeat (first | with_reducible exact Below.refl _ _ | with_reducible assumption | with_reducible exact GW.grow _ | with_reducible refine bl_alloc ?_ _ | with_reducible refine Below.drew ?_ | (with_reducible refine Below.setCell ?_ ?_ _; rotate_left; focus (simp; first | done | omega)) | with_reducible refine bl_trans ?_ (GW.grow _) | (with_reducible refine bl_trans ?_ (by assumption))))⟩
theorem num_1 (n : Int) (h : 0 ≤ n ∧ n < 10) : numS n = strOfNums [48 + n] := by
  obtain ⟨k, rfl⟩ : ∃ k : Nat, n = k := ⟨n.toNat, by omega⟩
  unfold numS
  rw [Lib.itoa_nonneg, Lib.decDigits_one (by omega)]
  unfold strOfNums
  simp only [List.map_cons, List.map_nil]
  rw [show (48 + (k : Int)).toNat = 48 + k by omega]
theorem num_2 (n : Int) (h : 10 ≤ n ∧ n < 100) : numS n = strOfNums [48 + n / 10, 48 + n % 10] := by
  obtain ⟨k, rfl⟩ : ∃ k : Nat, n = k := ⟨n.toNat, by omega⟩
  unfold numS
  rw [Lib.itoa_nonneg, dstep _ (by omega), Lib.decDigits_one (by omega)]
  unfold strOfNums
  simp only [List.map_cons, List.map_nil]
  rw [show (48 + (k : Int) / 10).toNat = 48 + k / 10 by omega, show (48 + (k : Int) % 10).toNat = 48 + k % 10 by omega]
  rfl
set_option maxHeartbeats 4000000 in
theorem dig_any (n : Int) (w : World) (hn : 0 ≤ n ∧ n < 100) : Calls Tryd.prog 21 #[.int .i64 n] w fun e w' => e = .returned (.string (numS n)) ∧ Below w.heap.size w w' := by
  by_cases h1 : n < 10
  · have kc := fun (W : World) => run_str (P := Tryd.prog) 44 9 5 Tryd.underlying44 Tryd.underlying5 Tryd.underlying9 (Rd.lit1 W 5 .u8 (48 + n) W.heap.size rfl)
    have v1 : IntKind.u8.wrap (48 + n) = 48 + n := by simp [IntKind.wrap, IntKind.signed, IntKind.bits]; omega
    rw [num_1 n (by omega)]
    go_enter Tryd.func21, Tryd.ntmps21
    go_wp2_with fail
    go_ret
    exact ⟨rfl, (by repeat (first | with_reducible exact Below.refl _ _ | with_reducible assumption | with_reducible exact GW.grow _ | with_reducible refine bl_alloc ?_ _ | with_reducible refine Below.drew ?_ | (with_reducible refine Below.setCell ?_ ?_ _; rotate_left; focus (simp; first | done | omega)) | with_reducible refine bl_trans ?_ (GW.grow _) | (with_reducible refine bl_trans ?_ (by assumption))))⟩
  · have kc := fun (W : World) => run_str (P := Tryd.prog) 44 9 5 Tryd.underlying44 Tryd.underlying5 Tryd.underlying9 (Rd.lit2 W 5 .u8 (48 + n / 10) (48 + n % 10) W.heap.size rfl)
    have v1 : IntKind.u8.wrap (48 + n / 10) = 48 + n / 10 := by simp [IntKind.wrap, IntKind.signed, IntKind.bits]; omega
    have v2 : IntKind.u8.wrap (48 + n % 10) = 48 + n % 10 := by simp [IntKind.wrap, IntKind.signed, IntKind.bits]; omega
    rw [num_2 n (by omega)]
    go_enter Tryd.func21, Tryd.ntmps21
    go_wp2_with fail
    go_ret
    exact ⟨rfl, (by repeat (first | with_reducible exact Below.refl _ _ | with_reducible assumption | with_reducible exact GW.grow _ | with_reducible refine bl_alloc ?_ _ | with_reducible refine Below.drew ?_ | (with_reducible refine Below.setCell ?_ ?_ _; rotate_left; focus (simp; first | done | omega)) | with_reducible refine bl_trans ?_ (GW.grow _) | (with_reducible refine bl_trans ?_ (by assumption))))⟩
set_option maxHeartbeats 8000000 in
set_option maxRecDepth 100000 in
theorem rname_any (code rune : Int) (sh al ct : Bool) (w : World) (hv : validK code rune = true) : Calls Tryd.prog 14 #[.agg #[.int .i64 code, .int .i32 rune, .bool sh, .bool al, .bool ct]] w fun e w' => e = .returned (.string (nameS code rune sh al ct)) ∧ Below w.heap.size w w' := by
  have hvk := hv
  unfold validK at hvk
  have hvk := of_decide_eq_true hvk
  have xk0 : Box (w.alloc (.cells #[.int .i64 code, .int .i32 rune, .bool sh, .bool al, .bool ct] 24)) w.heap.size #[.int .i64 code, .int .i32 rune, .bool sh, .bool al, .bool ct] 24 := Box.new _ _ _ rfl
  have hb0 : Below w.heap.size w (w.alloc (.cells #[.int .i64 code, .int .i32 rune, .bool sh, .bool al, .bool ct] 24)) := bl_alloc (Below.refl _ _) _
  go_enter Tryd.func14, Tryd.ntmps14
  have HV := Lib.hid hvk
  clear hvk
  go_upto_region 2 with fail
  obtain ⟨W0, hW0⟩ : ∃ W0, w.alloc (.cells #[.int .i64 code, .int .i32 rune, .bool sh, .bool al, .bool ct] 24) = W0 := ⟨_, rfl⟩
  rw [hW0] at xk0 hb0 ⊢
  clear hW0
  have ck := xk0.cell
  have lk := xk0.lt
  have hp0 : (⟨#[]⟩ : ByteArray) = preP ct al sh 0 := rfl
  rw [hp0]
  clear hp0
  go_upto_if 6 with fail
  go_cut [3] (fun sv wx => sv = .string (preP ct al sh 1) ∧ W0 = wx)
  case first =>
    have HN := Lib.hid (preP_next ct al sh 0 (by omega))
    have hps := preP_size ct al sh 0
    have hfl : flagP ct al sh 0 = ct := rfl
    have hmk : markP 0 = ⟨#[67, 45]⟩ := rfl
    have hms : (⟨#[67, 45]⟩ : ByteArray).size = 2 := rfl
    rw [hfl, hmk] at HN
    clear hfl hmk
    generalize preP ct al sh 0 = pj at *
    generalize preP ct al sh 1 = pn at *
    cases ct
    · go_wp2_with fail
      go_meet
      exact ⟨by rw [HN.out]; rfl, rfl⟩
    · have hsz : ¬ 9223372036854775807 < pj.size + (⟨#[67, 45]⟩ : ByteArray).size := by omega
      go_wp2_with fail
      go_meet
      exact ⟨by rw [HN.out]; rfl, rfl⟩
  case rest =>
  obtain ⟨rfl, rfl⟩ := hcut
  go_upto_if 10 with fail
  go_cut [3] (fun sv wx => sv = .string (preP ct al sh 2) ∧ W0 = wx)
  case first =>
    have HN := Lib.hid (preP_next ct al sh 1 (by omega))
    have hps := preP_size ct al sh 1
    have hfl : flagP ct al sh 1 = al := rfl
    have hmk : markP 1 = ⟨#[65, 45]⟩ := rfl
    have hms : (⟨#[65, 45]⟩ : ByteArray).size = 2 := rfl
    rw [hfl, hmk] at HN
    clear hfl hmk
    generalize preP ct al sh 1 = pj at *
    generalize preP ct al sh 2 = pn at *
    cases al
    · go_wp2_with fail
      go_meet
      exact ⟨by rw [HN.out]; rfl, rfl⟩
    · have hsz : ¬ 9223372036854775807 < pj.size + (⟨#[65, 45]⟩ : ByteArray).size := by omega
      go_wp2_with fail
      go_meet
      exact ⟨by rw [HN.out]; rfl, rfl⟩
  case rest =>
  obtain ⟨rfl, rfl⟩ := hcut
  go_upto_if 14 with fail
  go_cut [3] (fun sv wx => sv = .string (preP ct al sh 3) ∧ W0 = wx)
  case first =>
    have HN := Lib.hid (preP_next ct al sh 2 (by omega))
    have hps := preP_size ct al sh 2
    have hfl : flagP ct al sh 2 = sh := rfl
    have hmk : markP 2 = ⟨#[83, 45]⟩ := rfl
    have hms : (⟨#[83, 45]⟩ : ByteArray).size = 2 := rfl
    rw [hfl, hmk] at HN
    clear hfl hmk
    generalize preP ct al sh 2 = pj at *
    generalize preP ct al sh 3 = pn at *
    cases sh
    · go_wp2_with fail
      go_meet
      exact ⟨by rw [HN.out]; rfl, rfl⟩
    · have hsz : ¬ 9223372036854775807 < pj.size + (⟨#[83, 45]⟩ : ByteArray).size := by omega
      go_wp2_with fail
      go_meet
      exact ⟨by rw [HN.out]; rfl, rfl⟩
  case rest =>
  obtain ⟨rfl, rfl⟩ := hcut
  have hps := preP_size ct al sh 3
  have HS : Hid (∀ c r, nameS c r sh al ct = preP ct al sh 3 ++ baseS c r) := fun _ _ => rfl
  have HS := Lib.hid (HS.out code rune)
  generalize preP ct al sh 3 = pj at *
  have hvk := HV.out
  by_cases h1 : code = 1
  · subst h1
    by_cases h2 : rune = 32
    · subst h2
      have HE : Hid (nameS 1 32 sh al ct = pj ++ ⟨#[83, 112, 97, 99, 101]⟩) := HS.out
      clear HS hvk
      go_wp2_with fail
      go_ret
      exact ⟨by rw [HE.out]; rfl, bl_alloc hb0 _⟩
    · have hE : baseS 1 rune = Utf8.encode rune := by unfold baseS; rw [if_pos rfl, if_neg h2]
      have h2' : (rune == 32) = false := by simpa using h2
      have HE : Hid (nameS 1 rune sh al ct = pj ++ Utf8.encode rune) := by rw [← hE]; exact HS.out
      have hes := enc_size rune
      have cU := fun W => utf_any rune W (by omega) (by omega)
      clear HS hE hvk
      generalize Utf8.encode rune = eu at *
      go_wp2_with (go_at_call 22; (with_reducible refine (cU _).mono ?_); rintro e w1 ⟨rfl, hb1⟩)
      go_ret
      exact ⟨by rw [HE.out]; rfl, bl_trans (bl_alloc hb0 _) hb1⟩
  have hcode : code = 2 ∨ code = 3 ∨ code = 4 ∨ code = 5 ∨ code = 6 ∨ code = 7 ∨ code = 8 ∨ code = 9 ∨ code = 10 ∨ code = 11 ∨ code = 12 ∨ code = 13 ∨ code = 14 ∨ code = 15 ∨ code = 16 ∨ code = 17 ∨ code = 18 ∨ code = 19 ∨ code = 20 ∨ code = 21 ∨ code = 22 ∨ code = 23 ∨ code = 24 ∨ code = 25 ∨ code = 26 ∨ code = 27 := by omega
  clear hvk h1
  rcases hcode with rfl | rfl | rfl | rfl | rfl | rfl | rfl | rfl | rfl | rfl | rfl | rfl | rfl | rfl | rfl | rfl | rfl | rfl | rfl | rfl | rfl | rfl | rfl | rfl | rfl | rfl
  · have hE : baseS 2 rune = ⟨#[69, 110, 116, 101, 114]⟩ := rfl
    have HE : Hid (nameS 2 rune sh al ct = pj ++ baseS 2 rune) := HS.out
    rw [hE] at HE
    clear HS hE
    go_wp2_with fail
    go_ret
    exact ⟨by rw [HE.out]; rfl, bl_alloc hb0 _⟩
  · have hE : baseS 3 rune = ⟨#[84, 97, 98]⟩ := rfl
    have HE : Hid (nameS 3 rune sh al ct = pj ++ baseS 3 rune) := HS.out
    rw [hE] at HE
    clear HS hE
    go_wp2_with fail
    go_ret
    exact ⟨by rw [HE.out]; rfl, bl_alloc hb0 _⟩
  · have hE : baseS 4 rune = ⟨#[66, 97, 99, 107, 115, 112, 97, 99, 101]⟩ := rfl
    have HE : Hid (nameS 4 rune sh al ct = pj ++ baseS 4 rune) := HS.out
    rw [hE] at HE
    clear HS hE
    go_wp2_with fail
    go_ret
    exact ⟨by rw [HE.out]; rfl, bl_alloc hb0 _⟩
  · have hE : baseS 5 rune = ⟨#[69, 115, 99, 97, 112, 101]⟩ := rfl
    have HE : Hid (nameS 5 rune sh al ct = pj ++ baseS 5 rune) := HS.out
    rw [hE] at HE
    clear HS hE
    go_wp2_with fail
    go_ret
    exact ⟨by rw [HE.out]; rfl, bl_alloc hb0 _⟩
  · have hE : baseS 6 rune = ⟨#[85, 112]⟩ := rfl
    have HE : Hid (nameS 6 rune sh al ct = pj ++ baseS 6 rune) := HS.out
    rw [hE] at HE
    clear HS hE
    go_wp2_with fail
    go_ret
    exact ⟨by rw [HE.out]; rfl, bl_alloc hb0 _⟩
  · have hE : baseS 7 rune = ⟨#[68, 111, 119, 110]⟩ := rfl
    have HE : Hid (nameS 7 rune sh al ct = pj ++ baseS 7 rune) := HS.out
    rw [hE] at HE
    clear HS hE
    go_wp2_with fail
    go_ret
    exact ⟨by rw [HE.out]; rfl, bl_alloc hb0 _⟩
  · have hE : baseS 8 rune = ⟨#[82, 105, 103, 104, 116]⟩ := rfl
    have HE : Hid (nameS 8 rune sh al ct = pj ++ baseS 8 rune) := HS.out
    rw [hE] at HE
    clear HS hE
    go_wp2_with fail
    go_ret
    exact ⟨by rw [HE.out]; rfl, bl_alloc hb0 _⟩
  · have hE : baseS 9 rune = ⟨#[76, 101, 102, 116]⟩ := rfl
    have HE : Hid (nameS 9 rune sh al ct = pj ++ baseS 9 rune) := HS.out
    rw [hE] at HE
    clear HS hE
    go_wp2_with fail
    go_ret
    exact ⟨by rw [HE.out]; rfl, bl_alloc hb0 _⟩
  · have hE : baseS 10 rune = ⟨#[72, 111, 109, 101]⟩ := rfl
    have HE : Hid (nameS 10 rune sh al ct = pj ++ baseS 10 rune) := HS.out
    rw [hE] at HE
    clear HS hE
    go_wp2_with fail
    go_ret
    exact ⟨by rw [HE.out]; rfl, bl_alloc hb0 _⟩
  · have hE : baseS 11 rune = ⟨#[69, 110, 100]⟩ := rfl
    have HE : Hid (nameS 11 rune sh al ct = pj ++ baseS 11 rune) := HS.out
    rw [hE] at HE
    clear HS hE
    go_wp2_with fail
    go_ret
    exact ⟨by rw [HE.out]; rfl, bl_alloc hb0 _⟩
  · have hE : baseS 12 rune = ⟨#[73, 110, 115, 101, 114, 116]⟩ := rfl
    have HE : Hid (nameS 12 rune sh al ct = pj ++ baseS 12 rune) := HS.out
    rw [hE] at HE
    clear HS hE
    go_wp2_with fail
    go_ret
    exact ⟨by rw [HE.out]; rfl, bl_alloc hb0 _⟩
  · have hE : baseS 13 rune = ⟨#[68, 101, 108, 101, 116, 101]⟩ := rfl
    have HE : Hid (nameS 13 rune sh al ct = pj ++ baseS 13 rune) := HS.out
    rw [hE] at HE
    clear HS hE
    go_wp2_with fail
    go_ret
    exact ⟨by rw [HE.out]; rfl, bl_alloc hb0 _⟩
  · have hE : baseS 14 rune = ⟨#[80, 97, 103, 101, 85, 112]⟩ := rfl
    have HE : Hid (nameS 14 rune sh al ct = pj ++ baseS 14 rune) := HS.out
    rw [hE] at HE
    clear HS hE
    go_wp2_with fail
    go_ret
    exact ⟨by rw [HE.out]; rfl, bl_alloc hb0 _⟩
  · have hE : baseS 15 rune = ⟨#[80, 97, 103, 101, 68, 111, 119, 110]⟩ := rfl
    have HE : Hid (nameS 15 rune sh al ct = pj ++ baseS 15 rune) := HS.out
    rw [hE] at HE
    clear HS hE
    go_wp2_with fail
    go_ret
    exact ⟨by rw [HE.out]; rfl, bl_alloc hb0 _⟩
  · have hE : baseS 16 rune = ⟨#[70, 49]⟩ := rfl
    have HE : Hid (nameS 16 rune sh al ct = pj ++ baseS 16 rune) := HS.out
    rw [hE] at HE
    clear HS hE
    have cD := fun W => dig_any 1 W (by omega)
    rw [n1] at cD
    have hq : (pj ++ (⟨#[70]⟩ : ByteArray)) ++ ⟨#[49]⟩ = pj ++ ⟨#[70, 49]⟩ := by rw [ByteArray.append_assoc]; rfl
    have HQ := Lib.hid hq
    clear hq
    go_wp2_with (go_at_call 21; (with_reducible refine (cD _).mono ?_); rintro e w1 ⟨rfl, hb1⟩)
    go_ret
    exact ⟨by rw [HE.out, ← HQ.out]; rfl, bl_trans (bl_alloc hb0 _) hb1⟩
  · have hE : baseS 17 rune = ⟨#[70, 50]⟩ := rfl
    have HE : Hid (nameS 17 rune sh al ct = pj ++ baseS 17 rune) := HS.out
    rw [hE] at HE
    clear HS hE
    have cD := fun W => dig_any 2 W (by omega)
    rw [n2] at cD
    have hq : (pj ++ (⟨#[70]⟩ : ByteArray)) ++ ⟨#[50]⟩ = pj ++ ⟨#[70, 50]⟩ := by rw [ByteArray.append_assoc]; rfl
    have HQ := Lib.hid hq
    clear hq
    go_wp2_with (go_at_call 21; (with_reducible refine (cD _).mono ?_); rintro e w1 ⟨rfl, hb1⟩)
    go_ret
    exact ⟨by rw [HE.out, ← HQ.out]; rfl, bl_trans (bl_alloc hb0 _) hb1⟩
  · have hE : baseS 18 rune = ⟨#[70, 51]⟩ := rfl
    have HE : Hid (nameS 18 rune sh al ct = pj ++ baseS 18 rune) := HS.out
    rw [hE] at HE
    clear HS hE
    have cD := fun W => dig_any 3 W (by omega)
    rw [n3] at cD
    have hq : (pj ++ (⟨#[70]⟩ : ByteArray)) ++ ⟨#[51]⟩ = pj ++ ⟨#[70, 51]⟩ := by rw [ByteArray.append_assoc]; rfl
    have HQ := Lib.hid hq
    clear hq
    go_wp2_with (go_at_call 21; (with_reducible refine (cD _).mono ?_); rintro e w1 ⟨rfl, hb1⟩)
    go_ret
    exact ⟨by rw [HE.out, ← HQ.out]; rfl, bl_trans (bl_alloc hb0 _) hb1⟩
  · have hE : baseS 19 rune = ⟨#[70, 52]⟩ := rfl
    have HE : Hid (nameS 19 rune sh al ct = pj ++ baseS 19 rune) := HS.out
    rw [hE] at HE
    clear HS hE
    have cD := fun W => dig_any 4 W (by omega)
    rw [n4] at cD
    have hq : (pj ++ (⟨#[70]⟩ : ByteArray)) ++ ⟨#[52]⟩ = pj ++ ⟨#[70, 52]⟩ := by rw [ByteArray.append_assoc]; rfl
    have HQ := Lib.hid hq
    clear hq
    go_wp2_with (go_at_call 21; (with_reducible refine (cD _).mono ?_); rintro e w1 ⟨rfl, hb1⟩)
    go_ret
    exact ⟨by rw [HE.out, ← HQ.out]; rfl, bl_trans (bl_alloc hb0 _) hb1⟩
  · have hE : baseS 20 rune = ⟨#[70, 53]⟩ := rfl
    have HE : Hid (nameS 20 rune sh al ct = pj ++ baseS 20 rune) := HS.out
    rw [hE] at HE
    clear HS hE
    have cD := fun W => dig_any 5 W (by omega)
    rw [n5] at cD
    have hq : (pj ++ (⟨#[70]⟩ : ByteArray)) ++ ⟨#[53]⟩ = pj ++ ⟨#[70, 53]⟩ := by rw [ByteArray.append_assoc]; rfl
    have HQ := Lib.hid hq
    clear hq
    go_wp2_with (go_at_call 21; (with_reducible refine (cD _).mono ?_); rintro e w1 ⟨rfl, hb1⟩)
    go_ret
    exact ⟨by rw [HE.out, ← HQ.out]; rfl, bl_trans (bl_alloc hb0 _) hb1⟩
  · have hE : baseS 21 rune = ⟨#[70, 54]⟩ := rfl
    have HE : Hid (nameS 21 rune sh al ct = pj ++ baseS 21 rune) := HS.out
    rw [hE] at HE
    clear HS hE
    have cD := fun W => dig_any 6 W (by omega)
    rw [n6] at cD
    have hq : (pj ++ (⟨#[70]⟩ : ByteArray)) ++ ⟨#[54]⟩ = pj ++ ⟨#[70, 54]⟩ := by rw [ByteArray.append_assoc]; rfl
    have HQ := Lib.hid hq
    clear hq
    go_wp2_with (go_at_call 21; (with_reducible refine (cD _).mono ?_); rintro e w1 ⟨rfl, hb1⟩)
    go_ret
    exact ⟨by rw [HE.out, ← HQ.out]; rfl, bl_trans (bl_alloc hb0 _) hb1⟩
  · have hE : baseS 22 rune = ⟨#[70, 55]⟩ := rfl
    have HE : Hid (nameS 22 rune sh al ct = pj ++ baseS 22 rune) := HS.out
    rw [hE] at HE
    clear HS hE
    have cD := fun W => dig_any 7 W (by omega)
    rw [n7] at cD
    have hq : (pj ++ (⟨#[70]⟩ : ByteArray)) ++ ⟨#[55]⟩ = pj ++ ⟨#[70, 55]⟩ := by rw [ByteArray.append_assoc]; rfl
    have HQ := Lib.hid hq
    clear hq
    go_wp2_with (go_at_call 21; (with_reducible refine (cD _).mono ?_); rintro e w1 ⟨rfl, hb1⟩)
    go_ret
    exact ⟨by rw [HE.out, ← HQ.out]; rfl, bl_trans (bl_alloc hb0 _) hb1⟩
  · have hE : baseS 23 rune = ⟨#[70, 56]⟩ := rfl
    have HE : Hid (nameS 23 rune sh al ct = pj ++ baseS 23 rune) := HS.out
    rw [hE] at HE
    clear HS hE
    have cD := fun W => dig_any 8 W (by omega)
    rw [n8] at cD
    have hq : (pj ++ (⟨#[70]⟩ : ByteArray)) ++ ⟨#[56]⟩ = pj ++ ⟨#[70, 56]⟩ := by rw [ByteArray.append_assoc]; rfl
    have HQ := Lib.hid hq
    clear hq
    go_wp2_with (go_at_call 21; (with_reducible refine (cD _).mono ?_); rintro e w1 ⟨rfl, hb1⟩)
    go_ret
    exact ⟨by rw [HE.out, ← HQ.out]; rfl, bl_trans (bl_alloc hb0 _) hb1⟩
  · have hE : baseS 24 rune = ⟨#[70, 57]⟩ := rfl
    have HE : Hid (nameS 24 rune sh al ct = pj ++ baseS 24 rune) := HS.out
    rw [hE] at HE
    clear HS hE
    have cD := fun W => dig_any 9 W (by omega)
    rw [n9] at cD
    have hq : (pj ++ (⟨#[70]⟩ : ByteArray)) ++ ⟨#[57]⟩ = pj ++ ⟨#[70, 57]⟩ := by rw [ByteArray.append_assoc]; rfl
    have HQ := Lib.hid hq
    clear hq
    go_wp2_with (go_at_call 21; (with_reducible refine (cD _).mono ?_); rintro e w1 ⟨rfl, hb1⟩)
    go_ret
    exact ⟨by rw [HE.out, ← HQ.out]; rfl, bl_trans (bl_alloc hb0 _) hb1⟩
  · have hE : baseS 25 rune = ⟨#[70, 49, 48]⟩ := rfl
    have HE : Hid (nameS 25 rune sh al ct = pj ++ baseS 25 rune) := HS.out
    rw [hE] at HE
    clear HS hE
    have cD := fun W => dig_any 10 W (by omega)
    rw [n10] at cD
    have hq : (pj ++ (⟨#[70]⟩ : ByteArray)) ++ ⟨#[49, 48]⟩ = pj ++ ⟨#[70, 49, 48]⟩ := by rw [ByteArray.append_assoc]; rfl
    have HQ := Lib.hid hq
    clear hq
    go_wp2_with (go_at_call 21; (with_reducible refine (cD _).mono ?_); rintro e w1 ⟨rfl, hb1⟩)
    go_ret
    exact ⟨by rw [HE.out, ← HQ.out]; rfl, bl_trans (bl_alloc hb0 _) hb1⟩
  · have hE : baseS 26 rune = ⟨#[70, 49, 49]⟩ := rfl
    have HE : Hid (nameS 26 rune sh al ct = pj ++ baseS 26 rune) := HS.out
    rw [hE] at HE
    clear HS hE
    have cD := fun W => dig_any 11 W (by omega)
    rw [n11] at cD
    have hq : (pj ++ (⟨#[70]⟩ : ByteArray)) ++ ⟨#[49, 49]⟩ = pj ++ ⟨#[70, 49, 49]⟩ := by rw [ByteArray.append_assoc]; rfl
    have HQ := Lib.hid hq
    clear hq
    go_wp2_with (go_at_call 21; (with_reducible refine (cD _).mono ?_); rintro e w1 ⟨rfl, hb1⟩)
    go_ret
    exact ⟨by rw [HE.out, ← HQ.out]; rfl, bl_trans (bl_alloc hb0 _) hb1⟩
  · have hE : baseS 27 rune = ⟨#[70, 49, 50]⟩ := rfl
    have HE : Hid (nameS 27 rune sh al ct = pj ++ baseS 27 rune) := HS.out
    rw [hE] at HE
    clear HS hE
    have cD := fun W => dig_any 12 W (by omega)
    rw [n12] at cD
    have hq : (pj ++ (⟨#[70]⟩ : ByteArray)) ++ ⟨#[49, 50]⟩ = pj ++ ⟨#[70, 49, 50]⟩ := by rw [ByteArray.append_assoc]; rfl
    have HQ := Lib.hid hq
    clear hq
    go_wp2_with (go_at_call 21; (with_reducible refine (cD _).mono ?_); rintro e w1 ⟨rfl, hb1⟩)
    go_ret
    exact ⟨by rw [HE.out, ← HQ.out]; rfl, bl_trans (bl_alloc hb0 _) hb1⟩

end Go.Proofs.YtofjdjjbgnfngaaDoor
