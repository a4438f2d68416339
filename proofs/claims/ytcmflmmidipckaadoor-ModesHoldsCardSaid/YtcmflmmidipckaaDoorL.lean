/- modes: the reference's Text. -/
import Derived.Test.YtcmflmmidipckaaDoorK
import Derived.Test.YtcmflmmidipckaaDoorDec
import Derived.Outline
set_option linter.unusedSimpArgs false
set_option linter.unusedVariables false
set_option linter.unnecessarySimpa false
namespace Go.Proofs.YtcmflmmidipckaaDoor
open Go.RowKit

theorem rnew_any (w : World) : Calls Tryd.prog 9 #[] w fun e w' => e = .returned (.agg #[.bool true, .bool false, .bool false, .bool true, .bool false, .bool false, .bool false, .int .i64 0, .int .i64 0]) ∧ Below w.heap.size w w' := by
  go_enter Tryd.func9, Tryd.ntmps9
  go_wp2_with fail
  refine ret_row (n := 9) rfl rfl Tryd.underlying23 rfl (by kernel_rfl) rfl ⟨_, by simp (maxDischargeDepth := 6) [go_sem] <;> rfl, rfl, ?_⟩
  exact ⟨rfl, (by repeat (first | with_reducible exact Below.refl _ _ | with_reducible assumption | with_reducible exact GW.grow _ | with_reducible refine bl_alloc ?_ _ | with_reducible refine Below.drew ?_ | (with_reducible refine Below.setCell ?_ ?_ _; rotate_left; focus (simp; first | done | omega)) | with_reducible refine bl_trans ?_ (GW.grow _) | (with_reducible refine bl_trans ?_ (by assumption))))⟩
theorem rnew_on {W : World} (X : GW W) (p n : Int) : Calls Tryd.prog 16 #[.agg #[.bool true, .bool false, .bool false, .bool true, .bool false, .bool false, .bool false, .int .i64 0, .int .i64 0], .int .i32 p, .int .i64 n] X.world fun e w' => e = .returned (.bool (onM newM n)) ∧ ∃ Y : GW W, w' = Y.world := GW.call (ron_any newM p n X.world)
theorem pieceM_on (m : Md) (p n : Int) (hv : validM m = true) (hm : isM p n = true) : pieceM m (p, n) = if onM m n = onM newM n then [] else [27, 91] ++ ((if p = 0 then [] else [63]) ++ (Lib.itoa n ++ [if onM m n = true then 104 else 108])) := by
  have e1 : getR m p n = if onM m n = true then 1 else 2 := by unfold getR; rw [hv, hm]; rfl
  have e2 : getR newM p n = if onM newM n = true then 1 else 2 := by unfold getR; rw [hm]; rfl
  unfold pieceM
  simp only [e1, e2]
  cases onM m n <;> cases onM newM n <;> simp
theorem lst_at (k : Nat) (hk : k < 13) : (#[.int .i64 4, .int .i64 1, .int .i64 6, .int .i64 7, .int .i64 25, .int .i64 1000, .int .i64 1002, .int .i64 1003, .int .i64 1006, .int .i64 2004, .int .i64 47, .int .i64 1047, .int .i64 1049] : Array Value)[k]? = some (.int .i64 (ordAt k).2) := by
  match k, hk with
  | 0, _ => rfl
  | 1, _ => rfl
  | 2, _ => rfl
  | 3, _ => rfl
  | 4, _ => rfl
  | 5, _ => rfl
  | 6, _ => rfl
  | 7, _ => rfl
  | 8, _ => rfl
  | 9, _ => rfl
  | 10, _ => rfl
  | 11, _ => rfl
  | 12, _ => rfl
theorem ord_p (k : Nat) (hk : k < 13) : ((ordAt k).1 = 0 ∧ (ordAt k).2 = 4) ∨ ((ordAt k).1 = 63 ∧ (ordAt k).2 ≠ 4) := by
  have key : ∀ j : Fin 13, ((ordAt j.val).1 = 0 ∧ (ordAt j.val).2 = 4) ∨ ((ordAt j.val).1 = 63 ∧ (ordAt j.val).2 ≠ 4) := by decide +kernel
  exact key ⟨k, hk⟩
set_option maxHeartbeats 4000000 in
set_option maxRecDepth 100000 in
theorem rtext_any (m : Md) (w : World) (hv : validM m = true) : Calls Tryd.prog 20 #[.agg #[.bool m.aw, .bool m.ori, .bool m.ins, .bool m.vis, .bool m.app, .bool m.pas, .bool m.sgr, .int .i64 m.ptr, .int .i64 m.alt]] w fun e w' => e = .returned (.string ⟨(textK m 13).toArray⟩) ∧ Below w.heap.size w w' := by
  go_enter Tryd.func20, Tryd.ntmps20
  go_wp2_with fail
  go_loopw [3, 5] (fun s i wr => ∃ (k : Nat) (sb : ByteArray), k ≤ 13 ∧ i = .int .i64 k ∧ s = .string sb ∧ Hid (sb = ⟨(textK m k).toArray⟩) ∧ sb.size ≤ 30 * k ∧ Box wr w.heap.size #[.bool m.aw, .bool m.ori, .bool m.ins, .bool m.vis, .bool m.app, .bool m.pas, .bool m.sgr, .int .i64 m.ptr, .int .i64 m.alt] 23 ∧ Box wr (w.heap.size + 1) #[.int .i64 4, .int .i64 1, .int .i64 6, .int .i64 7, .int .i64 25, .int .i64 1000, .int .i64 1002, .int .i64 1003, .int .i64 1006, .int .i64 2004, .int .i64 47, .int .i64 1047, .int .i64 1049] 3 ∧ Below w.heap.size w wr) (fun _ i _ => 13 - (intOf i).toNat)
  case atStart => exact ⟨0, ⟨#[]⟩, by omega, rfl, rfl, rfl, Nat.zero_le _, (Box.new w _ _ rfl).alloc _, Box.new _ _ _ (by simp), (by repeat (first | with_reducible exact Below.refl _ _ | with_reducible assumption | with_reducible exact GW.grow _ | with_reducible refine bl_alloc ?_ _ | with_reducible refine Below.drew ?_ | (with_reducible refine Below.setCell ?_ ?_ _; rotate_left; focus (simp; first | done | omega)) | with_reducible refine bl_trans ?_ (GW.grow _) | (with_reducible refine bl_trans ?_ (by assumption))))⟩
  case round =>
    obtain ⟨k, sb, hk, rfl, rfl, HS, hss, hbm, hbl, hbel⟩ := hrel
    have hsz := hbel.size
    by_cases hlt : k < 13
    · obtain ⟨_, f2, f3, f4⟩ := ord_facts k hlt
      have f1 := ord_p k hlt
      have HTK := Lib.hid (textK_succ m k hlt)
      have HTL := Lib.hid (textK_len m (k + 1) hlt)
      have hcl : wr.cell? ⟨w.heap.size + 1, k, none⟩ = some (.int .i64 (ordAt k).2) := by rw [hbl.cell]; exact lst_at k hlt
      have hll := hbl.lt
      have hcm := hbm.cell
      have hlm := hbm.lt
      obtain ⟨x, hx⟩ : ∃ x, ordAt k = x := ⟨_, rfl⟩
      rw [hx] at f1 f2 f3 f4 HTK hcl
      obtain ⟨p, n⟩ := x
      simp only at f1 f2 f3 f4 hcl
      have HPM := Lib.hid (pieceM_on m p n hv f2)
      obtain ⟨nn, rfl⟩ : ∃ nn : Nat, n = nn := ⟨n.toNat, by omega⟩
      have hit := Lib.itoa_length_le (nn : Int) (by omega) (by omega)
      have hdn : Lib.itoa (nn : Int) = Lib.decDigits nn := Lib.itoa_nonneg nn
      have r1 : (0 : Int) ≤ (k : Int) := by omega
      have r2 : (k : Int) < 13 := by omega
      rcases f1 with ⟨rfl, f5⟩ | ⟨rfl, f5⟩
      · obtain rfl : nn = 4 := by omega
        go_wp2_with fail
        first | refine wp_grow2 (by kernel_rfl) (by kernel_rfl) ?_ | refine wp_grow (by kernel_rfl) (by kernel_rfl) ?_
        repeat (go_big_quiet_step ((go_at_call 16; exact GW.call (ron_any m _ _ _))))
        refine wpQuiet_nil ?_
        rintro _ ⟨X, rfl⟩
        obtain ⟨W, hW⟩ : ∃ W, X.world = W := ⟨_, rfl⟩
        have hWX : Below wr.heap.size wr W := hW ▸ X.grow
        rw [hW]
        have hcl' := (hWX.cell (p := ⟨_, k, none⟩) hll).trans hcl
        have hll' := Nat.lt_of_lt_of_le hll hWX.size
        go_wp2_with fail
        first | refine wp_grow2 (by kernel_rfl) (by kernel_rfl) ?_ | refine wp_grow (by kernel_rfl) (by kernel_rfl) ?_
        repeat (go_big_quiet_step (first | (go_at_call 9; exact GW.call (rnew_any _)) | (go_at_call 16; exact rnew_on _ _ _)))
        refine wpQuiet_nil ?_
        rintro _ ⟨X, rfl⟩
        obtain ⟨W2, hW2⟩ : ∃ W2, X.world = W2 := ⟨_, rfl⟩
        have hWY : Below wr.heap.size wr W2 := bl_trans hWX (hW2 ▸ X.grow)
        rw [hW2]
        have hcl2 := (hWY.cell (p := ⟨_, k, none⟩) hll).trans hcl
        have hll2 := Nat.lt_of_lt_of_le hll hWY.size
        have hbm2 := (hWY.block _ hlm).trans hbm
        have hbl2 := (hWY.block _ hll).trans hbl
        have hbelW : Below w.heap.size w W2 := bl_trans hbel hWY
        have HPM2 : Hid (pieceM m (0, 4) = if onM m 4 = onM newM 4 then [] else [27, 91] ++ ((if (0 : Int) = 0 then [] else [63]) ++ (Lib.itoa 4 ++ [if onM m 4 = true then 104 else 108]))) := HPM.out
        generalize onM newM 4 = b2 at *
        generalize onM m 4 = b1 at *
        by_cases hb : b1 = true ∧ b2 = true
        · obtain ⟨rfl, rfl⟩ := hb
          have e : textK m (k + 1) = textK m k := by rw [HTK.out]; have h0 := HPM2.out; rw [if_pos rfl] at h0; first | (rw [h0, List.append_nil]) | (erw [h0, List.append_nil])
          have HE := Lib.hid e
          clear e
          go_wp2_with fail
          go_roundw
          case rel => exact ⟨k + 1, sb, by omega, by go_num, rfl, by unfold Hid; rw [HE.out]; exact HS.out, by omega, hbm2, hbl2, hbelW⟩
          case measure => simp [intOf]; omega
        by_cases hb : b1 = true ∧ b2 = false
        · obtain ⟨rfl, rfl⟩ := hb
          have e : textK m (k + 1) = textK m k ++ ([27, 91] ++ ((Lib.decDigits 4 ++ [104]))) := by
            rw [HTK.out]
            have h0 := HPM2.out
            rw [if_neg (by decide)] at h0
            simp at h0
            first | (erw [h0]; simp [hdn]; done) | (erw [h0]; simp [hdn]; rw [show (4 : Int) = ((4 : Nat) : Int) from rfl, Lib.itoa_nonneg])
          have he : (sb ++ ⟨#[27, 91]⟩ ++ ⟨#[]⟩ ++ ⟨(Lib.decDigits 4).toArray⟩ ++ ⟨#[104]⟩ : ByteArray) = ⟨(textK m (k + 1)).toArray⟩ := by
            rw [e, HS.out]
            apply ByteArray.ext; simp
          have hse : (sb ++ ⟨#[27, 91]⟩ ++ ⟨#[]⟩ ++ ⟨(Lib.decDigits 4).toArray⟩ ++ ⟨#[104]⟩ : ByteArray).size ≤ 30 * (k + 1) := by rw [he, size_mk]; exact HTL.out
          have HE := Lib.hid he
          have hdl : (Lib.decDigits 4).length ≤ 21 := by first | (rw [← hdn]; exact hit) | (have := hit; rw [hdn] at this; exact this)
          clear e he
          have cD : ∀ W, Calls Tryd.prog 26 #[.int .i64 4] W fun e w' => e = .returned (.string ⟨(Lib.decDigits 4).toArray⟩) ∧ Below W.heap.size W w' := fun W => decimal_any 4 W (by omega)
          go_wp2_with (go_at_call 26; (with_reducible refine (cD _).mono ?_); rintro e w3 ⟨rfl, hb3⟩)
          go_roundw
          case rel => exact ⟨k + 1, _, by omega, by go_num, rfl, HE, hse, (hb3.block _ (Array.getElem?_eq_some_iff.1 hbm2).1).trans hbm2, (hb3.block _ hll2).trans hbl2, bl_trans hbelW hb3⟩
          case measure => simp [intOf]; omega
        by_cases hb : b1 = false ∧ b2 = true
        · obtain ⟨rfl, rfl⟩ := hb
          have e : textK m (k + 1) = textK m k ++ ([27, 91] ++ ((Lib.decDigits 4 ++ [108]))) := by
            rw [HTK.out]
            have h0 := HPM2.out
            rw [if_neg (by decide)] at h0
            simp at h0
            first | (erw [h0]; simp [hdn]; done) | (erw [h0]; simp [hdn]; rw [show (4 : Int) = ((4 : Nat) : Int) from rfl, Lib.itoa_nonneg])
          have he : (sb ++ ⟨#[27, 91]⟩ ++ ⟨#[]⟩ ++ ⟨(Lib.decDigits 4).toArray⟩ ++ ⟨#[108]⟩ : ByteArray) = ⟨(textK m (k + 1)).toArray⟩ := by
            rw [e, HS.out]
            apply ByteArray.ext; simp
          have hse : (sb ++ ⟨#[27, 91]⟩ ++ ⟨#[]⟩ ++ ⟨(Lib.decDigits 4).toArray⟩ ++ ⟨#[108]⟩ : ByteArray).size ≤ 30 * (k + 1) := by rw [he, size_mk]; exact HTL.out
          have HE := Lib.hid he
          have hdl : (Lib.decDigits 4).length ≤ 21 := by first | (rw [← hdn]; exact hit) | (have := hit; rw [hdn] at this; exact this)
          clear e he
          have cD : ∀ W, Calls Tryd.prog 26 #[.int .i64 4] W fun e w' => e = .returned (.string ⟨(Lib.decDigits 4).toArray⟩) ∧ Below W.heap.size W w' := fun W => decimal_any 4 W (by omega)
          go_wp2_with (go_at_call 26; (with_reducible refine (cD _).mono ?_); rintro e w3 ⟨rfl, hb3⟩)
          go_roundw
          case rel => exact ⟨k + 1, _, by omega, by go_num, rfl, HE, hse, (hb3.block _ (Array.getElem?_eq_some_iff.1 hbm2).1).trans hbm2, (hb3.block _ hll2).trans hbl2, bl_trans hbelW hb3⟩
          case measure => simp [intOf]; omega
        by_cases hb : b1 = false ∧ b2 = false
        · obtain ⟨rfl, rfl⟩ := hb
          have e : textK m (k + 1) = textK m k := by rw [HTK.out]; have h0 := HPM2.out; rw [if_pos rfl] at h0; first | (rw [h0, List.append_nil]) | (erw [h0, List.append_nil])
          have HE := Lib.hid e
          clear e
          go_wp2_with fail
          go_roundw
          case rel => exact ⟨k + 1, sb, by omega, by go_num, rfl, by unfold Hid; rw [HE.out]; exact HS.out, by omega, hbm2, hbl2, hbelW⟩
          case measure => simp [intOf]; omega
        exfalso
        cases b1 <;> cases b2 <;> simp_all
      · have f6 : ((nn : Int) == 4) = false := by simpa using f5
        go_wp2_with fail
        first | refine wp_grow2 (by kernel_rfl) (by kernel_rfl) ?_ | refine wp_grow (by kernel_rfl) (by kernel_rfl) ?_
        repeat (go_big_quiet_step ((go_at_call 16; exact GW.call (ron_any m _ _ _))))
        refine wpQuiet_nil ?_
        rintro _ ⟨X, rfl⟩
        obtain ⟨W, hW⟩ : ∃ W, X.world = W := ⟨_, rfl⟩
        have hWX : Below wr.heap.size wr W := hW ▸ X.grow
        rw [hW]
        have hcl' := (hWX.cell (p := ⟨_, k, none⟩) hll).trans hcl
        have hll' := Nat.lt_of_lt_of_le hll hWX.size
        go_wp2_with fail
        first | refine wp_grow2 (by kernel_rfl) (by kernel_rfl) ?_ | refine wp_grow (by kernel_rfl) (by kernel_rfl) ?_
        repeat (go_big_quiet_step (first | (go_at_call 9; exact GW.call (rnew_any _)) | (go_at_call 16; exact rnew_on _ _ _)))
        refine wpQuiet_nil ?_
        rintro _ ⟨X, rfl⟩
        obtain ⟨W2, hW2⟩ : ∃ W2, X.world = W2 := ⟨_, rfl⟩
        have hWY : Below wr.heap.size wr W2 := bl_trans hWX (hW2 ▸ X.grow)
        rw [hW2]
        have hcl2 := (hWY.cell (p := ⟨_, k, none⟩) hll).trans hcl
        have hll2 := Nat.lt_of_lt_of_le hll hWY.size
        have hbm2 := (hWY.block _ hlm).trans hbm
        have hbl2 := (hWY.block _ hll).trans hbl
        have hbelW : Below w.heap.size w W2 := bl_trans hbel hWY
        have HPM2 : Hid (pieceM m (63, (nn : Int)) = if onM m (nn : Int) = onM newM (nn : Int) then [] else [27, 91] ++ ((if (63 : Int) = 0 then [] else [63]) ++ (Lib.itoa (nn : Int) ++ [if onM m (nn : Int) = true then 104 else 108]))) := HPM.out
        generalize onM newM (nn : Int) = b2 at *
        generalize onM m (nn : Int) = b1 at *
        by_cases hb : b1 = true ∧ b2 = true
        · obtain ⟨rfl, rfl⟩ := hb
          have e : textK m (k + 1) = textK m k := by rw [HTK.out]; have h0 := HPM2.out; rw [if_pos rfl] at h0; first | (rw [h0, List.append_nil]) | (erw [h0, List.append_nil])
          have HE := Lib.hid e
          clear e
          go_wp2_with fail
          go_roundw
          case rel => exact ⟨k + 1, sb, by omega, by go_num, rfl, by unfold Hid; rw [HE.out]; exact HS.out, by omega, hbm2, hbl2, hbelW⟩
          case measure => simp [intOf]; omega
        by_cases hb : b1 = true ∧ b2 = false
        · obtain ⟨rfl, rfl⟩ := hb
          have e : textK m (k + 1) = textK m k ++ ([27, 91] ++ ([63] ++ (Lib.decDigits nn ++ [104]))) := by
            rw [HTK.out]
            have h0 := HPM2.out
            rw [if_neg (by decide)] at h0
            simp at h0
            first | (erw [h0]; simp [hdn]; done) | (erw [h0]; simp [hdn]; rw [show (4 : Int) = ((4 : Nat) : Int) from rfl, Lib.itoa_nonneg])
          have he : (sb ++ ⟨#[27, 91]⟩ ++ ⟨#[63]⟩ ++ ⟨(Lib.decDigits nn).toArray⟩ ++ ⟨#[104]⟩ : ByteArray) = ⟨(textK m (k + 1)).toArray⟩ := by
            rw [e, HS.out]
            apply ByteArray.ext; simp
          have hse : (sb ++ ⟨#[27, 91]⟩ ++ ⟨#[63]⟩ ++ ⟨(Lib.decDigits nn).toArray⟩ ++ ⟨#[104]⟩ : ByteArray).size ≤ 30 * (k + 1) := by rw [he, size_mk]; exact HTL.out
          have HE := Lib.hid he
          have hdl : (Lib.decDigits nn).length ≤ 21 := by first | (rw [← hdn]; exact hit) | (have := hit; rw [hdn] at this; exact this)
          clear e he
          have cD : ∀ W, Calls Tryd.prog 26 #[.int .i64 (nn : Int)] W fun e w' => e = .returned (.string ⟨(Lib.decDigits nn).toArray⟩) ∧ Below W.heap.size W w' := fun W => decimal_any nn W (by omega)
          go_wp2_with (go_at_call 26; (with_reducible refine (cD _).mono ?_); rintro e w3 ⟨rfl, hb3⟩)
          go_roundw
          case rel => exact ⟨k + 1, _, by omega, by go_num, rfl, HE, hse, (hb3.block _ (Array.getElem?_eq_some_iff.1 hbm2).1).trans hbm2, (hb3.block _ hll2).trans hbl2, bl_trans hbelW hb3⟩
          case measure => simp [intOf]; omega
        by_cases hb : b1 = false ∧ b2 = true
        · obtain ⟨rfl, rfl⟩ := hb
          have e : textK m (k + 1) = textK m k ++ ([27, 91] ++ ([63] ++ (Lib.decDigits nn ++ [108]))) := by
            rw [HTK.out]
            have h0 := HPM2.out
            rw [if_neg (by decide)] at h0
            simp at h0
            first | (erw [h0]; simp [hdn]; done) | (erw [h0]; simp [hdn]; rw [show (4 : Int) = ((4 : Nat) : Int) from rfl, Lib.itoa_nonneg])
          have he : (sb ++ ⟨#[27, 91]⟩ ++ ⟨#[63]⟩ ++ ⟨(Lib.decDigits nn).toArray⟩ ++ ⟨#[108]⟩ : ByteArray) = ⟨(textK m (k + 1)).toArray⟩ := by
            rw [e, HS.out]
            apply ByteArray.ext; simp
          have hse : (sb ++ ⟨#[27, 91]⟩ ++ ⟨#[63]⟩ ++ ⟨(Lib.decDigits nn).toArray⟩ ++ ⟨#[108]⟩ : ByteArray).size ≤ 30 * (k + 1) := by rw [he, size_mk]; exact HTL.out
          have HE := Lib.hid he
          have hdl : (Lib.decDigits nn).length ≤ 21 := by first | (rw [← hdn]; exact hit) | (have := hit; rw [hdn] at this; exact this)
          clear e he
          have cD : ∀ W, Calls Tryd.prog 26 #[.int .i64 (nn : Int)] W fun e w' => e = .returned (.string ⟨(Lib.decDigits nn).toArray⟩) ∧ Below W.heap.size W w' := fun W => decimal_any nn W (by omega)
          go_wp2_with (go_at_call 26; (with_reducible refine (cD _).mono ?_); rintro e w3 ⟨rfl, hb3⟩)
          go_roundw
          case rel => exact ⟨k + 1, _, by omega, by go_num, rfl, HE, hse, (hb3.block _ (Array.getElem?_eq_some_iff.1 hbm2).1).trans hbm2, (hb3.block _ hll2).trans hbl2, bl_trans hbelW hb3⟩
          case measure => simp [intOf]; omega
        by_cases hb : b1 = false ∧ b2 = false
        · obtain ⟨rfl, rfl⟩ := hb
          have e : textK m (k + 1) = textK m k := by rw [HTK.out]; have h0 := HPM2.out; rw [if_pos rfl] at h0; first | (rw [h0, List.append_nil]) | (erw [h0, List.append_nil])
          have HE := Lib.hid e
          clear e
          go_wp2_with fail
          go_roundw
          case rel => exact ⟨k + 1, sb, by omega, by go_num, rfl, by unfold Hid; rw [HE.out]; exact HS.out, by omega, hbm2, hbl2, hbelW⟩
          case measure => simp [intOf]; omega
        exfalso
        cases b1 <;> cases b2 <;> simp_all
    · go_wp2_with fail
      go_ret
      obtain rfl : k = 13 := by omega
      refine ⟨?_, hbel⟩
      show Ending.returned (Value.string sb) = _
      rw [HS.out]

end Go.Proofs.YtcmflmmidipckaaDoor
