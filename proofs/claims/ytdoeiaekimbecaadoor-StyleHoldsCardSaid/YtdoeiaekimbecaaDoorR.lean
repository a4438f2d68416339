/- style: the reference's Text. Printed by mk_r.py. -/
import Derived.Test.YtdoeiaekimbecaaDoorQ
import Derived.Test.YtdoeiaekimbecaaDoorK
import Derived.Test.YtdoeiaekimbecaaDoorDec
import Derived.Outline
set_option linter.unusedSimpArgs false
set_option linter.unusedVariables false
set_option linter.unnecessarySimpa false
namespace Go.Proofs.YtdoeiaekimbecaaDoor
open Go.RowKit

theorem Rd.cellsAt {w : World} {k : IntKind} {p : Option Addr} {n cap : Nat} {xs : List Int} (h : Rd w k (.slice p n cap) xs) : (p = none ∧ cap = 0) ∨ ∃ b off, p = some ⟨b, off, none⟩ ∧ b < w.heap.size ∧ ∀ i x, xs[i]? = some x → w.cell? ⟨b, off + i, none⟩ = some (.int k x) := by
  obtain ⟨p', c', hv, _, _, h3⟩ := h
  injection hv with e1 e2 e3
  subst e1 e3
  exact h3
/-- Numbers in a sequence that has m of them. -/
def grpL : Nat → List Int → List UInt8
  | _, [] => []
  | m, x :: xs => ((if m = 0 then [27, 91] else [59]) ++ Pm.numB x) ++ grpL (m + 1) xs
theorem grpL_app (xs ys : List Int) : ∀ m, grpL m (xs ++ ys) = grpL m xs ++ grpL (m + xs.length) ys := by
  induction xs with
  | nil => intro m; rfl
  | cons x xs ih =>
    intro m
    simp only [List.cons_append, grpL, ih, List.length_cons, List.append_assoc]
    rw [show m + 1 + xs.length = m + (xs.length + 1) by omega]
theorem grpL_succ (xs : List Int) (m i : Nat) (h : i < xs.length) : grpL m (xs.take (i + 1)) = grpL m (xs.take i) ++ ((if m + i = 0 then [27, 91] else [59]) ++ Pm.numB xs[i]) := by
  rw [List.take_succ_eq_append_getElem h, grpL_app]
  congr 1
  rw [List.length_take, show min i xs.length = i by omega]
  simp [grpL]
theorem tail_grp (xs : List Int) : ∀ m, grpL (m + 1) xs = Lib.joinTail [59] (xs.map Pm.numB) := by
  induction xs with
  | nil => intro m; rfl
  | cons x xs ih =>
    intro m
    simp only [grpL, List.map_cons, ih (m + 1)]
    rw [if_neg (by omega)]
    simp [Lib.joinTail]
theorem grp_text (xs : List Int) (h : xs ≠ []) : grpL 0 xs = [27, 91] ++ Pm.textB xs := by
  cases xs with
  | nil => exact absurd rfl h
  | cons x xs =>
    simp only [grpL, Pm.textB, List.map_cons, Lib.join_cons, if_pos, tail_grp xs 0, List.append_assoc]
def restN (m : Nat) (l : List Int) : List UInt8 :=
  if h : l = [] then (if m = 0 then [] else [109]) else if 0 < m ∧ 16 < m + groupN l then [109] ++ (grpL 0 (l.take (groupN l)) ++ restN (groupN l) (l.drop (groupN l))) else grpL m (l.take (groupN l)) ++ restN (m + groupN l) (l.drop (groupN l))
termination_by l.length
decreasing_by
  all_goals
    have := group_pos l h
    rw [List.length_drop]; omega
theorem restN_nil (m : Nat) : restN m [] = if m = 0 then [] else [109] := by rw [restN, dif_pos rfl]
theorem restN_step (m : Nat) (l : List Int) (h : l ≠ []) : restN m l = if 0 < m ∧ 16 < m + groupN l then [109] ++ (grpL 0 (l.take (groupN l)) ++ restN (groupN l) (l.drop (groupN l))) else grpL m (l.take (groupN l)) ++ restN (m + groupN l) (l.drop (groupN l)) := by
  conv => lhs; rw [restN, dif_neg h]
theorem rest_text (k : Nat) : ∀ l : List Int, l.length ≤ k → restN 0 l = textN l ∧ ∀ m, 0 < m → restN m l = grpL m (l.take (fitN m l)) ++ [109] ++ textN (l.drop (fitN m l)) := by
  induction k with
  | zero =>
    intro l hl
    have : l = [] := List.length_eq_zero_iff.1 (by omega)
    subst this
    refine ⟨by rw [restN_nil]; rfl, fun m hm => ?_⟩
    rw [restN_nil, if_neg (by omega), fitN_nil]
    simp [grpL, textN_nil]
  | succ k ih =>
    intro l hl
    by_cases hn : l = []
    · subst hn
      refine ⟨by rw [restN_nil]; rfl, fun m hm => ?_⟩
      rw [restN_nil, if_neg (by omega), fitN_nil]
      simp [grpL, textN_nil]
    · have hg := group_pos l hn
      have h5 := group_le l
      have IH := ih (l.drop (groupN l)) (by rw [List.length_drop]; omega)
      have key : ∀ m, 0 < m + groupN l → grpL m (l.take (groupN l)) ++ restN (m + groupN l) (l.drop (groupN l)) = grpL m (l.take (groupN l + fitN (m + groupN l) (l.drop (groupN l)))) ++ [109] ++ textN (l.drop (groupN l + fitN (m + groupN l) (l.drop (groupN l)))) := by
        intro m hm
        have hlt : (l.take (groupN l)).length = groupN l := by rw [List.length_take]; omega
        rw [IH.2 _ hm, List.take_add, grpL_app, hlt, List.drop_drop]
        simp only [List.append_assoc]
      have h0 : restN 0 l = textN l := by
        rw [restN_step 0 l hn, if_neg (by omega), key 0 (by omega), textN_step l hn, fitN_step 0 l hn, if_neg (by omega), grp_text]
        intro e
        have := congrArg List.length e
        rw [List.length_take, List.length_nil] at this
        omega
      refine ⟨h0, fun m hm => ?_⟩
      rw [restN_step m l hn, fitN_step m l hn]
      by_cases h16 : 16 < m + groupN l
      · rw [if_pos ⟨hm, h16⟩, if_pos h16]
        rw [restN_step 0 l hn, if_neg (by omega), Nat.zero_add] at h0
        rw [h0]
        simp [grpL]
      · rw [if_neg (fun h => h16 h.2), if_neg h16]
        exact key m (by omega)
theorem rest_eq (l : List Int) : restN 0 l = textN l := (rest_text l.length l (Nat.le_refl _)).1
set_option maxHeartbeats 8000000 in
set_option maxRecDepth 100000 in
theorem rtext_any (v : Value) (l : List Int) (w : World) (h : Rd w .i64 v l) (hr : rightN l = true) (hlen : l.length ≤ 1000) : Calls Tryd.prog 19 #[v] w fun e w' => e = .returned (.string ⟨(textN l).toArray⟩) ∧ Below w.heap.size w w' := by
  have HR := Lib.hid hr
  clear hr
  go_enter Tryd.func19, Tryd.ntmps19
  go_wp2_with fail
  go_loopw [0, 3, 4] (fun u s i wr => ∃ (ys : List Int) (m : Nat) (sb : ByteArray), Rd w .i64 u ys ∧ s = .string sb ∧ i = .int .i64 m ∧ m ≤ 16 ∧ Hid (∃ acc, sb = ⟨acc.toArray⟩ ∧ acc ++ restN m ys = textN l) ∧ Hid (rightN ys = true) ∧ ys.length ≤ l.length ∧ sb.size ≤ 30 * (l.length - ys.length) ∧ Below w.heap.size w wr) (fun u _ _ _ => match u with | .slice _ n _ => n | _ => 0)
  case atStart => exact ⟨l, 0, ⟨#[]⟩, h, rfl, rfl, by omega, ⟨[], rfl, by rw [rest_eq]; rfl⟩, HR, by omega, Nat.zero_le _, Below.refl _ _⟩
  case round =>
    obtain ⟨ys, m, sb, hrd, rfl, rfl, hm16, HT, HRY, hly, hsz, hbelw⟩ := hrel
    have HRD := hrd
    obtain ⟨pu, cu, rfl, hcu, hcm, hcell⟩ := hrd
    have hin := HRD.in
    unfold maxLen at hcm
    by_cases hnil : ys = []
    · subst hnil
      obtain ⟨acc, hacc, hrest⟩ := HT.out
      rw [restN_nil] at hrest
      clear hcell
      by_cases hm : m = 0
      · rw [if_pos hm, List.append_nil] at hrest
        have HE := Lib.hid (show sb = ⟨(textN l).toArray⟩ by rw [hacc, hrest])
        subst hm
        clear hacc hrest
        go_wp2_with fail
        go_ret
        exact ⟨by rw [← HE.out]; rfl, hbelw⟩
      · rw [if_neg hm] at hrest
        have HE := Lib.hid (show sb ++ ⟨#[109]⟩ = ⟨(textN l).toArray⟩ by rw [hacc, ← hrest]; apply ByteArray.ext; simp)
        clear hacc hrest
        have hmI : (0 : Int) < (m : Int) := by omega
        go_wp2_with fail
        go_ret
        exact ⟨by rw [← HE.out]; rfl, hbelw⟩
    · have hp := List.length_pos_iff.2 hnil
      have hgp := group_pos ys hnil
      have hg5 := group_le ys
      have HST := Lib.hid (restN_step m ys hnil)
      have cG : ∀ W, Below w.heap.size w W → Calls Tryd.prog 21 #[.slice pu ys.length cu] W fun e w' => e = .returned (.int .i64 (groupN ys)) ∧ Below W.heap.size W w' := fun W hW => rgroup_any _ ys W (HRD.below hW) hp
      clear hnil hcell
      generalize groupN ys = gg at *
      generalize wr = W2 at *
      by_cases hc : 0 < m ∧ 16 < m + gg
      · have HX : Hid (∃ acc, (sb ++ ⟨#[109]⟩ : ByteArray) = ⟨acc.toArray⟩ ∧ acc ++ (grpL 0 (ys.take gg) ++ restN (0 + gg) (ys.drop gg)) = textN l) := by
          obtain ⟨acc, h1, h2⟩ := HT.out
          refine ⟨acc ++ [109], by rw [h1]; apply ByteArray.ext; simp, ?_⟩
          rw [← h2, HST.out, if_pos hc, Nat.zero_add]; simp
        obtain ⟨hc1, hc2⟩ := hc
        have hcI : (16 : Int) < (m : Int) + (gg : Int) := by omega
        have hmI : (0 : Int) < (m : Int) := by omega
        go_wp2_with (first | (go_at_call 21; (with_reducible refine (cG _ hbelw).mono ?_); rintro e w3 ⟨rfl, hb3⟩; have hbw3 := bl_trans hbelw hb3))
        obtain ⟨acc, hacc0, HF0⟩ := HX.out
        have HF := Lib.hid HF0
        have hacc := Lib.hid hacc0
        clear hacc0 HF0
        have hss0 : (sb ++ ⟨#[109]⟩ : ByteArray).size ≤ 30 * (l.length - ys.length) + 1 := by (first | omega | (rw [ByteArray.size_append, show (⟨#[109]⟩ : ByteArray).size = 1 from rfl]; omega))
        have hin2 := Lib.hid hin
        clear hin
        go_loopw [3, 4, 6] (fun s t j wr => ∃ (i : Nat) (sb2 : ByteArray), j = .int .i64 i ∧ t = .int .i64 ((0 + i : Nat) : Int) ∧ s = .string sb2 ∧ i ≤ gg ∧ Hid (sb2 = ⟨(acc ++ grpL 0 (ys.take i)).toArray⟩) ∧ sb2.size ≤ 30 * (l.length - ys.length) + 1 + 24 * i ∧ Below w3.heap.size w3 wr) (fun _ _ j _ => gg - (intOf j).toNat)
        case atStart => exact ⟨0, _, rfl, by simp, rfl, by omega, (by unfold Hid; rw [hacc.out]; simp [grpL]), by omega, Below.refl _ _⟩
        case round =>
          obtain ⟨i, sb2, rfl, rfl, rfl, hi, HS2, hs2, hbr⟩ := hrel
          have hbwr := bl_trans hbw3 hbr
          by_cases hlt : i < gg
          · have hiy : i < ys.length := by omega
            obtain ⟨b1, o1, hvv, q1, d1⟩ := Rd.at (HRD.cellsAt) hcu hiy
            subst hvv
            have d3 : wr.cell? ⟨b1, o1 + i, none⟩ = some (.int .i64 ys[i]) := by rw [hbwr.cell (p := ⟨b1, _, none⟩) q1]; exact d1
            have q2 : b1 < wr.heap.size := Nat.lt_of_lt_of_le q1 hbwr.size
            have hx := right_all ys HRY.out ys[i] (List.getElem_mem hiy)
            have HGS := Lib.hid (grpL_succ ys 0 i hiy)
            have HN := Lib.hid (Pm.numB_len ys[i] hx)
            have r2 : (i : Int) < (ys.length : Int) := by omega
            have ltI : (i : Int) < (gg : Int) := by omega
            clear d1
            generalize ys[i] = x at *
            by_cases hx0 : 0 ≤ x
            · obtain ⟨n, rfl⟩ : ∃ n : Nat, x = n := ⟨x.toNat, by omega⟩
              have HNX : Hid (Pm.numB (n : Int) = Lib.decDigits n) := by unfold Hid Pm.numB; rw [if_pos hx0, Lib.itoa_nonneg]
              have hdl2 : (Lib.decDigits n).length ≤ 21 := by rw [← HNX.out]; exact HN.out
              by_cases hi0 : 0 + i = 0
              · have hz : (0 + i : Nat) = 0 := by omega
                obtain rfl : i = 0 := by omega
                rw [Nat.add_zero] at d3
                have HV : Hid ((sb2 ++ ⟨#[27, 91]⟩ ++ ⟨(Lib.decDigits n).toArray⟩ : ByteArray) = ⟨(acc ++ grpL 0 (ys.take (0 + 1))).toArray⟩) := by
                  unfold Hid
                  rw [HS2.out, HGS.out, if_pos (show 0 + 0 = 0 by omega), HNX.out]
                  apply ByteArray.ext; simp
                go_wp2_with (first | (go_at_call 29; (with_reducible refine (decimal_any n _ (by omega)).mono ?_); rintro e w5 ⟨rfl, hb5⟩; have hdl : (⟨(Lib.decDigits n).toArray⟩ : ByteArray).size ≤ 21 := (by rw [size_mk, ← HNX.out]; exact HN.out)))
                go_roundw
                case rel => first | exact ⟨0 + 1, _, by go_num, by go_num, rfl, by omega, HV, (by simp only [ByteArray.size_append, show (⟨#[27, 91]⟩ : ByteArray).size = 2 from rfl, show (⟨#[59]⟩ : ByteArray).size = 1 from rfl]; omega), bl_trans hbr hb5⟩ | ((repeat apply Exists.intro); exact ⟨⟨0 + 1, _, by go_num, by go_num, rfl, by omega, HV, (by simp only [ByteArray.size_append, show (⟨#[27, 91]⟩ : ByteArray).size = 2 from rfl, show (⟨#[59]⟩ : ByteArray).size = 1 from rfl]; omega), bl_trans hbr hb5⟩, rfl⟩)
                case measure => simp [intOf]; omega
              · have hz : ¬ ((0 + i : Nat) = 0) := by omega
                have HV : Hid ((sb2 ++ ⟨#[59]⟩ ++ ⟨(Lib.decDigits n).toArray⟩ : ByteArray) = ⟨(acc ++ grpL 0 (ys.take (i + 1))).toArray⟩) := by
                  unfold Hid
                  rw [HS2.out, HGS.out, if_neg (show ¬ (0 + i = 0) by omega), HNX.out]
                  apply ByteArray.ext; simp
                go_wp2_with (first | (go_at_call 29; (with_reducible refine (decimal_any n _ (by omega)).mono ?_); rintro e w5 ⟨rfl, hb5⟩; have hdl : (⟨(Lib.decDigits n).toArray⟩ : ByteArray).size ≤ 21 := (by rw [size_mk, ← HNX.out]; exact HN.out)))
                go_roundw
                case rel => first | exact ⟨i + 1, _, by go_num, by go_num, rfl, by omega, HV, (by simp only [ByteArray.size_append, show (⟨#[27, 91]⟩ : ByteArray).size = 2 from rfl, show (⟨#[59]⟩ : ByteArray).size = 1 from rfl]; omega), bl_trans hbr hb5⟩ | ((repeat apply Exists.intro); exact ⟨⟨i + 1, _, by go_num, by go_num, rfl, by omega, HV, (by simp only [ByteArray.size_append, show (⟨#[27, 91]⟩ : ByteArray).size = 2 from rfl, show (⟨#[59]⟩ : ByteArray).size = 1 from rfl]; omega), bl_trans hbr hb5⟩, rfl⟩)
                case measure => simp [intOf]; omega
            · by_cases hi0 : 0 + i = 0
              · have hz : (0 + i : Nat) = 0 := by omega
                obtain rfl : i = 0 := by omega
                rw [Nat.add_zero] at d3
                have HV : Hid ((sb2 ++ ⟨#[27, 91]⟩ : ByteArray) = ⟨(acc ++ grpL 0 (ys.take (0 + 1))).toArray⟩) := by
                  unfold Hid
                  rw [HS2.out, HGS.out, if_pos (show 0 + 0 = 0 by omega), show Pm.numB x = [] from if_neg hx0]
                  apply ByteArray.ext; simp
                go_wp2_with fail
                go_roundw
                case rel => first | exact ⟨0 + 1, _, by go_num, by go_num, rfl, by omega, HV, (by simp only [ByteArray.size_append, show (⟨#[27, 91]⟩ : ByteArray).size = 2 from rfl, show (⟨#[59]⟩ : ByteArray).size = 1 from rfl]; omega), hbr⟩ | ((repeat apply Exists.intro); exact ⟨⟨0 + 1, _, by go_num, by go_num, rfl, by omega, HV, (by simp only [ByteArray.size_append, show (⟨#[27, 91]⟩ : ByteArray).size = 2 from rfl, show (⟨#[59]⟩ : ByteArray).size = 1 from rfl]; omega), hbr⟩, rfl⟩)
                case measure => simp [intOf]; omega
              · have hz : ¬ ((0 + i : Nat) = 0) := by omega
                have HV : Hid ((sb2 ++ ⟨#[59]⟩ : ByteArray) = ⟨(acc ++ grpL 0 (ys.take (i + 1))).toArray⟩) := by
                  unfold Hid
                  rw [HS2.out, HGS.out, if_neg (show ¬ (0 + i = 0) by omega), show Pm.numB x = [] from if_neg hx0]
                  apply ByteArray.ext; simp
                go_wp2_with fail
                go_roundw
                case rel => first | exact ⟨i + 1, _, by go_num, by go_num, rfl, by omega, HV, (by simp only [ByteArray.size_append, show (⟨#[27, 91]⟩ : ByteArray).size = 2 from rfl, show (⟨#[59]⟩ : ByteArray).size = 1 from rfl]; omega), hbr⟩ | ((repeat apply Exists.intro); exact ⟨⟨i + 1, _, by go_num, by go_num, rfl, by omega, HV, (by simp only [ByteArray.size_append, show (⟨#[27, 91]⟩ : ByteArray).size = 2 from rfl, show (⟨#[59]⟩ : ByteArray).size = 1 from rfl]; omega), hbr⟩, rfl⟩)
                case measure => simp [intOf]; omega
          · obtain rfl : i = gg := by omega
            go_wp2_with (first | (refine wpList_part rfl 28 .i64 Tryd.underlying28 Tryd.sizeOf3 (.tmp 47) (some (.tmp 48)) none rfl pu cu ys rfl (HRD.below hbwr) i ys.length (.inr rfl) (.inl ⟨rfl, rfl⟩) (by omega) (by omega) ?_; intro v9 hv9 hvb9; rw [List.take_length] at hv9; have hv9x := hv9; obtain ⟨p9, c9, rfl, hx9⟩ := hv9x; clear hx9; rw [List.length_drop] at hv9 hvb9))
            go_roundw
            case rel => exact ⟨ys.drop i, 0 + i, sb2, hv9.down hbwr (by rw [hvb9]; exact hin2.out), rfl, by go_num, by omega, ⟨_, HS2.out, by rw [List.append_assoc]; exact HF.out⟩, (right_cut ys HRY.out i).2, by rw [List.length_drop]; omega, by rw [List.length_drop]; omega, hbwr⟩
            case measure => (have hz1 := hgp; simp; omega)
      · have HX : Hid (∃ acc, sb = ⟨acc.toArray⟩ ∧ acc ++ (grpL m (ys.take gg) ++ restN (m + gg) (ys.drop gg)) = textN l) := by
          obtain ⟨acc, h1, h2⟩ := HT.out
          exact ⟨acc, h1, by rw [← h2, HST.out, if_neg hc]⟩
        by_cases hm0 : m = 0
        · subst hm0
          go_wp2_with (first | (go_at_call 21; (with_reducible refine (cG _ hbelw).mono ?_); rintro e w3 ⟨rfl, hb3⟩; have hbw3 := bl_trans hbelw hb3))
          obtain ⟨acc, hacc0, HF0⟩ := HX.out
          have HF := Lib.hid HF0
          have hacc := Lib.hid hacc0
          clear hacc0 HF0
          have hss0 : (sb : ByteArray).size ≤ 30 * (l.length - ys.length) + 1 := by (first | omega | (rw [ByteArray.size_append, show (⟨#[109]⟩ : ByteArray).size = 1 from rfl]; omega))
          have hin2 := Lib.hid hin
          clear hin
          go_loopw [3, 4, 6] (fun s t j wr => ∃ (i : Nat) (sb2 : ByteArray), j = .int .i64 i ∧ t = .int .i64 ((0 + i : Nat) : Int) ∧ s = .string sb2 ∧ i ≤ gg ∧ Hid (sb2 = ⟨(acc ++ grpL 0 (ys.take i)).toArray⟩) ∧ sb2.size ≤ 30 * (l.length - ys.length) + 1 + 24 * i ∧ Below w3.heap.size w3 wr) (fun _ _ j _ => gg - (intOf j).toNat)
          case atStart => exact ⟨0, _, rfl, by simp, rfl, by omega, (by unfold Hid; rw [hacc.out]; simp [grpL]), by omega, Below.refl _ _⟩
          case round =>
            obtain ⟨i, sb2, rfl, rfl, rfl, hi, HS2, hs2, hbr⟩ := hrel
            have hbwr := bl_trans hbw3 hbr
            by_cases hlt : i < gg
            · have hiy : i < ys.length := by omega
              obtain ⟨b1, o1, hvv, q1, d1⟩ := Rd.at (HRD.cellsAt) hcu hiy
              subst hvv
              have d3 : wr.cell? ⟨b1, o1 + i, none⟩ = some (.int .i64 ys[i]) := by rw [hbwr.cell (p := ⟨b1, _, none⟩) q1]; exact d1
              have q2 : b1 < wr.heap.size := Nat.lt_of_lt_of_le q1 hbwr.size
              have hx := right_all ys HRY.out ys[i] (List.getElem_mem hiy)
              have HGS := Lib.hid (grpL_succ ys 0 i hiy)
              have HN := Lib.hid (Pm.numB_len ys[i] hx)
              have r2 : (i : Int) < (ys.length : Int) := by omega
              have ltI : (i : Int) < (gg : Int) := by omega
              clear d1
              generalize ys[i] = x at *
              by_cases hx0 : 0 ≤ x
              · obtain ⟨n, rfl⟩ : ∃ n : Nat, x = n := ⟨x.toNat, by omega⟩
                have HNX : Hid (Pm.numB (n : Int) = Lib.decDigits n) := by unfold Hid Pm.numB; rw [if_pos hx0, Lib.itoa_nonneg]
                have hdl2 : (Lib.decDigits n).length ≤ 21 := by rw [← HNX.out]; exact HN.out
                by_cases hi0 : 0 + i = 0
                · have hz : (0 + i : Nat) = 0 := by omega
                  obtain rfl : i = 0 := by omega
                  rw [Nat.add_zero] at d3
                  have HV : Hid ((sb2 ++ ⟨#[27, 91]⟩ ++ ⟨(Lib.decDigits n).toArray⟩ : ByteArray) = ⟨(acc ++ grpL 0 (ys.take (0 + 1))).toArray⟩) := by
                    unfold Hid
                    rw [HS2.out, HGS.out, if_pos (show 0 + 0 = 0 by omega), HNX.out]
                    apply ByteArray.ext; simp
                  go_wp2_with (first | (go_at_call 29; (with_reducible refine (decimal_any n _ (by omega)).mono ?_); rintro e w5 ⟨rfl, hb5⟩; have hdl : (⟨(Lib.decDigits n).toArray⟩ : ByteArray).size ≤ 21 := (by rw [size_mk, ← HNX.out]; exact HN.out)))
                  go_roundw
                  case rel => first | exact ⟨0 + 1, _, by go_num, by go_num, rfl, by omega, HV, (by simp only [ByteArray.size_append, show (⟨#[27, 91]⟩ : ByteArray).size = 2 from rfl, show (⟨#[59]⟩ : ByteArray).size = 1 from rfl]; omega), bl_trans hbr hb5⟩ | ((repeat apply Exists.intro); exact ⟨⟨0 + 1, _, by go_num, by go_num, rfl, by omega, HV, (by simp only [ByteArray.size_append, show (⟨#[27, 91]⟩ : ByteArray).size = 2 from rfl, show (⟨#[59]⟩ : ByteArray).size = 1 from rfl]; omega), bl_trans hbr hb5⟩, rfl⟩)
                  case measure => simp [intOf]; omega
                · have hz : ¬ ((0 + i : Nat) = 0) := by omega
                  have HV : Hid ((sb2 ++ ⟨#[59]⟩ ++ ⟨(Lib.decDigits n).toArray⟩ : ByteArray) = ⟨(acc ++ grpL 0 (ys.take (i + 1))).toArray⟩) := by
                    unfold Hid
                    rw [HS2.out, HGS.out, if_neg (show ¬ (0 + i = 0) by omega), HNX.out]
                    apply ByteArray.ext; simp
                  go_wp2_with (first | (go_at_call 29; (with_reducible refine (decimal_any n _ (by omega)).mono ?_); rintro e w5 ⟨rfl, hb5⟩; have hdl : (⟨(Lib.decDigits n).toArray⟩ : ByteArray).size ≤ 21 := (by rw [size_mk, ← HNX.out]; exact HN.out)))
                  go_roundw
                  case rel => first | exact ⟨i + 1, _, by go_num, by go_num, rfl, by omega, HV, (by simp only [ByteArray.size_append, show (⟨#[27, 91]⟩ : ByteArray).size = 2 from rfl, show (⟨#[59]⟩ : ByteArray).size = 1 from rfl]; omega), bl_trans hbr hb5⟩ | ((repeat apply Exists.intro); exact ⟨⟨i + 1, _, by go_num, by go_num, rfl, by omega, HV, (by simp only [ByteArray.size_append, show (⟨#[27, 91]⟩ : ByteArray).size = 2 from rfl, show (⟨#[59]⟩ : ByteArray).size = 1 from rfl]; omega), bl_trans hbr hb5⟩, rfl⟩)
                  case measure => simp [intOf]; omega
              · by_cases hi0 : 0 + i = 0
                · have hz : (0 + i : Nat) = 0 := by omega
                  obtain rfl : i = 0 := by omega
                  rw [Nat.add_zero] at d3
                  have HV : Hid ((sb2 ++ ⟨#[27, 91]⟩ : ByteArray) = ⟨(acc ++ grpL 0 (ys.take (0 + 1))).toArray⟩) := by
                    unfold Hid
                    rw [HS2.out, HGS.out, if_pos (show 0 + 0 = 0 by omega), show Pm.numB x = [] from if_neg hx0]
                    apply ByteArray.ext; simp
                  go_wp2_with fail
                  go_roundw
                  case rel => first | exact ⟨0 + 1, _, by go_num, by go_num, rfl, by omega, HV, (by simp only [ByteArray.size_append, show (⟨#[27, 91]⟩ : ByteArray).size = 2 from rfl, show (⟨#[59]⟩ : ByteArray).size = 1 from rfl]; omega), hbr⟩ | ((repeat apply Exists.intro); exact ⟨⟨0 + 1, _, by go_num, by go_num, rfl, by omega, HV, (by simp only [ByteArray.size_append, show (⟨#[27, 91]⟩ : ByteArray).size = 2 from rfl, show (⟨#[59]⟩ : ByteArray).size = 1 from rfl]; omega), hbr⟩, rfl⟩)
                  case measure => simp [intOf]; omega
                · have hz : ¬ ((0 + i : Nat) = 0) := by omega
                  have HV : Hid ((sb2 ++ ⟨#[59]⟩ : ByteArray) = ⟨(acc ++ grpL 0 (ys.take (i + 1))).toArray⟩) := by
                    unfold Hid
                    rw [HS2.out, HGS.out, if_neg (show ¬ (0 + i = 0) by omega), show Pm.numB x = [] from if_neg hx0]
                    apply ByteArray.ext; simp
                  go_wp2_with fail
                  go_roundw
                  case rel => first | exact ⟨i + 1, _, by go_num, by go_num, rfl, by omega, HV, (by simp only [ByteArray.size_append, show (⟨#[27, 91]⟩ : ByteArray).size = 2 from rfl, show (⟨#[59]⟩ : ByteArray).size = 1 from rfl]; omega), hbr⟩ | ((repeat apply Exists.intro); exact ⟨⟨i + 1, _, by go_num, by go_num, rfl, by omega, HV, (by simp only [ByteArray.size_append, show (⟨#[27, 91]⟩ : ByteArray).size = 2 from rfl, show (⟨#[59]⟩ : ByteArray).size = 1 from rfl]; omega), hbr⟩, rfl⟩)
                  case measure => simp [intOf]; omega
            · obtain rfl : i = gg := by omega
              go_wp2_with (first | (refine wpList_part rfl 28 .i64 Tryd.underlying28 Tryd.sizeOf3 (.tmp 47) (some (.tmp 48)) none rfl pu cu ys rfl (HRD.below hbwr) i ys.length (.inr rfl) (.inl ⟨rfl, rfl⟩) (by omega) (by omega) ?_; intro v9 hv9 hvb9; rw [List.take_length] at hv9; have hv9x := hv9; obtain ⟨p9, c9, rfl, hx9⟩ := hv9x; clear hx9; rw [List.length_drop] at hv9 hvb9))
              go_roundw
              case rel => exact ⟨ys.drop i, 0 + i, sb2, hv9.down hbwr (by rw [hvb9]; exact hin2.out), rfl, by go_num, by omega, ⟨_, HS2.out, by rw [List.append_assoc]; exact HF.out⟩, (right_cut ys HRY.out i).2, by rw [List.length_drop]; omega, by rw [List.length_drop]; omega, hbwr⟩
              case measure => (have hz1 := hgp; simp; omega)
        · have hmI : (0 : Int) < (m : Int) := by omega
          have h16 : ¬ (16 < m + gg) := fun h => hc ⟨by omega, h⟩
          go_wp2_with (first | (go_at_call 21; (with_reducible refine (cG _ hbelw).mono ?_); rintro e w3 ⟨rfl, hb3⟩; have hbw3 := bl_trans hbelw hb3))
          obtain ⟨acc, hacc0, HF0⟩ := HX.out
          have HF := Lib.hid HF0
          have hacc := Lib.hid hacc0
          clear hacc0 HF0
          have hss0 : (sb : ByteArray).size ≤ 30 * (l.length - ys.length) + 1 := by (first | omega | (rw [ByteArray.size_append, show (⟨#[109]⟩ : ByteArray).size = 1 from rfl]; omega))
          have hin2 := Lib.hid hin
          clear hin
          go_loopw [3, 4, 6] (fun s t j wr => ∃ (i : Nat) (sb2 : ByteArray), j = .int .i64 i ∧ t = .int .i64 ((m + i : Nat) : Int) ∧ s = .string sb2 ∧ i ≤ gg ∧ Hid (sb2 = ⟨(acc ++ grpL m (ys.take i)).toArray⟩) ∧ sb2.size ≤ 30 * (l.length - ys.length) + 1 + 24 * i ∧ Below w3.heap.size w3 wr) (fun _ _ j _ => gg - (intOf j).toNat)
          case atStart => exact ⟨0, _, rfl, by simp, rfl, by omega, (by unfold Hid; rw [hacc.out]; simp [grpL]), by omega, Below.refl _ _⟩
          case round =>
            obtain ⟨i, sb2, rfl, rfl, rfl, hi, HS2, hs2, hbr⟩ := hrel
            have hbwr := bl_trans hbw3 hbr
            by_cases hlt : i < gg
            · have hiy : i < ys.length := by omega
              obtain ⟨b1, o1, hvv, q1, d1⟩ := Rd.at (HRD.cellsAt) hcu hiy
              subst hvv
              have d3 : wr.cell? ⟨b1, o1 + i, none⟩ = some (.int .i64 ys[i]) := by rw [hbwr.cell (p := ⟨b1, _, none⟩) q1]; exact d1
              have q2 : b1 < wr.heap.size := Nat.lt_of_lt_of_le q1 hbwr.size
              have hx := right_all ys HRY.out ys[i] (List.getElem_mem hiy)
              have HGS := Lib.hid (grpL_succ ys m i hiy)
              have HN := Lib.hid (Pm.numB_len ys[i] hx)
              have r2 : (i : Int) < (ys.length : Int) := by omega
              have ltI : (i : Int) < (gg : Int) := by omega
              clear d1
              generalize ys[i] = x at *
              by_cases hx0 : 0 ≤ x
              · obtain ⟨n, rfl⟩ : ∃ n : Nat, x = n := ⟨x.toNat, by omega⟩
                have HNX : Hid (Pm.numB (n : Int) = Lib.decDigits n) := by unfold Hid Pm.numB; rw [if_pos hx0, Lib.itoa_nonneg]
                have hdl2 : (Lib.decDigits n).length ≤ 21 := by rw [← HNX.out]; exact HN.out
                by_cases hi0 : m + i = 0
                · have hz : (m + i : Nat) = 0 := by omega
                  exfalso; omega
                · have hz : ¬ ((m + i : Nat) = 0) := by omega
                  have HV : Hid ((sb2 ++ ⟨#[59]⟩ ++ ⟨(Lib.decDigits n).toArray⟩ : ByteArray) = ⟨(acc ++ grpL m (ys.take (i + 1))).toArray⟩) := by
                    unfold Hid
                    rw [HS2.out, HGS.out, if_neg (show ¬ (m + i = 0) by omega), HNX.out]
                    apply ByteArray.ext; simp
                  go_wp2_with (first | (go_at_call 29; (with_reducible refine (decimal_any n _ (by omega)).mono ?_); rintro e w5 ⟨rfl, hb5⟩; have hdl : (⟨(Lib.decDigits n).toArray⟩ : ByteArray).size ≤ 21 := (by rw [size_mk, ← HNX.out]; exact HN.out)))
                  go_roundw
                  case rel => first | exact ⟨i + 1, _, by go_num, by go_num, rfl, by omega, HV, (by simp only [ByteArray.size_append, show (⟨#[27, 91]⟩ : ByteArray).size = 2 from rfl, show (⟨#[59]⟩ : ByteArray).size = 1 from rfl]; omega), bl_trans hbr hb5⟩ | ((repeat apply Exists.intro); exact ⟨⟨i + 1, _, by go_num, by go_num, rfl, by omega, HV, (by simp only [ByteArray.size_append, show (⟨#[27, 91]⟩ : ByteArray).size = 2 from rfl, show (⟨#[59]⟩ : ByteArray).size = 1 from rfl]; omega), bl_trans hbr hb5⟩, rfl⟩)
                  case measure => simp [intOf]; omega
              · by_cases hi0 : m + i = 0
                · have hz : (m + i : Nat) = 0 := by omega
                  exfalso; omega
                · have hz : ¬ ((m + i : Nat) = 0) := by omega
                  have HV : Hid ((sb2 ++ ⟨#[59]⟩ : ByteArray) = ⟨(acc ++ grpL m (ys.take (i + 1))).toArray⟩) := by
                    unfold Hid
                    rw [HS2.out, HGS.out, if_neg (show ¬ (m + i = 0) by omega), show Pm.numB x = [] from if_neg hx0]
                    apply ByteArray.ext; simp
                  go_wp2_with fail
                  go_roundw
                  case rel => first | exact ⟨i + 1, _, by go_num, by go_num, rfl, by omega, HV, (by simp only [ByteArray.size_append, show (⟨#[27, 91]⟩ : ByteArray).size = 2 from rfl, show (⟨#[59]⟩ : ByteArray).size = 1 from rfl]; omega), hbr⟩ | ((repeat apply Exists.intro); exact ⟨⟨i + 1, _, by go_num, by go_num, rfl, by omega, HV, (by simp only [ByteArray.size_append, show (⟨#[27, 91]⟩ : ByteArray).size = 2 from rfl, show (⟨#[59]⟩ : ByteArray).size = 1 from rfl]; omega), hbr⟩, rfl⟩)
                  case measure => simp [intOf]; omega
            · obtain rfl : i = gg := by omega
              go_wp2_with (first | (refine wpList_part rfl 28 .i64 Tryd.underlying28 Tryd.sizeOf3 (.tmp 47) (some (.tmp 48)) none rfl pu cu ys rfl (HRD.below hbwr) i ys.length (.inr rfl) (.inl ⟨rfl, rfl⟩) (by omega) (by omega) ?_; intro v9 hv9 hvb9; rw [List.take_length] at hv9; have hv9x := hv9; obtain ⟨p9, c9, rfl, hx9⟩ := hv9x; clear hx9; rw [List.length_drop] at hv9 hvb9))
              go_roundw
              case rel => exact ⟨ys.drop i, m + i, sb2, hv9.down hbwr (by rw [hvb9]; exact hin2.out), rfl, by go_num, by omega, ⟨_, HS2.out, by rw [List.append_assoc]; exact HF.out⟩, (right_cut ys HRY.out i).2, by rw [List.length_drop]; omega, by rw [List.length_drop]; omega, hbwr⟩
              case measure => (have hz1 := hgp; simp; omega)

end Go.Proofs.YtdoeiaekimbecaaDoor
