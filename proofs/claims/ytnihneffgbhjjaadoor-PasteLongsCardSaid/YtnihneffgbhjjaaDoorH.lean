/- paste: the law's helpers: out, encode, cleaned. -/
import Derived.Test.YtnihneffgbhjjaaDoorG
import Derived.Test.YtnihneffgbhjjaaDoorUX
import Derived.Outline
set_option linter.unusedSimpArgs false
set_option linter.unusedVariables false
set_option linter.unnecessarySimpa false
namespace Go.Proofs.YtnihneffgbhjjaaDoor
open Go.RowKit

theorem out_any (r : Int) (w : World) (hr : -2147483648 ≤ r ∧ r ≤ 2147483647) : Calls Tryd.prog 26 #[.int .i32 r] w fun e w' => e = .returned (.bool (outR r)) ∧ Below w.heap.size w w' := by
  go_enter Tryd.func26, Tryd.ntmps26
  go_wp2_with fail
  all_goals
    go_ret
    exact ⟨ret_bool (by rw [Bool.eq_iff_iff]; simp [outR] <;> omega), Below.refl _ _⟩
theorem encL_take (l : List Int) (k : Nat) (h : k < l.length) : encL (l.take (k + 1)) = encL (l.take k) ++ enc1 l[k] := by
  rw [List.take_succ_eq_append_getElem h, encL_snoc]
set_option maxHeartbeats 1000000 in
theorem encode_any (v : Value) (l : List Int) (w : World) (hb : Rd w .i32 v l) (hlen : l.length ≤ 10000000) : Calls Tryd.prog 10 #[v] w (RetOwn w 5 .u8 (encL l)) := by
  obtain ⟨p, cap, rfl, hlc, hcm, hcell⟩ := hb
  unfold maxLen at hcm
  go_enter Tryd.func10, Tryd.ntmps10
  go_wp2_with fail
  go_loopw [3, 4] (fun v i wr => ∃ k : Nat, k ≤ l.length ∧ i = .int .i64 k ∧ Own wr w.heap.size 5 .u8 v (encL (l.take k)) ∧ Below w.heap.size w wr) (fun _ i _ => l.length - (intOf i).toNat)
  case atStart => exact ⟨0, by omega, rfl, Own.nil _ _ _ _, Below.refl _ _⟩
  case round =>
    obtain ⟨k, hk, rfl, hown, hbel⟩ := hrel
    by_cases hlt : k < l.length
    · obtain ⟨b, off, rfl, hbl, hc⟩ := Rd.at hcell hlc hlt
      have hcr : wr.cell? ⟨b, off + k, none⟩ = some (.int .i32 l[k]) := (hbel.cell (p := ⟨b, off + k, none⟩) hbl).trans hc
      have HT := Lib.hid (encL_take l k hlt)
      have hle := (encL_length (l.take k)).2
      have hlk : (l.take k).length ≤ k := List.length_take_le _ _
      have hbs := hbel.size
      have hbw : b < wr.heap.size := Nat.lt_of_lt_of_le hbl hbs
      clear hcell hc
      generalize l[k] = r at *
      have hE := (enc1_length r).2
      have cB := fun W => bytes_any r W
      unfold RetOwn at cB
      generalize enc1 r = er at *
      generalize encL (l.take k) = pre at *
      go_wp2_with (first | (go_at_call 19; (with_reducible refine (cB _).mono ?_); rintro e w1 ⟨u, rfl, hown1, hb1⟩; have hrd1 := hown1.rd; obtain ⟨pu, nu, cu, hue⟩ := hrd1.shape; subst hue; have hown2 := hown.kept hb1; have hs1 := hb1.size) | (at_builtin; refine wpList_app rfl _ _ 22 5 .u8 1 rfl Tryd.underlying22 el8 w.heap.size _ _ pre er hown2 hrd1 rfl rfl (by unfold maxLen; omega) (by omega) (by omega) ?_; intro v' w2 hown3 hb2 hg2))
      go_roundw
      case rel => first | exact ⟨k + 1, by omega, by go_num, by (rw [HT.out]; exact hown3), hbel.trans ((hb1.mono hbs).trans hb2)⟩ | ((repeat apply Exists.intro); exact ⟨⟨k + 1, by omega, by go_num, by (rw [HT.out]; exact hown3), hbel.trans ((hb1.mono hbs).trans hb2)⟩, rfl⟩)
      case measure => simp [intOf]; omega
    · obtain rfl : k = l.length := by omega
      rw [List.take_length] at hown
      go_wp2_with fail
      go_ret
      exact ⟨_, rfl, hown, hbel⟩
theorem clnR_take (l : List Int) (k : Nat) (h : k < l.length) : clnR 0 (l.take (k + 1)) = clnR 0 (l.take k) ++ clnS (lastR 0 (l.take k)) l[k] := by
  rw [List.take_succ_eq_append_getElem h, clnR_snoc]
theorem leftR_take (l : List Int) (k : Nat) (h : k < l.length) : leftR (l.take (k + 1)) = leftR (l.take k) + (if outR l[k] = true then 1 else 0) := by
  rw [List.take_succ_eq_append_getElem h, leftR_snoc]
theorem lastR_take (l : List Int) (k : Nat) (h : k + 1 < l.length) : lastR 0 (l.take (k + 1)) = l[k] := by
  rw [List.take_succ_eq_append_getElem (by omega), lastR_snoc]
def CldE (ds : List Int) (left : Nat) (w : World) (e : Ending) (w' : World) : Prop := ∃ v, e = .returned (.tuple #[v, .int .i64 left]) ∧ Own w' w.heap.size 21 .i32 v ds ∧ Below w.heap.size w w'
set_option maxHeartbeats 8000000 in
set_option maxRecDepth 100000 in
theorem cleaned_any (vb : Value) (l : List Int) (w : World) (hb : Rd w .u8 vb l) (hl : ∀ x ∈ l, Byte x) (hlen : l.length ≤ 10000000) : Calls Tryd.prog 18 #[vb] w (CldE (clnD l) (leftR (decL l)) w) := by
  obtain ⟨pv, nv, cv, hve⟩ := hb.shape
  subst hve
  have cD := fun W (h : Below w.heap.size w W) => rdecode_any _ l W (hb.below h) hl (by omega)
  unfold RetOwn at cD
  have hdl := decL_len l hl
  have hdv := decL_valid l hl
  have e : clnD l = clnR 0 (decL l) := rfl
  rw [e]
  clear e
  generalize decL l = ds at *
  go_enter Tryd.func18, Tryd.ntmps18
  go_wp2_with (first | (go_at_call 25; (with_reducible refine (cD _ (Below.refl _ _)).mono ?_); rintro e w1 ⟨v, rfl, hown, hb1⟩; have hrd := hown.rd; obtain ⟨pd, cap, hde, hlc, hcm, hcell⟩ := hrd; subst hde; unfold maxLen at hcm))
  go_loopw [5, 6, 7] (fun v left i wr => ∃ k : Nat, k ≤ ds.length ∧ i = .int .i64 k ∧ left = .int .i64 (leftR (ds.take k)) ∧ Own wr w1.heap.size 21 .i32 v (clnR 0 (ds.take k)) ∧ Below w1.heap.size w1 wr) (fun _ _ i _ => ds.length - (intOf i).toNat)
  case atStart => exact ⟨0, by omega, rfl, rfl, Own.nil _ _ _ _, Below.refl _ _⟩
  case round =>
    obtain ⟨k, hk, rfl, rfl, hownk, hbel⟩ := hrel
    by_cases hlt : k < ds.length
    · obtain ⟨b, off, rfl, hbl, hc⟩ := Rd.at hcell hlc hlt
      have hcr : ∀ W, Below w1.heap.size w1 W → W.cell? ⟨b, off + k, none⟩ = some (.int .i32 ds[k]) := fun W h => (h.cell (p := ⟨b, off + k, none⟩) hbl).trans hc
      have hcp : ∀ W, Below w1.heap.size w1 W → 0 < k → W.cell? ⟨b, off + (k - 1), none⟩ = some (.int .i32 (lastR 0 (ds.take k))) := fun W h hk0 => by
        obtain ⟨j, rfl⟩ : ∃ j, k = j + 1 := ⟨k - 1, by omega⟩
        obtain ⟨b', off', e2, _, hc'⟩ := Rd.at hcell hlc (show j < ds.length by omega)
        injection e2 with e2
        injection e2 with e2 e3
        subst e2 e3
        rw [lastR_take ds j hlt, (h.cell (p := ⟨b, off + (j + 1 - 1), none⟩) hbl), Nat.add_sub_cancel]
        exact hc'
      have hvr := of_decide_eq_true (hdv ds[k] (List.getElem_mem hlt))
      have HC := Lib.hid (clnR_take ds k hlt)
      have HL := Lib.hid (leftR_take ds k hlt)
      have hll := leftR_le (ds.take k)
      have hcl := clnR_le 0 (ds.take k)
      have hlk : (ds.take k).length ≤ k := List.length_take_le _ _
      have hbs := hbel.size
      have hbw : b < wr.heap.size := Nat.lt_of_lt_of_le hbl hbs
      have h0 : k = 0 → lastR 0 (ds.take k) = 0 := fun e => by rw [e]; rfl
      have hcell0 := hcr wr hbel
      have hcp0 := hcp wr hbel
      clear hcell hc hdv hcr hcp
      generalize ds[k] = r at *
      generalize lastR 0 (ds.take k) = p at *
      generalize clnR 0 (ds.take k) = pre at *
      generalize leftR (ds.take k) = left at *
      have cO := fun W => out_any r W (by omega)
      have hltI : (k : Int) < (ds.length : Int) := by omega
      cases ho : outR r
      · rw [ho] at cO
        have HLE : Hid (leftR (ds.take (k + 1)) = left) := Lib.hid (by rw [HL.out, ho]; rfl)
        by_cases h10 : r = 10
        · subst h10
          by_cases hk0 : k = 0
          · have hp := h0 hk0
            have hk1 : ((k : Int) == 0) = true := by (rw [hk0]; rfl)
            have HE : Hid (clnR 0 (ds.take (k + 1)) = pre ++ [13]) := Lib.hid (by rw [HC.out, hp]; rfl)
            clear hp h0 hcp0 ho hk0
            go_wp2_with (first | (go_at_call 26; (with_reducible refine (cO _).mono ?_); rintro e w2 ⟨rfl, hb2⟩; have hownkX := hownk.kept hb2; have hbx2 := hb2.size; have hcw2 := (hb2.cell (p := ⟨b, off + k, none⟩) hbw).trans hcell0; have hbw2 : b < w2.heap.size := Nat.lt_of_lt_of_le hbw hbx2) | (at_builtin; refine wpList_app rfl _ _ 25 21 .i32 4 rfl Tryd.underlying25 el32 w1.heap.size _ _ pre [13] (Own.kept hownkX (bl_alloc (Below.refl _ _) _)) (Rd.lit1 _ _ _ _ _ rfl) rfl rfl (by simp only [List.length_singleton, maxLen]; omega) (by simp only [List.length_singleton]; omega) (by simp; omega) ?_; intro v' w3 hown3 hb3 hg3))
            go_roundw
            case rel => first | exact ⟨k + 1, by omega, by go_num, by rw [HLE.out], by (rw [HE.out]; exact hown3), (hbel.trans (hb2.mono hbs)).trans (((Below.alloc (Below.refl _ _) (by omega) _)).trans hb3)⟩ | ((repeat apply Exists.intro); exact ⟨⟨k + 1, by omega, by go_num, by rw [HLE.out], by (rw [HE.out]; exact hown3), (hbel.trans (hb2.mono hbs)).trans (((Below.alloc (Below.refl _ _) (by omega) _)).trans hb3)⟩, rfl⟩)
            case measure => simp [intOf]; omega
          · have hcp1 := hcp0 (by omega)
            have hk1 : ((k : Int) == 0) = false := by (rw [beq_eq_false_iff_ne]; omega)
            have hkp : 0 < k := by omega
            clear hcp0 h0 hk0 ho
            by_cases hp : p = 13
            · subst hp
              have HE : Hid (clnR 0 (ds.take (k + 1)) = pre) := Lib.hid (by rw [HC.out]; simp [clnS])
              go_wp2_with (first | (go_at_call 26; (with_reducible refine (cO _).mono ?_); rintro e w2 ⟨rfl, hb2⟩; have hownkX := hownk.kept hb2; have hbx2 := hb2.size; have hcw2 := (hb2.cell (p := ⟨b, off + k, none⟩) hbw).trans hcell0; have hbw2 : b < w2.heap.size := Nat.lt_of_lt_of_le hbw hbx2; have hcq2 := (hb2.cell (p := ⟨b, off + (k - 1), none⟩) hbw).trans hcp1))
              go_roundw
              case rel => first | exact ⟨k + 1, by omega, by go_num, by rw [HLE.out], by (rw [HE.out]; exact hownkX), hbel.trans (hb2.mono hbs)⟩ | ((repeat apply Exists.intro); exact ⟨⟨k + 1, by omega, by go_num, by rw [HLE.out], by (rw [HE.out]; exact hownkX), hbel.trans (hb2.mono hbs)⟩, rfl⟩)
              case measure => simp [intOf]; omega
            · have hp1 : (p == 13) = false := by (rw [beq_eq_false_iff_ne]; exact hp)
              have hp2 : (p != 13) = true := by (rw [bne_iff_ne]; exact hp)
              have HE : Hid (clnR 0 (ds.take (k + 1)) = pre ++ [13]) := Lib.hid (by rw [HC.out]; simp [clnS, hp])
              clear hp
              go_wp2_with (first | (go_at_call 26; (with_reducible refine (cO _).mono ?_); rintro e w2 ⟨rfl, hb2⟩; have hownkX := hownk.kept hb2; have hbx2 := hb2.size; have hcw2 := (hb2.cell (p := ⟨b, off + k, none⟩) hbw).trans hcell0; have hbw2 : b < w2.heap.size := Nat.lt_of_lt_of_le hbw hbx2; have hcq2 := (hb2.cell (p := ⟨b, off + (k - 1), none⟩) hbw).trans hcp1) | (at_builtin; refine wpList_app rfl _ _ 25 21 .i32 4 rfl Tryd.underlying25 el32 w1.heap.size _ _ pre [13] (Own.kept hownkX (bl_alloc (Below.refl _ _) _)) (Rd.lit1 _ _ _ _ _ rfl) rfl rfl (by simp only [List.length_singleton, maxLen]; omega) (by simp only [List.length_singleton]; omega) (by simp; omega) ?_; intro v' w3 hown3 hb3 hg3))
              go_roundw
              case rel => first | exact ⟨k + 1, by omega, by go_num, by rw [HLE.out], by (rw [HE.out]; exact hown3), (hbel.trans (hb2.mono hbs)).trans (((Below.alloc (Below.refl _ _) (by omega) _)).trans hb3)⟩ | ((repeat apply Exists.intro); exact ⟨⟨k + 1, by omega, by go_num, by rw [HLE.out], by (rw [HE.out]; exact hown3), (hbel.trans (hb2.mono hbs)).trans (((Below.alloc (Below.refl _ _) (by omega) _)).trans hb3)⟩, rfl⟩)
              case measure => simp [intOf]; omega
        · have hr1 : (r == 10) = false := by (rw [beq_eq_false_iff_ne]; exact h10)
          have hr2 : (r != 10) = true := by (rw [bne_iff_ne]; exact h10)
          have HE : Hid (clnR 0 (ds.take (k + 1)) = pre ++ [r]) := Lib.hid (by rw [HC.out]; simp [clnS, h10, ho])
          clear h10 ho hcp0 h0
          go_wp2_with (first | (go_at_call 26; (with_reducible refine (cO _).mono ?_); rintro e w2 ⟨rfl, hb2⟩; have hownkX := hownk.kept hb2; have hbx2 := hb2.size; have hcw2 := (hb2.cell (p := ⟨b, off + k, none⟩) hbw).trans hcell0; have hbw2 : b < w2.heap.size := Nat.lt_of_lt_of_le hbw hbx2) | (at_builtin; refine wpList_app rfl _ _ 25 21 .i32 4 rfl Tryd.underlying25 el32 w1.heap.size _ _ pre [r] (Own.kept hownkX (bl_alloc (Below.refl _ _) _)) (Rd.lit1 _ _ _ _ _ rfl) rfl rfl (by simp only [List.length_singleton, maxLen]; omega) (by simp only [List.length_singleton]; omega) (by simp; omega) ?_; intro v' w3 hown3 hb3 hg3))
          go_roundw
          case rel => first | exact ⟨k + 1, by omega, by go_num, by rw [HLE.out], by (rw [HE.out]; exact hown3), (hbel.trans (hb2.mono hbs)).trans (((Below.alloc (Below.refl _ _) (by omega) _)).trans hb3)⟩ | ((repeat apply Exists.intro); exact ⟨⟨k + 1, by omega, by go_num, by rw [HLE.out], by (rw [HE.out]; exact hown3), (hbel.trans (hb2.mono hbs)).trans (((Below.alloc (Below.refl _ _) (by omega) _)).trans hb3)⟩, rfl⟩)
          case measure => simp [intOf]; omega
      · rw [ho] at cO
        have HLE : Hid (leftR (ds.take (k + 1)) = left + 1) := Lib.hid (by rw [HL.out, ho]; rfl)
        have h10 : r ≠ 10 := fun e => by rw [e] at ho; cases ho
        have HE : Hid (clnR 0 (ds.take (k + 1)) = pre) := Lib.hid (by rw [HC.out]; simp [clnS, h10, ho])
        clear h10 ho hcp0 h0
        go_wp2_with (first | (go_at_call 26; (with_reducible refine (cO _).mono ?_); rintro e w2 ⟨rfl, hb2⟩; have hownkX := hownk.kept hb2; have hbx2 := hb2.size; have hcw2 := (hb2.cell (p := ⟨b, off + k, none⟩) hbw).trans hcell0; have hbw2 : b < w2.heap.size := Nat.lt_of_lt_of_le hbw hbx2))
        go_roundw
        case rel => first | exact ⟨k + 1, by omega, by go_num, by (rw [HLE.out]; go_num), by (rw [HE.out]; exact hownkX), hbel.trans (hb2.mono hbs)⟩ | ((repeat apply Exists.intro); exact ⟨⟨k + 1, by omega, by go_num, by (rw [HLE.out]; go_num), by (rw [HE.out]; exact hownkX), hbel.trans (hb2.mono hbs)⟩, rfl⟩)
        case measure => simp [intOf]; omega
    · obtain rfl : k = ds.length := by omega
      rw [List.take_length] at hownk ⊢
      go_wp2_with fail
      go_ret2
      exact ⟨_, rfl, hownk.weaken hb1.size, bl_trans hb1 hbel⟩

end Go.Proofs.YtnihneffgbhjjaaDoor
