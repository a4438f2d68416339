/- parser: clear, enter, ground, collect. -/
import Derived.Test.YtpkkfcfkhiaggaaC
import Derived.Outline
set_option linter.unusedSimpArgs false
set_option linter.unusedVariables false
set_option linter.unnecessarySimpa false
namespace Go.Proofs.Ytpkkfcfkhiaggaa
open Go.RowKit
open Go.Proofs.Ytpkkfcfkhiaggaa.Pm (fineR addB addO bldQ refL bldC BldV bldC_len)

theorem enc_1 (r : Int) (h : 0 ≤ r ∧ r < 128) : Utf8.encode r = strOfNums [r] := by
  have hv : Utf8.valid r = true := by unfold Utf8.valid; simp; omega
  unfold Utf8.encode
  simp only [hv, if_true]
  rw [if_pos (by omega)]
  rfl
theorem enc_2 (r : Int) (h : 128 ≤ r ∧ r < 2048) : Utf8.encode r = strOfNums [192 + r / 64, 128 + r % 64] := by
  have hv : Utf8.valid r = true := by unfold Utf8.valid; simp; omega
  unfold Utf8.encode strOfNums
  simp only [hv, if_true, List.map_cons, List.map_nil]
  rw [if_neg (by omega), if_pos (by omega), show (192 + r / 64).toNat = 0xC0 + r.toNat / 64 by omega, show (128 + r % 64).toNat = 0x80 + r.toNat % 64 by omega]
theorem enc_3 (r : Int) (h : 2048 ≤ r ∧ r < 65536) (hs : r < 55296 ∨ 57343 < r) : Utf8.encode r = strOfNums [224 + r / 4096, 128 + r / 64 % 64, 128 + r % 64] := by
  have hv : Utf8.valid r = true := by unfold Utf8.valid; simp; omega
  unfold Utf8.encode strOfNums
  simp only [hv, if_true, List.map_cons, List.map_nil]
  rw [if_neg (by omega), if_neg (by omega), if_pos (by omega), show (224 + r / 4096).toNat = 0xE0 + r.toNat / 4096 by omega, show (128 + r / 64 % 64).toNat = 0x80 + r.toNat / 64 % 64 by omega, show (128 + r % 64).toNat = 0x80 + r.toNat % 64 by omega]
theorem enc_4 (r : Int) (h : 65536 ≤ r ∧ r ≤ 1114111) : Utf8.encode r = strOfNums [240 + r / 262144, 128 + r / 4096 % 64, 128 + r / 64 % 64, 128 + r % 64] := by
  have hv : Utf8.valid r = true := by unfold Utf8.valid; simp; omega
  unfold Utf8.encode strOfNums
  simp only [hv, if_true, List.map_cons, List.map_nil]
  rw [if_neg (by omega), if_neg (by omega), if_neg (by omega), show (240 + r / 262144).toNat = 0xF0 + r.toNat / 262144 by omega, show (128 + r / 4096 % 64).toNat = 0x80 + r.toNat / 4096 % 64 by omega, show (128 + r / 64 % 64).toNat = 0x80 + r.toNat / 64 % 64 by omega, show (128 + r % 64).toNat = 0x80 + r.toNat % 64 by omega]
theorem enc_bad (r : Int) (h : validR r = false) : Utf8.encode r = strOfNums [239, 191, 189] := by
  have hv : Utf8.valid r = false := by
    cases hq : Utf8.valid r with
    | false => rfl
    | true =>
      exfalso
      unfold Utf8.valid at hq
      unfold validR at h
      simp at hq h
      omega
  unfold Utf8.encode strOfNums
  simp only [hv, Bool.false_eq_true, if_false]
  rfl
theorem enc_any (r : Int) : Utf8.encode r = strOfNums (enc1 r) := by
  cases hv : validR r with
  | false =>
    rw [enc_bad r hv]
    unfold enc1
    rw [if_neg (by rw [hv]; decide)]
    rfl
  | true =>
    have hr : (0 ≤ r ∧ r < 55296) ∨ (57343 < r ∧ r ≤ 1114111) := by simpa [validR] using hv
    unfold enc1 enc0
    rw [if_pos hv]
    split
    · exact enc_1 r (by omega)
    · split
      · exact enc_2 r (by omega)
      · split
        · exact enc_3 r (by omega) (by omega)
        · exact enc_4 r (by omega)
theorem strOf_app (a b : List Int) : strOfNums a ++ strOfNums b = strOfNums (a ++ b) := by
  unfold strOfNums
  apply ByteArray.ext
  simp
theorem strOf_size (l : List Int) : (strOfNums l).size = l.length := by
  unfold strOfNums
  simp [ByteArray.size]
theorem strOf_nil : strOfNums [] = ⟨#[]⟩ := rfl
set_option maxRecDepth 100000 in
theorem clear_any (D : Nat) (X : Nat → Prop) (p : Ps) (w : World) (h : PV w D X p) : Calls Try.prog 60 #[.pointer (some ⟨D, 0, none⟩)] w fun e w' => e = .returned (.tuple #[]) ∧ Bar D w w' ∧ PV w' D X (ent p p.st) := by
  obtain ⟨bv, tv, m, lo, hi, ls, h⟩ := h
  obtain ⟨c4, c5, c6, c25, cf, cl⟩ := h.box.pf
  have b3 := ((h.box.setpf 0).setit ⟨#[]⟩).settv (.slice none 0 0)
  have hbar : Bar D w (((w.setCell ⟨D, 5, none⟩ (.int .i32 0)).setCell ⟨D, 6, none⟩ (.string ⟨#[]⟩)).setCell ⟨D, 25, none⟩ (.slice none 0 0)) := (((Bar.refl D w).set _ _).set _ _).set _ _
  have cR : Calls Try.prog 76 #[.pointer (some ⟨D, 7, none⟩)] (((w.setCell ⟨D, 5, none⟩ (.int .i32 0)).setCell ⟨D, 6, none⟩ (.string ⟨#[]⟩)).setCell ⟨D, 25, none⟩ (.slice none 0 0)) _ := Pm.reset_any D 31 [bv, .int .i64 m, .int .u8 lo, .int .u8 hi, .int .i64 p.st, .int .i32 0, .string ⟨#[]⟩] [.slice none 0 0] p.ws p.ov _ ⟨ls, h.box.1, h.lw, h.tk, b3.2⟩
  go_enter Try.func60, Try.ntmps60
  go_wp2_with (first | (go_at_call 76; (with_reducible refine cR.mono ?_); rintro e w1 ⟨rfl, hb1, hbld⟩))
  go_end0
  have hB := hbar.trans hb1
  obtain ⟨ls2, hl2, hw2, ht2, hx2⟩ := hbld
  refine ⟨rfl, hB, bv, .slice none 0 0, m, lo, hi, ls2, ⟨⟨hl2, hx2⟩, rd_bar h.rb (fun e => (h.ob D e).1 rfl) hB, Rd.nil _ _, h.ob, by simp [Value.ownBlock], h.dec, h.wf, Nat.zero_le _, rfl, by simp [ent], by simp [ent], Nat.zero_le _, by simp [ent], Nat.zero_le _⟩⟩
theorem PV.setst {w : World} {D : Nat} {X : Nat → Prop} {p : Ps} (h : PV w D X p) (s : Int) : PV (w.setCell ⟨D, 4, none⟩ (.int .i64 s)) D X { p with st := s } := by
  obtain ⟨bv, tv, m, lo, hi, ls, h⟩ := h
  have hB : Bar D w (w.setCell ⟨D, 4, none⟩ (.int .i64 s)) := (Bar.refl D w).set _ _
  exact ⟨bv, tv, m, lo, hi, ls, { h with box := h.box.setst s, rb := rd_bar h.rb (fun e => (h.ob D e).1 rfl) hB, rt := rd_bar h.rt (fun e => (h.ot D e).1 rfl) hB }⟩
theorem PV.pf {w : World} {D : Nat} {X : Nat → Prop} {p : Ps} (h : PV w D X p) : ∃ tv, PF w D p.st p.pf (strOfNums p.it) tv ∧ Rd w .u8 tv p.tx := by
  obtain ⟨bv, tv, m, lo, hi, ls, h⟩ := h
  exact ⟨tv, h.box.pf, h.rt⟩
set_option maxRecDepth 100000 in
theorem enter_any (D : Nat) (X : Nat → Prop) (p : Ps) (s : Int) (w : World) (h : PV w D X p) : Calls Try.prog 37 #[.pointer (some ⟨D, 0, none⟩), .int .i64 s] w fun e w' => e = .returned (.slice none 0 0) ∧ Bar D w w' ∧ PV w' D X (ent p s) := by
  have cC := clear_any D X p w h
  go_enter Try.func37, Try.ntmps37
  go_wp2_with (first | (go_at_call 60; (with_reducible refine cC.mono ?_); rintro e w1 ⟨rfl, hb1, hp1⟩; obtain ⟨tv1, ⟨_, _, _, _, cf1, cl1⟩, _⟩ := hp1.pf))
  go_ret
  exact ⟨rfl, hb1.trans ((Bar.refl _ _).set _ _), hp1.setst s⟩
set_option maxRecDepth 100000 in
theorem ground_any (D : Nat) (X : Nat → Prop) (p : Ps) (v : Value) (w : World) (h : PV w D X p) : Calls Try.prog 38 #[.pointer (some ⟨D, 0, none⟩), v] w fun e w' => e = .returned v ∧ Bar D w w' ∧ PV w' D X (ent p 0) := by
  have cC := clear_any D X p w h
  go_enter Try.func38, Try.ntmps38
  go_wp2_with (first | (go_at_call 60; (with_reducible refine cC.mono ?_); rintro e w1 ⟨rfl, hb1, hp1⟩; obtain ⟨tv1, ⟨_, _, _, _, cf1, cl1⟩, _⟩ := hp1.pf))
  go_ret
  exact ⟨rfl, hb1.trans ((Bar.refl _ _).set _ _), hp1.setst 0⟩
theorem collect_any (D : Nat) (X : Nat → Prop) (p : Ps) (r : Int) (w : World) (h : PV w D X p) (hr : 32 ≤ r ∧ r ≤ 47) : Calls Try.prog 62 #[.pointer (some ⟨D, 0, none⟩), .int .i32 r] w fun e w' => e = .returned (.tuple #[]) ∧ Bar D w w' ∧ PV w' D X (col p r) := by
  obtain ⟨bv, tv, m, lo, hi, ls, h⟩ := h
  obtain ⟨c4, c5, c6, c25, cf, cl⟩ := h.box.pf
  have hs : (strOfNums p.it).size = p.it.length := strOf_size _
  have he : strOfNums p.it ++ Utf8.encode r = strOfNums (p.it ++ enc1 r) := by rw [enc_any, strOf_app]
  have hz : (Utf8.encode r).size ≤ 1 := by rw [enc_any, strOf_size, enc1_ascii r (by omega)]; exact Nat.le_refl 1
  unfold col
  by_cases hl : p.it.length ≤ 2
  · rw [if_pos hl]
    have hlI : ((strOfNums p.it).size : Int) ≤ 2 := by omega
    go_enter Try.func62, Try.ntmps62
    go_wp2_with fail
    go_end0
    have hB : Bar D w (w.setCell ⟨D, 6, none⟩ (.string (strOfNums (p.it ++ enc1 r)))) := (Bar.refl D w).set _ _
    exact ⟨rfl, hB, bv, tv, m, lo, hi, ls, { h with box := h.box.setit _, rb := rd_bar h.rb (fun e => (h.ob D e).1 rfl) hB, rt := rd_bar h.rt (fun e => (h.ot D e).1 rfl) hB, ib := fun x hx => (List.mem_append.1 hx).elim (h.ib x) (fun hx => by rw [enc1_ascii r (by omega)] at hx; rw [List.mem_singleton.1 hx]; unfold Byte; omega), il := by show (p.it ++ enc1 r).length ≤ 3; rw [enc1_ascii r (by omega), List.length_append]; simp; omega }⟩
  · rw [if_neg hl]
    have hlI : ¬ ((strOfNums p.it).size : Int) ≤ 2 := by omega
    go_enter Try.func62, Try.ntmps62
    go_wp2_with fail
    go_end0
    exact ⟨rfl, Bar.refl _ _, bv, tv, m, lo, hi, ls, h⟩

end Go.Proofs.Ytpkkfcfkhiaggaa
