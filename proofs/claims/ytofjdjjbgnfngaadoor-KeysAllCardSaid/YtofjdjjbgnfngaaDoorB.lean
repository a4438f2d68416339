/- keys: the bytes of a key. -/
import Derived.Test.YtofjdjjbgnfngaaDoorA
import Derived.Test.YtofjdjjbgnfngaaDoorLate3
import Derived.Outline
set_option linter.unusedSimpArgs false
set_option linter.unusedVariables false
set_option linter.unnecessarySimpa false
namespace Go.Proofs.YtofjdjjbgnfngaaDoor
open Go.RowKit

def plainN (code rune : Int) (sh ct nl bk : Bool) : ByteArray × Bool :=
  if code = 2 then (if nl then ⟨#[13, 10]⟩ else ⟨#[13]⟩, true) else if code = 3 then (if sh then ⟨#[27, 91, 90]⟩ else ⟨#[9]⟩, true) else if code = 4 then (if (bk != ct) = true then ⟨#[8]⟩ else ⟨#[127]⟩, true) else if code = 5 then (⟨#[27]⟩, true)
  else if ct = true then (⟨#[UInt8.ofNat (controlN rune).1.toNat]⟩, (controlN rune).2) else (Utf8.encode rune, true)
theorem strOf_one (c : Int) : strOfNums [c] = ⟨#[UInt8.ofNat c.toNat]⟩ := rfl
set_option maxHeartbeats 4000000 in
theorem plain_any (code rune : Int) (sh al ct : Bool) (app nl bk : Bool) (w : World) (hc : 1 ≤ code ∧ code ≤ 5) (hr : -2147483648 ≤ rune ∧ rune ≤ 2147483647) : Calls Tryd.prog 29 #[.agg #[.int .i64 code, .int .i32 rune, .bool sh, .bool al, .bool ct], .agg #[.bool app, .bool nl, .bool bk]] w fun e w' => e = .returned (.tuple #[.string (plainN code rune sh ct nl bk).1, .bool (plainN code rune sh ct nl bk).2]) ∧ Below w.heap.size w w' := by
  have hcode : code = 1 ∨ code = 2 ∨ code = 3 ∨ code = 4 ∨ code = 5 := by omega
  clear hc
  rcases hcode with rfl | rfl | rfl | rfl | rfl
  · have cC := fun W => control_any rune W hr
    cases ct
    · have e : plainN 1 rune sh false nl bk = (Utf8.encode rune, true) := rfl
      rw [e]
      go_enter Tryd.func29, Tryd.ntmps29
      go_wp2_with fail
      go_ret2
      exact ⟨rfl, (by repeat (first | with_reducible exact Below.refl _ _ | with_reducible assumption | with_reducible exact GW.grow _ | with_reducible refine bl_alloc ?_ _ | with_reducible refine Below.drew ?_ | (with_reducible refine Below.setCell ?_ ?_ _; rotate_left; focus (simp; first | done | omega)) | with_reducible refine bl_trans ?_ (GW.grow _) | (with_reducible refine bl_trans ?_ (by assumption))))⟩
    · have e : plainN 1 rune sh true nl bk = (⟨#[UInt8.ofNat (controlN rune).1.toNat]⟩, (controlN rune).2) := rfl
      rw [e]
      have hrd : ∀ (c : Int) (W : World), Rd (W.alloc (.cells #[.int .u8 c] 5)) .u8 (.slice (some ⟨W.heap.size, 0, none⟩) 1 1) [c] := fun c W => Rd.lit1 W 5 .u8 c W.heap.size rfl
      have kc := fun (c : Int) (W : World) => run_str (P := Tryd.prog) 44 9 5 Tryd.underlying44 Tryd.underlying5 Tryd.underlying9 (hrd c W)
      generalize controlN rune = q at *
      obtain ⟨c, is⟩ := q
      go_enter Tryd.func29, Tryd.ntmps29
      go_wp2_with (first | (go_at_call 36; (with_reducible refine (cC _).mono ?_); rintro e w1 ⟨rfl, hb⟩; (first | obtain ⟨X, rfl⟩ := GW.of2 hb | obtain ⟨X, rfl⟩ := GW.of hb); clear hb))
      go_ret2
      exact ⟨rfl, (by repeat (first | with_reducible exact Below.refl _ _ | with_reducible assumption | with_reducible exact GW.grow _ | with_reducible refine bl_alloc ?_ _ | with_reducible refine Below.drew ?_ | (with_reducible refine Below.setCell ?_ ?_ _; rotate_left; focus (simp; first | done | omega)) | with_reducible refine bl_trans ?_ (GW.grow _) | (with_reducible refine bl_trans ?_ (by assumption))))⟩
  · cases nl
    all_goals
      go_enter Tryd.func29, Tryd.ntmps29
      go_wp2_with fail
      go_ret2
      exact ⟨rfl, (by repeat (first | with_reducible exact Below.refl _ _ | with_reducible assumption | with_reducible exact GW.grow _ | with_reducible refine bl_alloc ?_ _ | with_reducible refine Below.drew ?_ | (with_reducible refine Below.setCell ?_ ?_ _; rotate_left; focus (simp; first | done | omega)) | with_reducible refine bl_trans ?_ (GW.grow _) | (with_reducible refine bl_trans ?_ (by assumption))))⟩
  · cases sh
    all_goals
      go_enter Tryd.func29, Tryd.ntmps29
      go_wp2_with fail
      go_ret2
      exact ⟨rfl, (by repeat (first | with_reducible exact Below.refl _ _ | with_reducible assumption | with_reducible exact GW.grow _ | with_reducible refine bl_alloc ?_ _ | with_reducible refine Below.drew ?_ | (with_reducible refine Below.setCell ?_ ?_ _; rotate_left; focus (simp; first | done | omega)) | with_reducible refine bl_trans ?_ (GW.grow _) | (with_reducible refine bl_trans ?_ (by assumption))))⟩
  · cases bk <;> cases ct
    all_goals
      go_enter Tryd.func29, Tryd.ntmps29
      go_wp2_with fail
      go_ret2
      exact ⟨rfl, (by repeat (first | with_reducible exact Below.refl _ _ | with_reducible assumption | with_reducible exact GW.grow _ | with_reducible refine bl_alloc ?_ _ | with_reducible refine Below.drew ?_ | (with_reducible refine Below.setCell ?_ ?_ _; rotate_left; focus (simp; first | done | omega)) | with_reducible refine bl_trans ?_ (GW.grow _) | (with_reducible refine bl_trans ?_ (by assumption))))⟩
  · go_enter Tryd.func29, Tryd.ntmps29
    go_wp2_with fail
    go_ret2
    exact ⟨rfl, (by repeat (first | with_reducible exact Below.refl _ _ | with_reducible assumption | with_reducible exact GW.grow _ | with_reducible refine bl_alloc ?_ _ | with_reducible refine Below.drew ?_ | (with_reducible refine Below.setCell ?_ ?_ _; rotate_left; focus (simp; first | done | omega)) | with_reducible refine bl_trans ?_ (GW.grow _) | (with_reducible refine bl_trans ?_ (by assumption))))⟩
def letN (code : Int) : UInt8 := if code = 6 then 65 else if code = 7 then 66 else if code = 8 then 67 else if code = 9 then 68 else if code = 10 then 72 else if code = 11 then 70 else if code = 16 then 80 else if code = 17 then 81 else if code = 18 then 82 else if code = 19 then 83 else 0
def numN (code : Int) : Int := if code = 12 then 2 else if code = 13 then 3 else if code = 14 then 5 else if code = 15 then 6 else if code = 20 then 15 else if code = 21 then 17 else if code = 22 then 18 else if code = 23 then 19 else if code = 24 then 20 else if code = 25 then 21 else if code = 26 then 23 else if code = 27 then 24 else 0
def bytesS (code rune : Int) (sh al ct : Bool) (app nl bk : Bool) : ByteArray :=
  if code ≤ 5 then (if al = true then (⟨#[27]⟩ : ByteArray) else (⟨#[]⟩ : ByteArray)) ++ (plainN code rune sh ct nl bk).1
  else if code ≤ 11 then letterS (modN sh al ct) ⟨#[letN code]⟩ app else if code ≤ 15 then numberedS (modN sh al ct) (numN code) else if code ≤ 19 then letterS (modN sh al ct) ⟨#[letN code]⟩ true else numberedS (modN sh al ct) (numN code)
def bytesI (code rune : Int) (sh ct nl bk : Bool) : Bool := if code ≤ 5 then (plainN code rune sh ct nl bk).2 else true
def BytesE (code rune : Int) (sh al ct : Bool) (app nl bk : Bool) (w : World) (e : Ending) (w' : World) : Prop := ∃ v, e = .returned (.tuple #[v, .int .i64 0]) ∧ Rd w' .u8 v (bytesOf (bytesS code rune sh al ct app nl bk)) ∧ Below w.heap.size w w'
theorem bytes_bad (code rune : Int) (sh al ct : Bool) (app nl bk : Bool) (w : World) (hv : validK code rune = false) : Calls Tryd.prog 18 #[.agg #[.int .i64 code, .int .i32 rune, .bool sh, .bool al, .bool ct], .agg #[.bool app, .bool nl, .bool bk]] w fun e w' => e = .returned (.tuple #[.slice none 0 0, .int .i64 2]) ∧ Below w.heap.size w w' := by
  have cV := fun W => valid_any code rune sh al ct W
  rw [hv] at cV
  go_enter Tryd.func18, Tryd.ntmps18
  go_wp2_with (first | (go_at_call 8; (with_reducible refine (cV _).mono ?_); rintro e w1 ⟨rfl, hb⟩; (first | obtain ⟨X, rfl⟩ := GW.of2 hb | obtain ⟨X, rfl⟩ := GW.of hb); clear hb))
  go_ret2
  exact ⟨rfl, (by repeat (first | with_reducible exact Below.refl _ _ | with_reducible assumption | with_reducible exact GW.grow _ | with_reducible refine bl_alloc ?_ _ | with_reducible refine Below.drew ?_ | (with_reducible refine Below.setCell ?_ ?_ _; rotate_left; focus (simp; first | done | omega)) | with_reducible refine bl_trans ?_ (GW.grow _) | (with_reducible refine bl_trans ?_ (by assumption))))⟩
theorem enc_size (r : Int) : (Utf8.encode r).size ≤ 4 := by
  unfold Utf8.encode
  simp only
  generalize (if Utf8.valid r = true then r.toNat else Utf8.runeError) = c
  split
  · show 1 ≤ 4; omega
  · split
    · show 2 ≤ 4; omega
    · split
      · show 3 ≤ 4; omega
      · show 4 ≤ 4; omega
theorem letter_size (m : Int) (c : ByteArray) (o : Bool) (hc : c.size ≤ 100) (hm : 1 ≤ m ∧ m ≤ 8) : (letterS m c o).size ≤ 200 := by
  have h1 := numS_size m (by omega) (by omega)
  have h4 : (⟨#[27, 91, 49, 59]⟩ : ByteArray).size = 4 := rfl
  have h2 : (⟨#[27, 79]⟩ : ByteArray).size = 2 := rfl
  have h3 : (⟨#[27, 91]⟩ : ByteArray).size = 2 := rfl
  unfold letterS
  split
  · simp only [ByteArray.size_append]; omega
  · split <;> (simp only [ByteArray.size_append]; omega)
theorem numbered_size (m n : Int) (hn : 0 ≤ n ∧ n ≤ 99) (hm : 1 ≤ m ∧ m ≤ 8) : (numberedS m n).size ≤ 200 := by
  have h1 := numS_size m (by omega) (by omega)
  have h5 := numS_size n (by omega) (by omega)
  have h2 : (⟨#[59]⟩ : ByteArray).size = 1 := rfl
  have h4 : (⟨#[126]⟩ : ByteArray).size = 1 := rfl
  have h3 : (⟨#[27, 91]⟩ : ByteArray).size = 2 := rfl
  unfold numberedS
  split <;> (simp only [ByteArray.size_append]; omega)
theorem plain_size (code rune : Int) (sh ct nl bk : Bool) : (plainN code rune sh ct nl bk).1.size ≤ 10 := by
  have h2 : (⟨#[13, 10]⟩ : ByteArray).size = 2 := rfl
  unfold plainN
  repeat' split
  all_goals (simp only)
  all_goals first | exact Nat.le_trans (enc_size rune) (by omega) | (show _ ≤ 10; exact Nat.le_of_ble_eq_true rfl)
set_option maxHeartbeats 4000000 in
theorem bytes_1 (rune : Int) (sh al ct : Bool) (app nl bk : Bool) (w : World) (hr : -2147483648 ≤ rune ∧ rune ≤ 2147483647) (hv : validK 1 rune = true) : Calls Tryd.prog 18 #[.agg #[.int .i64 1, .int .i32 rune, .bool sh, .bool al, .bool ct], .agg #[.bool app, .bool nl, .bool bk]] w fun e w' => if bytesI 1 rune sh ct nl bk = true then BytesE 1 rune sh al ct app nl bk w e w' else e = .returned (.tuple #[.slice none 0 0, .int .i64 9]) ∧ Below w.heap.size w w' := by
  have cV := fun W => valid_any 1 rune sh al ct W
  rw [hv] at cV
  have cP := fun W => plain_any 1 rune sh al ct app nl bk W (by omega) hr
  have hps := plain_size 1 rune sh ct nl bk
  have hS : bytesS 1 rune sh al ct app nl bk = (if al = true then (⟨#[27]⟩ : ByteArray) else (⟨#[]⟩ : ByteArray)) ++ (plainN 1 rune sh ct nl bk).1 := rfl
  have hI : bytesI 1 rune sh ct nl bk = (plainN 1 rune sh ct nl bk).2 := rfl
  unfold BytesE
  rw [hS, hI]
  generalize (plainN 1 rune sh ct nl bk).1 = S at *
  generalize (plainN 1 rune sh ct nl bk).2 = is at *
  have hx0 : (⟨#[]⟩ : ByteArray) ++ S = S := by apply ByteArray.ext; simp
  have hx1 : ((⟨#[27]⟩ : ByteArray) ++ S).size ≤ maxLen := by rw [ByteArray.size_append]; unfold maxLen; have : (⟨#[27]⟩ : ByteArray).size = 1 := rfl; omega
  have hx2 : ((⟨#[]⟩ : ByteArray) ++ S).size ≤ maxLen := by rw [hx0]; unfold maxLen; omega
  have hB := bl_alloc (bl_alloc (Below.refl _ w) (.cells #[.int .i64 1, .int .i32 rune, .bool sh, .bool al, .bool ct] 24)) (.cells #[.bool app, .bool nl, .bool bk] 26)
  clear hS hI
  cases is
  · simp only [Bool.false_eq_true, ↓reduceIte]
    go_enter Tryd.func18, Tryd.ntmps18
    go_wp2_with (first | (go_at_call 8; (with_reducible refine (cV _).mono ?_); rintro e w1 ⟨rfl, hb⟩; (first | obtain ⟨X, rfl⟩ := GW.of2 hb | obtain ⟨X, rfl⟩ := GW.of hb); clear hb) | (go_at_call 29; (with_reducible refine (cP _).mono ?_); rintro e w2 ⟨rfl, hb2⟩))
    go_ret2
    exact ⟨rfl, bl_trans (bl_alloc (bl_trans hB X.grow) _) hb2⟩
  · simp only [↓reduceIte]
    cases al
    all_goals
      go_enter Tryd.func18, Tryd.ntmps18
      go_wp2_with (first | (go_at_call 8; (with_reducible refine (cV _).mono ?_); rintro e w1 ⟨rfl, hb⟩; (first | obtain ⟨X, rfl⟩ := GW.of2 hb | obtain ⟨X, rfl⟩ := GW.of hb); clear hb) | (go_at_call 29; (with_reducible refine (cP _).mono ?_); rintro e w2 ⟨rfl, hb2⟩; have hl2 : Below w.heap.size w w2 := bl_trans (bl_alloc (bl_trans hB X.grow) _) hb2; have xk : Box w2 w.heap.size _ 24 := (hb2.block _ (by simp; exact Nat.lt_succ_of_lt (GW.lt X _ (by simp <;> omega)))).trans ((Box.gw ((Box.new w _ _ rfl).alloc _)).alloc _); have ck := xk.cell; have lk := xk.lt) | (refine wpList_bytes rfl _ 9 44 5 rfl Tryd.underlying9 Tryd.underlying44 Tryd.underlying5 _ rfl hx1 ?_; intro v w4 hrd hfr hb4) | (refine wpList_bytes rfl _ 9 44 5 rfl Tryd.underlying9 Tryd.underlying44 Tryd.underlying5 _ rfl hx2 ?_; intro v w4 hrd hfr hb4))
      go_ret2
      exact ⟨_, rfl, hrd, bl_trans hl2 hb4⟩
set_option maxHeartbeats 4000000 in
theorem bytes_2 (rune : Int) (sh al ct : Bool) (app nl bk : Bool) (w : World) (hr : -2147483648 ≤ rune ∧ rune ≤ 2147483647) (hv : validK 2 rune = true) : Calls Tryd.prog 18 #[.agg #[.int .i64 2, .int .i32 rune, .bool sh, .bool al, .bool ct], .agg #[.bool app, .bool nl, .bool bk]] w fun e w' => if bytesI 2 rune sh ct nl bk = true then BytesE 2 rune sh al ct app nl bk w e w' else e = .returned (.tuple #[.slice none 0 0, .int .i64 9]) ∧ Below w.heap.size w w' := by
  have cV := fun W => valid_any 2 rune sh al ct W
  rw [hv] at cV
  have cP := fun W => plain_any 2 rune sh al ct app nl bk W (by omega) hr
  have hps := plain_size 2 rune sh ct nl bk
  have hS : bytesS 2 rune sh al ct app nl bk = (if al = true then (⟨#[27]⟩ : ByteArray) else (⟨#[]⟩ : ByteArray)) ++ (plainN 2 rune sh ct nl bk).1 := rfl
  have hI : bytesI 2 rune sh ct nl bk = (plainN 2 rune sh ct nl bk).2 := rfl
  unfold BytesE
  rw [hS, hI]
  generalize (plainN 2 rune sh ct nl bk).1 = S at *
  generalize (plainN 2 rune sh ct nl bk).2 = is at *
  have hx0 : (⟨#[]⟩ : ByteArray) ++ S = S := by apply ByteArray.ext; simp
  have hx1 : ((⟨#[27]⟩ : ByteArray) ++ S).size ≤ maxLen := by rw [ByteArray.size_append]; unfold maxLen; have : (⟨#[27]⟩ : ByteArray).size = 1 := rfl; omega
  have hx2 : ((⟨#[]⟩ : ByteArray) ++ S).size ≤ maxLen := by rw [hx0]; unfold maxLen; omega
  have hB := bl_alloc (bl_alloc (Below.refl _ w) (.cells #[.int .i64 2, .int .i32 rune, .bool sh, .bool al, .bool ct] 24)) (.cells #[.bool app, .bool nl, .bool bk] 26)
  clear hS hI
  cases is
  · simp only [Bool.false_eq_true, ↓reduceIte]
    go_enter Tryd.func18, Tryd.ntmps18
    go_wp2_with (first | (go_at_call 8; (with_reducible refine (cV _).mono ?_); rintro e w1 ⟨rfl, hb⟩; (first | obtain ⟨X, rfl⟩ := GW.of2 hb | obtain ⟨X, rfl⟩ := GW.of hb); clear hb) | (go_at_call 29; (with_reducible refine (cP _).mono ?_); rintro e w2 ⟨rfl, hb2⟩))
    go_ret2
    exact ⟨rfl, bl_trans (bl_alloc (bl_trans hB X.grow) _) hb2⟩
  · simp only [↓reduceIte]
    cases al
    all_goals
      go_enter Tryd.func18, Tryd.ntmps18
      go_wp2_with (first | (go_at_call 8; (with_reducible refine (cV _).mono ?_); rintro e w1 ⟨rfl, hb⟩; (first | obtain ⟨X, rfl⟩ := GW.of2 hb | obtain ⟨X, rfl⟩ := GW.of hb); clear hb) | (go_at_call 29; (with_reducible refine (cP _).mono ?_); rintro e w2 ⟨rfl, hb2⟩; have hl2 : Below w.heap.size w w2 := bl_trans (bl_alloc (bl_trans hB X.grow) _) hb2; have xk : Box w2 w.heap.size _ 24 := (hb2.block _ (by simp; exact Nat.lt_succ_of_lt (GW.lt X _ (by simp <;> omega)))).trans ((Box.gw ((Box.new w _ _ rfl).alloc _)).alloc _); have ck := xk.cell; have lk := xk.lt) | (refine wpList_bytes rfl _ 9 44 5 rfl Tryd.underlying9 Tryd.underlying44 Tryd.underlying5 _ rfl hx1 ?_; intro v w4 hrd hfr hb4) | (refine wpList_bytes rfl _ 9 44 5 rfl Tryd.underlying9 Tryd.underlying44 Tryd.underlying5 _ rfl hx2 ?_; intro v w4 hrd hfr hb4))
      go_ret2
      exact ⟨_, rfl, hrd, bl_trans hl2 hb4⟩
set_option maxHeartbeats 4000000 in
theorem bytes_3 (rune : Int) (sh al ct : Bool) (app nl bk : Bool) (w : World) (hr : -2147483648 ≤ rune ∧ rune ≤ 2147483647) (hv : validK 3 rune = true) : Calls Tryd.prog 18 #[.agg #[.int .i64 3, .int .i32 rune, .bool sh, .bool al, .bool ct], .agg #[.bool app, .bool nl, .bool bk]] w fun e w' => if bytesI 3 rune sh ct nl bk = true then BytesE 3 rune sh al ct app nl bk w e w' else e = .returned (.tuple #[.slice none 0 0, .int .i64 9]) ∧ Below w.heap.size w w' := by
  have cV := fun W => valid_any 3 rune sh al ct W
  rw [hv] at cV
  have cP := fun W => plain_any 3 rune sh al ct app nl bk W (by omega) hr
  have hps := plain_size 3 rune sh ct nl bk
  have hS : bytesS 3 rune sh al ct app nl bk = (if al = true then (⟨#[27]⟩ : ByteArray) else (⟨#[]⟩ : ByteArray)) ++ (plainN 3 rune sh ct nl bk).1 := rfl
  have hI : bytesI 3 rune sh ct nl bk = (plainN 3 rune sh ct nl bk).2 := rfl
  unfold BytesE
  rw [hS, hI]
  generalize (plainN 3 rune sh ct nl bk).1 = S at *
  generalize (plainN 3 rune sh ct nl bk).2 = is at *
  have hx0 : (⟨#[]⟩ : ByteArray) ++ S = S := by apply ByteArray.ext; simp
  have hx1 : ((⟨#[27]⟩ : ByteArray) ++ S).size ≤ maxLen := by rw [ByteArray.size_append]; unfold maxLen; have : (⟨#[27]⟩ : ByteArray).size = 1 := rfl; omega
  have hx2 : ((⟨#[]⟩ : ByteArray) ++ S).size ≤ maxLen := by rw [hx0]; unfold maxLen; omega
  have hB := bl_alloc (bl_alloc (Below.refl _ w) (.cells #[.int .i64 3, .int .i32 rune, .bool sh, .bool al, .bool ct] 24)) (.cells #[.bool app, .bool nl, .bool bk] 26)
  clear hS hI
  cases is
  · simp only [Bool.false_eq_true, ↓reduceIte]
    go_enter Tryd.func18, Tryd.ntmps18
    go_wp2_with (first | (go_at_call 8; (with_reducible refine (cV _).mono ?_); rintro e w1 ⟨rfl, hb⟩; (first | obtain ⟨X, rfl⟩ := GW.of2 hb | obtain ⟨X, rfl⟩ := GW.of hb); clear hb) | (go_at_call 29; (with_reducible refine (cP _).mono ?_); rintro e w2 ⟨rfl, hb2⟩))
    go_ret2
    exact ⟨rfl, bl_trans (bl_alloc (bl_trans hB X.grow) _) hb2⟩
  · simp only [↓reduceIte]
    cases al
    all_goals
      go_enter Tryd.func18, Tryd.ntmps18
      go_wp2_with (first | (go_at_call 8; (with_reducible refine (cV _).mono ?_); rintro e w1 ⟨rfl, hb⟩; (first | obtain ⟨X, rfl⟩ := GW.of2 hb | obtain ⟨X, rfl⟩ := GW.of hb); clear hb) | (go_at_call 29; (with_reducible refine (cP _).mono ?_); rintro e w2 ⟨rfl, hb2⟩; have hl2 : Below w.heap.size w w2 := bl_trans (bl_alloc (bl_trans hB X.grow) _) hb2; have xk : Box w2 w.heap.size _ 24 := (hb2.block _ (by simp; exact Nat.lt_succ_of_lt (GW.lt X _ (by simp <;> omega)))).trans ((Box.gw ((Box.new w _ _ rfl).alloc _)).alloc _); have ck := xk.cell; have lk := xk.lt) | (refine wpList_bytes rfl _ 9 44 5 rfl Tryd.underlying9 Tryd.underlying44 Tryd.underlying5 _ rfl hx1 ?_; intro v w4 hrd hfr hb4) | (refine wpList_bytes rfl _ 9 44 5 rfl Tryd.underlying9 Tryd.underlying44 Tryd.underlying5 _ rfl hx2 ?_; intro v w4 hrd hfr hb4))
      go_ret2
      exact ⟨_, rfl, hrd, bl_trans hl2 hb4⟩
set_option maxHeartbeats 4000000 in
theorem bytes_4 (rune : Int) (sh al ct : Bool) (app nl bk : Bool) (w : World) (hr : -2147483648 ≤ rune ∧ rune ≤ 2147483647) (hv : validK 4 rune = true) : Calls Tryd.prog 18 #[.agg #[.int .i64 4, .int .i32 rune, .bool sh, .bool al, .bool ct], .agg #[.bool app, .bool nl, .bool bk]] w fun e w' => if bytesI 4 rune sh ct nl bk = true then BytesE 4 rune sh al ct app nl bk w e w' else e = .returned (.tuple #[.slice none 0 0, .int .i64 9]) ∧ Below w.heap.size w w' := by
  have cV := fun W => valid_any 4 rune sh al ct W
  rw [hv] at cV
  have cP := fun W => plain_any 4 rune sh al ct app nl bk W (by omega) hr
  have hps := plain_size 4 rune sh ct nl bk
  have hS : bytesS 4 rune sh al ct app nl bk = (if al = true then (⟨#[27]⟩ : ByteArray) else (⟨#[]⟩ : ByteArray)) ++ (plainN 4 rune sh ct nl bk).1 := rfl
  have hI : bytesI 4 rune sh ct nl bk = (plainN 4 rune sh ct nl bk).2 := rfl
  unfold BytesE
  rw [hS, hI]
  generalize (plainN 4 rune sh ct nl bk).1 = S at *
  generalize (plainN 4 rune sh ct nl bk).2 = is at *
  have hx0 : (⟨#[]⟩ : ByteArray) ++ S = S := by apply ByteArray.ext; simp
  have hx1 : ((⟨#[27]⟩ : ByteArray) ++ S).size ≤ maxLen := by rw [ByteArray.size_append]; unfold maxLen; have : (⟨#[27]⟩ : ByteArray).size = 1 := rfl; omega
  have hx2 : ((⟨#[]⟩ : ByteArray) ++ S).size ≤ maxLen := by rw [hx0]; unfold maxLen; omega
  have hB := bl_alloc (bl_alloc (Below.refl _ w) (.cells #[.int .i64 4, .int .i32 rune, .bool sh, .bool al, .bool ct] 24)) (.cells #[.bool app, .bool nl, .bool bk] 26)
  clear hS hI
  cases is
  · simp only [Bool.false_eq_true, ↓reduceIte]
    go_enter Tryd.func18, Tryd.ntmps18
    go_wp2_with (first | (go_at_call 8; (with_reducible refine (cV _).mono ?_); rintro e w1 ⟨rfl, hb⟩; (first | obtain ⟨X, rfl⟩ := GW.of2 hb | obtain ⟨X, rfl⟩ := GW.of hb); clear hb) | (go_at_call 29; (with_reducible refine (cP _).mono ?_); rintro e w2 ⟨rfl, hb2⟩))
    go_ret2
    exact ⟨rfl, bl_trans (bl_alloc (bl_trans hB X.grow) _) hb2⟩
  · simp only [↓reduceIte]
    cases al
    all_goals
      go_enter Tryd.func18, Tryd.ntmps18
      go_wp2_with (first | (go_at_call 8; (with_reducible refine (cV _).mono ?_); rintro e w1 ⟨rfl, hb⟩; (first | obtain ⟨X, rfl⟩ := GW.of2 hb | obtain ⟨X, rfl⟩ := GW.of hb); clear hb) | (go_at_call 29; (with_reducible refine (cP _).mono ?_); rintro e w2 ⟨rfl, hb2⟩; have hl2 : Below w.heap.size w w2 := bl_trans (bl_alloc (bl_trans hB X.grow) _) hb2; have xk : Box w2 w.heap.size _ 24 := (hb2.block _ (by simp; exact Nat.lt_succ_of_lt (GW.lt X _ (by simp <;> omega)))).trans ((Box.gw ((Box.new w _ _ rfl).alloc _)).alloc _); have ck := xk.cell; have lk := xk.lt) | (refine wpList_bytes rfl _ 9 44 5 rfl Tryd.underlying9 Tryd.underlying44 Tryd.underlying5 _ rfl hx1 ?_; intro v w4 hrd hfr hb4) | (refine wpList_bytes rfl _ 9 44 5 rfl Tryd.underlying9 Tryd.underlying44 Tryd.underlying5 _ rfl hx2 ?_; intro v w4 hrd hfr hb4))
      go_ret2
      exact ⟨_, rfl, hrd, bl_trans hl2 hb4⟩
set_option maxHeartbeats 4000000 in
theorem bytes_5 (rune : Int) (sh al ct : Bool) (app nl bk : Bool) (w : World) (hr : -2147483648 ≤ rune ∧ rune ≤ 2147483647) (hv : validK 5 rune = true) : Calls Tryd.prog 18 #[.agg #[.int .i64 5, .int .i32 rune, .bool sh, .bool al, .bool ct], .agg #[.bool app, .bool nl, .bool bk]] w fun e w' => if bytesI 5 rune sh ct nl bk = true then BytesE 5 rune sh al ct app nl bk w e w' else e = .returned (.tuple #[.slice none 0 0, .int .i64 9]) ∧ Below w.heap.size w w' := by
  have cV := fun W => valid_any 5 rune sh al ct W
  rw [hv] at cV
  have cP := fun W => plain_any 5 rune sh al ct app nl bk W (by omega) hr
  have hps := plain_size 5 rune sh ct nl bk
  have hS : bytesS 5 rune sh al ct app nl bk = (if al = true then (⟨#[27]⟩ : ByteArray) else (⟨#[]⟩ : ByteArray)) ++ (plainN 5 rune sh ct nl bk).1 := rfl
  have hI : bytesI 5 rune sh ct nl bk = (plainN 5 rune sh ct nl bk).2 := rfl
  unfold BytesE
  rw [hS, hI]
  generalize (plainN 5 rune sh ct nl bk).1 = S at *
  generalize (plainN 5 rune sh ct nl bk).2 = is at *
  have hx0 : (⟨#[]⟩ : ByteArray) ++ S = S := by apply ByteArray.ext; simp
  have hx1 : ((⟨#[27]⟩ : ByteArray) ++ S).size ≤ maxLen := by rw [ByteArray.size_append]; unfold maxLen; have : (⟨#[27]⟩ : ByteArray).size = 1 := rfl; omega
  have hx2 : ((⟨#[]⟩ : ByteArray) ++ S).size ≤ maxLen := by rw [hx0]; unfold maxLen; omega
  have hB := bl_alloc (bl_alloc (Below.refl _ w) (.cells #[.int .i64 5, .int .i32 rune, .bool sh, .bool al, .bool ct] 24)) (.cells #[.bool app, .bool nl, .bool bk] 26)
  clear hS hI
  cases is
  · simp only [Bool.false_eq_true, ↓reduceIte]
    go_enter Tryd.func18, Tryd.ntmps18
    go_wp2_with (first | (go_at_call 8; (with_reducible refine (cV _).mono ?_); rintro e w1 ⟨rfl, hb⟩; (first | obtain ⟨X, rfl⟩ := GW.of2 hb | obtain ⟨X, rfl⟩ := GW.of hb); clear hb) | (go_at_call 29; (with_reducible refine (cP _).mono ?_); rintro e w2 ⟨rfl, hb2⟩))
    go_ret2
    exact ⟨rfl, bl_trans (bl_alloc (bl_trans hB X.grow) _) hb2⟩
  · simp only [↓reduceIte]
    cases al
    all_goals
      go_enter Tryd.func18, Tryd.ntmps18
      go_wp2_with (first | (go_at_call 8; (with_reducible refine (cV _).mono ?_); rintro e w1 ⟨rfl, hb⟩; (first | obtain ⟨X, rfl⟩ := GW.of2 hb | obtain ⟨X, rfl⟩ := GW.of hb); clear hb) | (go_at_call 29; (with_reducible refine (cP _).mono ?_); rintro e w2 ⟨rfl, hb2⟩; have hl2 : Below w.heap.size w w2 := bl_trans (bl_alloc (bl_trans hB X.grow) _) hb2; have xk : Box w2 w.heap.size _ 24 := (hb2.block _ (by simp; exact Nat.lt_succ_of_lt (GW.lt X _ (by simp <;> omega)))).trans ((Box.gw ((Box.new w _ _ rfl).alloc _)).alloc _); have ck := xk.cell; have lk := xk.lt) | (refine wpList_bytes rfl _ 9 44 5 rfl Tryd.underlying9 Tryd.underlying44 Tryd.underlying5 _ rfl hx1 ?_; intro v w4 hrd hfr hb4) | (refine wpList_bytes rfl _ 9 44 5 rfl Tryd.underlying9 Tryd.underlying44 Tryd.underlying5 _ rfl hx2 ?_; intro v w4 hrd hfr hb4))
      go_ret2
      exact ⟨_, rfl, hrd, bl_trans hl2 hb4⟩

end Go.Proofs.YtofjdjjbgnfngaaDoor
