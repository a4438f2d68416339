/- pointer: the bytes of an event. -/
import Derived.Test.YtfhigmogcpocpaaDoorB
import Derived.Test.YtfhigmogcpocpaaDoorDec
import Derived.Outline
set_option linter.unusedSimpArgs false
set_option linter.unusedVariables false
set_option linter.unnecessarySimpa false
namespace Go.Proofs.YtfhigmogcpocpaaDoor
open Go.RowKit

def numS (n : Int) : ByteArray := ⟨(Lib.itoa n).toArray⟩
theorem numS_size (n : Int) (h0 : -9223372036854775808 ≤ n) (h1 : n ≤ 9223372036854775807) : (numS n).size ≤ 21 := by
  have := Lib.itoa_length_le n h0 h1
  unfold numS; rw [size_mk]; omega
theorem itoa_s (n : Int) (w : World) (h0 : -9223372036854775808 ≤ n) (h1 : n ≤ 9223372036854775807) (ht : Tab w) : Calls Tryd.prog 26 #[.int .i64 n] w fun e w' => e = .returned (.string (numS n)) ∧ Below w.heap.size w w' := itoa_any n w h0 h1 ht
theorem dec_s (n : Int) (w : World) (h0 : 0 ≤ n) (h1 : n ≤ 1000000) : Calls Tryd.prog 22 #[.int .i64 n] w fun e w' => e = .returned (.string (numS n)) ∧ Below w.heap.size w w' := by
  obtain ⟨k, rfl⟩ : ∃ k : Nat, n = k := ⟨n.toNat, by omega⟩
  unfold numS
  rw [Lib.itoa_nonneg]
  exact decimal_any k w (by omega)
def longS (code r c : Int) (z : ByteArray) : ByteArray := ((((((⟨#[27, 91, 60]⟩ : ByteArray) ++ numS code) ++ (⟨#[59]⟩ : ByteArray)) ++ numS (c + 1)) ++ (⟨#[59]⟩ : ByteArray)) ++ numS (r + 1)) ++ z
def outS (x : Bool) (k code r c : Int) : ByteArray :=
  if x = true then (if k = 2 then longS code r c ⟨#[109]⟩ else longS code r c ⟨#[77]⟩)
  else if 223 ≤ r ∨ 223 ≤ c then ⟨#[]⟩ else strOfNums [27, 91, 77, (if k = 2 then code - code % 4 + 3 else code) + 32, c + 33, r + 33]
theorem sz3 (a b c : UInt8) : (⟨#[a, b, c]⟩ : ByteArray).size = 3 := rfl
theorem sz1 (a : UInt8) : (⟨#[a]⟩ : ByteArray).size = 1 := rfl
def BytesE (x : Bool) (k code r c : Int) (w : World) (e : Ending) (w' : World) : Prop := ∃ v xs, e = .returned v ∧ Rd w' .u8 v xs ∧ strOfNums xs = outS x k code r c ∧ Below w.heap.size w w'
set_option maxHeartbeats 4000000 in
set_option maxRecDepth 100000 in
theorem bytes_long (D o : Nat) (p : Pt) (k b r c : Int) (sh al ct : Bool) (code : Int) (w : World) (h : PtB w D o p) (ht : Tab w) (hx : p.exact = true) (hv : validE k b r c = true) (hcode : 0 ≤ code ∧ code ≤ 199) : Calls Tryd.prog 25 #[.pointer (some ⟨D, o, none⟩), .agg #[.int .i64 k, .int .i64 b, .int .i64 r, .int .i64 c, .bool sh, .bool al, .bool ct], .int .i64 code] w (BytesE true k code r c w) := by
  obtain ⟨q0, q1, q2, q3, q4, q5⟩ := h.cells
  have hl := h.lt
  rw [hx] at q1
  unfold validE at hv
  have hv := of_decide_eq_true hv
  have t1 : IntKind.i64.wrap (r + 1) = r + 1 := IntWalk.i64_in _ (by omega)
  have t2 : IntKind.i64.wrap (c + 1) = c + 1 := IntWalk.i64_in _ (by omega)
  have k1 := numS_size code (by omega) (by omega)
  have k2 := numS_size (r + 1) (by omega) (by omega)
  have k3 := numS_size (c + 1) (by omega) (by omega)
  have c1 := fun W (ht : Tab W) => itoa_s code W (by omega) (by omega) ht
  have c2 := fun W (ht : Tab W) => itoa_s (r + 1) W (by omega) (by omega) ht
  have c3 := fun W (ht : Tab W) => itoa_s (c + 1) W (by omega) (by omega) ht
  have hE : ∀ xs : List Int, strOfNums xs = (if k = 2 then longS code r c ⟨#[109]⟩ else longS code r c ⟨#[77]⟩) → strOfNums xs = outS true k code r c := fun xs h => by rw [h]; rfl
  have HL := Lib.hid (show ∀ z, longS code r c z = ((((((⟨#[27, 91, 60]⟩ : ByteArray) ++ numS code) ++ (⟨#[59]⟩ : ByteArray)) ++ numS (c + 1)) ++ (⟨#[59]⟩ : ByteArray)) ++ numS (r + 1)) ++ z from fun _ => rfl)
  generalize numS code = s1 at *
  generalize numS (r + 1) = s2 at *
  generalize numS (c + 1) = s3 at *
  have hB := bl_alloc (Below.refl _ w) (.cells #[.int .i64 k, .int .i64 b, .int .i64 r, .int .i64 c, .bool sh, .bool al, .bool ct] 24)
  have hkb : 0 ≤ k := by omega
  by_cases h2 : k = 2
  all_goals
    first | (subst h2) | (have h2' : (k == 2) = false := by simpa using h2)
    go_enter Tryd.func25, Tryd.ntmps25
    go_wp2_with fail
    first | refine wp_grow2 (by kernel_rfl) (by kernel_rfl) ?_ | refine wp_grow (by kernel_rfl) (by kernel_rfl) ?_
    repeat (go_big_quiet_step (fail))
    refine wpQuiet_nil ?_
    rintro _ ⟨X, rfl⟩
    go_wp2_with (first | (go_at_call 26; (with_reducible refine (c1 _ (ht.below (bl_trans hB (GW.grow _)))).mono ?_); rintro e w1 ⟨rfl, hb⟩; have hl1 := bl_trans (bl_trans hB X.grow) hb) | (go_at_call 26; (with_reducible refine (c3 _ (ht.below hl1)).mono ?_); rintro e w2 ⟨rfl, hb2⟩; have hl2 := bl_trans hl1 hb2) | (go_at_call 26; (with_reducible refine (c2 _ (ht.below hl2)).mono ?_); rintro e w3 ⟨rfl, hb3⟩; have hl3 := bl_trans hl2 hb3) | (refine wpList_bytes rfl _ 9 45 5 rfl Tryd.underlying9 Tryd.underlying45 Tryd.underlying5 _ rfl (by simp only [ByteArray.size_append, maxLen, sz3, sz1]; omega) ?_; intro v w4 hrd hfr hb4))
    go_ret
    exact ⟨_, _, rfl, hrd, hE _ (by rw [strOf_bytesOf]; first | rw [if_pos rfl, HL.out] | rw [if_pos trivial, HL.out] | rw [if_neg (by assumption), HL.out]), bl_trans hl3 hb4⟩

theorem or3 (code : Int) (h : 0 ≤ code ∧ code ≤ 199) : bits .or .i64 code 3 = code - code % 4 + 3 := by
  have key : ∀ n : Fin 200, bits .or .i64 (n.val : Int) 3 = (n.val : Int) - (n.val : Int) % 4 + 3 := by decide +kernel
  have := key ⟨code.toNat, by omega⟩
  simpa [Int.toNat_of_nonneg h.1] using this
set_option maxHeartbeats 4000000 in
set_option maxRecDepth 100000 in
theorem bytes_short (D o : Nat) (p : Pt) (k b r c : Int) (sh al ct : Bool) (code : Int) (w : World) (h : PtB w D o p) (hx : p.exact = false) (hv : validE k b r c = true) (hcode : 0 ≤ code ∧ code ≤ 199) : Calls Tryd.prog 25 #[.pointer (some ⟨D, o, none⟩), .agg #[.int .i64 k, .int .i64 b, .int .i64 r, .int .i64 c, .bool sh, .bool al, .bool ct], .int .i64 code] w (BytesE false k code r c w) := by
  obtain ⟨q0, q1, q2, q3, q4, q5⟩ := h.cells
  have hl := h.lt
  rw [hx] at q1
  unfold validE at hv
  have hv := of_decide_eq_true hv
  have t1 : IntKind.i64.wrap (r + 1) = r + 1 := IntWalk.i64_in _ (by omega)
  have t2 : IntKind.i64.wrap (c + 1) = c + 1 := IntWalk.i64_in _ (by omega)
  have hE : ∀ xs : List Int, strOfNums xs = (if 223 ≤ r ∨ 223 ≤ c then ⟨#[]⟩ else strOfNums [27, 91, 77, (if k = 2 then code - code % 4 + 3 else code) + 32, c + 33, r + 33]) → strOfNums xs = outS false k code r c := fun xs h => by rw [h]; rfl
  have hB := bl_alloc (Below.refl _ w) (.cells #[.int .i64 k, .int .i64 b, .int .i64 r, .int .i64 c, .bool sh, .bool al, .bool ct] 24)
  by_cases hbig : 223 ≤ r ∨ 223 ≤ c
  · have hE' : strOfNums ([] : List Int) = outS false k code r c := hE [] (by rw [if_pos hbig]; rfl)
    clear hE
    by_cases hr : 223 ≤ r
    · have hr' : 223 < r + 1 := by omega
      go_enter Tryd.func25, Tryd.ntmps25
      go_wp2_with fail
      first | refine wp_grow2 (by kernel_rfl) (by kernel_rfl) ?_ | refine wp_grow (by kernel_rfl) (by kernel_rfl) ?_
      repeat (go_big_quiet_step (fail))
      refine wpQuiet_nil ?_
      rintro _ ⟨X, rfl⟩
      go_wp2_with fail
      go_ret
      exact ⟨_, [], rfl, Rd.nil _ _, hE', (by repeat (first | with_reducible exact Below.refl _ _ | with_reducible assumption | with_reducible exact GW.grow _ | with_reducible refine bl_alloc ?_ _ | with_reducible refine Below.drew ?_ | (with_reducible refine Below.setCell ?_ ?_ _; rotate_left; focus (simp; first | done | omega)) | with_reducible refine bl_trans ?_ (GW.grow _) | (with_reducible refine bl_trans ?_ (by assumption))))⟩
    · have hr' : ¬ 223 < r + 1 := by omega
      have hc' : 223 < c + 1 := by omega
      go_enter Tryd.func25, Tryd.ntmps25
      go_wp2_with fail
      first | refine wp_grow2 (by kernel_rfl) (by kernel_rfl) ?_ | refine wp_grow (by kernel_rfl) (by kernel_rfl) ?_
      repeat (go_big_quiet_step (fail))
      refine wpQuiet_nil ?_
      rintro _ ⟨X, rfl⟩
      go_wp2_with fail
      go_ret
      exact ⟨_, [], rfl, Rd.nil _ _, hE', (by repeat (first | with_reducible exact Below.refl _ _ | with_reducible assumption | with_reducible exact GW.grow _ | with_reducible refine bl_alloc ?_ _ | with_reducible refine Below.drew ?_ | (with_reducible refine Below.setCell ?_ ?_ _; rotate_left; focus (simp; first | done | omega)) | with_reducible refine bl_trans ?_ (GW.grow _) | (with_reducible refine bl_trans ?_ (by assumption))))⟩
  · have hE' := fun xs (h : strOfNums xs = _) => hE xs (by rw [if_neg hbig]; exact h)
    clear hE
    have hr' : ¬ 223 < r + 1 := by omega
    have hc' : ¬ 223 < c + 1 := by omega
    have t3 : IntKind.i64.wrap (c + 1 + 32) = c + 33 := by rw [IntWalk.i64_in _ (by omega)]; omega
    have t4 : IntKind.i64.wrap (r + 1 + 32) = r + 33 := by rw [IntWalk.i64_in _ (by omega)]; omega
    have u3 : IntKind.u8.wrap (c + 33) = c + 33 := by simp [IntKind.wrap, IntKind.signed, IntKind.bits]; omega
    have u4 : IntKind.u8.wrap (r + 33) = r + 33 := by simp [IntKind.wrap, IntKind.signed, IntKind.bits]; omega
    by_cases h2 : k = 2
    · subst h2
      have o1 := or3 code hcode
      obtain ⟨d, hd⟩ : ∃ d, code - code % 4 + 3 = d := ⟨_, rfl⟩
      have hd0 : 0 ≤ d ∧ d ≤ 202 := by omega
      rw [if_pos rfl, hd] at hE'
      rw [hd] at o1
      clear hd
      have t5 : IntKind.i64.wrap (d + 32) = d + 32 := IntWalk.i64_in _ (by omega)
      have u5 : IntKind.u8.wrap (d + 32) = d + 32 := by simp [IntKind.wrap, IntKind.signed, IntKind.bits]; omega
      go_enter Tryd.func25, Tryd.ntmps25
      go_wp2_with fail
      first | refine wp_grow2 (by kernel_rfl) (by kernel_rfl) ?_ | refine wp_grow (by kernel_rfl) (by kernel_rfl) ?_
      repeat (go_big_quiet_step (fail))
      refine wpQuiet_nil ?_
      rintro _ ⟨X, rfl⟩
      go_wp2_with fail
      go_ret
      exact ⟨_, [27, 91, 77, d + 32, c + 33, r + 33], rfl, Rd.new _ _ _ [27, 91, 77, d + 32, c + 33, r + 33] _ _ rfl rfl (by simp [maxLen]), hE' _ rfl, (by repeat (first | with_reducible exact Below.refl _ _ | with_reducible assumption | with_reducible exact GW.grow _ | with_reducible refine bl_alloc ?_ _ | with_reducible refine Below.drew ?_ | (with_reducible refine Below.setCell ?_ ?_ _; rotate_left; focus (simp; first | done | omega)) | with_reducible refine bl_trans ?_ (GW.grow _) | (with_reducible refine bl_trans ?_ (by assumption))))⟩
    · have h2' : (k == 2) = false := by simpa using h2
      rw [if_neg h2] at hE'
      have t5 : IntKind.i64.wrap (code + 32) = code + 32 := IntWalk.i64_in _ (by omega)
      have u5 : IntKind.u8.wrap (code + 32) = code + 32 := by simp [IntKind.wrap, IntKind.signed, IntKind.bits]; omega
      go_enter Tryd.func25, Tryd.ntmps25
      go_wp2_with fail
      first | refine wp_grow2 (by kernel_rfl) (by kernel_rfl) ?_ | refine wp_grow (by kernel_rfl) (by kernel_rfl) ?_
      repeat (go_big_quiet_step (fail))
      refine wpQuiet_nil ?_
      rintro _ ⟨X, rfl⟩
      go_wp2_with fail
      go_ret
      exact ⟨_, [27, 91, 77, code + 32, c + 33, r + 33], rfl, Rd.new _ _ _ [27, 91, 77, code + 32, c + 33, r + 33] _ _ rfl rfl (by simp [maxLen]), hE' _ rfl, (by repeat (first | with_reducible exact Below.refl _ _ | with_reducible assumption | with_reducible exact GW.grow _ | with_reducible refine bl_alloc ?_ _ | with_reducible refine Below.drew ?_ | (with_reducible refine Below.setCell ?_ ?_ _; rotate_left; focus (simp; first | done | omega)) | with_reducible refine bl_trans ?_ (GW.grow _) | (with_reducible refine bl_trans ?_ (by assumption))))⟩
theorem bytes_any (D o : Nat) (p : Pt) (k b r c : Int) (sh al ct : Bool) (code : Int) (w : World) (h : PtB w D o p) (ht : Tab w) (hv : validE k b r c = true) (hcode : 0 ≤ code ∧ code ≤ 199) : Calls Tryd.prog 25 #[.pointer (some ⟨D, o, none⟩), .agg #[.int .i64 k, .int .i64 b, .int .i64 r, .int .i64 c, .bool sh, .bool al, .bool ct], .int .i64 code] w (BytesE p.exact k code r c w) := by
  cases hx : p.exact
  · exact bytes_short D o p k b r c sh al ct code w h hx hv hcode
  · exact bytes_long D o p k b r c sh al ct code w h ht hx hv hcode

end Go.Proofs.YtfhigmogcpocpaaDoor
