/- keys: the name of a key. -/
import Derived.Test.YtofjdjjbgnfngaaDoorD
import Derived.Test.YtofjdjjbgnfngaaDoorLate3
import Derived.Outline
set_option linter.unusedSimpArgs false
set_option linter.unusedVariables false
set_option linter.unnecessarySimpa false
namespace Go.Proofs.YtofjdjjbgnfngaaDoor
open Go.RowKit

def preP (ct al sh : Bool) : Nat → ByteArray
  | 0 => ⟨#[]⟩
  | 1 => if ct then (⟨#[]⟩ : ByteArray) ++ (⟨#[67, 45]⟩ : ByteArray) else ⟨#[]⟩
  | 2 => if al then (if ct then (⟨#[]⟩ : ByteArray) ++ (⟨#[67, 45]⟩ : ByteArray) else ⟨#[]⟩) ++ (⟨#[65, 45]⟩ : ByteArray) else (if ct then (⟨#[]⟩ : ByteArray) ++ (⟨#[67, 45]⟩ : ByteArray) else ⟨#[]⟩)
  | _ => if sh then (if al then (if ct then (⟨#[]⟩ : ByteArray) ++ (⟨#[67, 45]⟩ : ByteArray) else ⟨#[]⟩) ++ (⟨#[65, 45]⟩ : ByteArray) else (if ct then (⟨#[]⟩ : ByteArray) ++ (⟨#[67, 45]⟩ : ByteArray) else ⟨#[]⟩)) ++ (⟨#[83, 45]⟩ : ByteArray) else (if al then (if ct then (⟨#[]⟩ : ByteArray) ++ (⟨#[67, 45]⟩ : ByteArray) else ⟨#[]⟩) ++ (⟨#[65, 45]⟩ : ByteArray) else (if ct then (⟨#[]⟩ : ByteArray) ++ (⟨#[67, 45]⟩ : ByteArray) else ⟨#[]⟩))
def flagP (ct al sh : Bool) (j : Nat) : Bool := if j = 0 then ct else if j = 1 then al else sh
def markP (j : Nat) : ByteArray := if j = 0 then ⟨#[67, 45]⟩ else if j = 1 then ⟨#[65, 45]⟩ else ⟨#[83, 45]⟩
theorem preP_next (ct al sh : Bool) (j : Nat) (h : j < 3) : preP ct al sh (j + 1) = if flagP ct al sh j then preP ct al sh j ++ markP j else preP ct al sh j := by
  match j, h with
  | 0, _ => rfl
  | 1, _ => rfl
  | 2, _ => rfl
theorem preP_size (ct al sh : Bool) (j : Nat) : (preP ct al sh j).size ≤ 6 := by
  have h0 : ∀ ct al sh : Bool, (preP ct al sh 0).size ≤ 6 := by decide +kernel
  have h1 : ∀ ct al sh : Bool, (preP ct al sh 1).size ≤ 6 := by decide +kernel
  have h2 : ∀ ct al sh : Bool, (preP ct al sh 2).size ≤ 6 := by decide +kernel
  have h3 : ∀ ct al sh : Bool, (preP ct al sh 3).size ≤ 6 := by decide +kernel
  match j with
  | 0 => exact h0 ct al sh
  | 1 => exact h1 ct al sh
  | 2 => exact h2 ct al sh
  | n + 3 => exact h3 ct al sh
def baseS (code rune : Int) : ByteArray := if code = 1 then (if rune = 32 then ⟨#[83, 112, 97, 99, 101]⟩ else Utf8.encode rune) else nameL.getD (code - 2).toNat ⟨#[]⟩
def nameS (code rune : Int) (sh al ct : Bool) : ByteArray := preP ct al sh 3 ++ baseS code rune
theorem nameL_get (code : Int) (h : 2 ≤ code ∧ code ≤ 27) : ∃ s, nameL[(code - 2).toNat]? = some s ∧ nameL.getD (code - 2).toNat ⟨#[]⟩ = s ∧ s.size ≤ 10 := by
  have key : ∀ i : Fin 26, (nameL.getD i.val ⟨#[]⟩).size ≤ 10 := by decide +kernel
  have hi : (code - 2).toNat < nameL.length := by rw [nameL_len]; omega
  refine ⟨nameL[(code - 2).toNat], List.getElem?_eq_getElem hi, by simp [List.getD, hi], ?_⟩
  have := key ⟨(code - 2).toNat, by rw [nameL_len] at hi; exact hi⟩
  simpa [List.getD, hi] using this
theorem name_bad (code rune : Int) (sh al ct : Bool) (w : World) (hv : validK code rune = false) : Calls Tryd.prog 17 #[.agg #[.int .i64 code, .int .i32 rune, .bool sh, .bool al, .bool ct]] w fun e w' => e = .returned (.tuple #[.string ⟨#[]⟩, .int .i64 2]) ∧ Below w.heap.size w w' := by
  have cV := fun W => valid_any code rune sh al ct W
  rw [hv] at cV
  go_enter Tryd.func17, Tryd.ntmps17
  go_wp2_with (first | (go_at_call 8; (with_reducible refine (cV _).mono ?_); rintro e w1 ⟨rfl, hb⟩; (first | obtain ⟨X, rfl⟩ := GW.of2 hb | obtain ⟨X, rfl⟩ := GW.of hb); clear hb))
  go_ret2
  exact ⟨rfl, (by repeat (first | with_reducible exact Below.refl _ _ | with_reducible assumption | with_reducible exact GW.grow _ | with_reducible refine bl_alloc ?_ _ | with_reducible refine Below.drew ?_ | (with_reducible refine Below.setCell ?_ ?_ _; rotate_left; focus (simp; first | done | omega)) | with_reducible refine bl_trans ?_ (GW.grow _) | (with_reducible refine bl_trans ?_ (by assumption))))⟩
set_option maxHeartbeats 8000000 in
set_option maxRecDepth 100000 in
theorem name_ok (code rune : Int) (sh al ct : Bool) (w : World) (ht : Tab w) (hr : -2147483648 ≤ rune ∧ rune ≤ 2147483647) (hv : validK code rune = true) : Calls Tryd.prog 17 #[.agg #[.int .i64 code, .int .i32 rune, .bool sh, .bool al, .bool ct]] w fun e w' => e = .returned (.tuple #[.string (nameS code rune sh al ct), .int .i64 0]) ∧ Below w.heap.size w w' := by
  have cV := fun W => valid_any code rune sh al ct W
  rw [hv] at cV
  have hB0 := bl_alloc (Below.refl _ w) (.cells #[.int .i64 code, .int .i32 rune, .bool sh, .bool al, .bool ct] 24)
  go_enter Tryd.func17, Tryd.ntmps17
  go_wp2_with (first | (go_at_call 8; (with_reducible refine (cV _).mono ?_); rintro e w1 ⟨rfl, hb⟩; (first | obtain ⟨X, rfl⟩ := GW.of2 hb | obtain ⟨X, rfl⟩ := GW.of hb); clear hb))
  have hb0 : Below w.heap.size w (X.world.alloc (.cells #[.bool ct, .bool al, .bool sh] 4)) := bl_alloc (bl_trans hB0 X.grow) _
  have xk0 : Box (X.world.alloc (.cells #[.bool ct, .bool al, .bool sh] 4)) w.heap.size #[.int .i64 code, .int .i32 rune, .bool sh, .bool al, .bool ct] 24 := Box.alloc (Box.gw (Box.new w _ _ rfl)) _
  have xf0 : Box (X.world.alloc (.cells #[.bool ct, .bool al, .bool sh] 4)) X.world.heap.size #[.bool ct, .bool al, .bool sh] 4 := Box.new _ _ _ rfl
  generalize X.world.alloc (.cells #[.bool ct, .bool al, .bool sh] 4) = W0 at *
  obtain ⟨bf, hbf⟩ : ∃ bf, X.world.heap.size = bf := ⟨_, rfl⟩
  rw [hbf] at xf0 ⊢
  clear hbf X hB0
  go_loopw [4, 18] (fun sv iv wr => ∃ j : Nat, j ≤ 3 ∧ iv = .int .i64 j ∧ sv = .string (preP ct al sh j) ∧ Below W0.heap.size W0 wr) (fun _ iv _ => 3 - (intOf iv).toNat)
  case atStart => exact ⟨0, by omega, rfl, rfl, Below.refl _ _⟩
  case round =>
    obtain ⟨j, hj, rfl, rfl, hbel⟩ := hrel
    have xk : Box wr w.heap.size _ _ := (hbel.block _ xk0.lt).trans xk0
    have xf : Box wr bf _ _ := (hbel.block _ xf0.lt).trans xf0
    have hbw := bl_trans hb0 hbel
    by_cases hlt : j < 3
    · have hfl : wr.cell? ⟨bf, j, none⟩ = some (.bool (flagP ct al sh j)) := by
        rw [xf.cell]
        match j, hlt with
        | 0, _ => rfl
        | 1, _ => rfl
        | 2, _ => rfl
      have lf := xf.lt
      have HN := Lib.hid (preP_next ct al sh j hlt)
      have hps := preP_size ct al sh j
      have hmk : (markP j).size = 2 := by match j, hlt with
        | 0, _ => rfl
        | 1, _ => rfl
        | 2, _ => rfl
      have hsl : ∀ (W : World), (W.alloc (.cells #[.string ⟨#[67, 45]⟩, .string ⟨#[65, 45]⟩, .string ⟨#[83, 45]⟩] 9)).cell? ⟨W.heap.size, j, none⟩ = some (.string (markP j)) := fun W => by
        rw [(Box.new W _ _ rfl).cell]
        match j, hlt with
        | 0, _ => rfl
        | 1, _ => rfl
        | 2, _ => rfl
      generalize flagP ct al sh j = qf at *
      generalize preP ct al sh j = pj at *
      generalize markP j = mj at *
      have r1 : (0 : Int) ≤ (j : Int) := by omega
      have r2 : (j : Int) < 3 := by omega
      cases qf
      · go_wp2_with fail
        go_roundw
        case rel => exact ⟨j + 1, by omega, by go_num, by rw [HN.out]; rfl, hbel⟩
        case measure => simp [intOf]; omega
      · have hsz : ¬ 9223372036854775807 < pj.size + mj.size := by omega
        go_wp2_with fail
        go_roundw
        case rel => exact ⟨j + 1, by omega, by go_num, by rw [HN.out]; rfl, bl_alloc hbel _⟩
        case measure => simp [intOf]; omega
    · obtain rfl : j = 3 := by omega
      have ck := xk.cell
      have lk := xk.lt
      have hps := preP_size ct al sh 3
      have HS : Hid (nameS code rune sh al ct = preP ct al sh 3 ++ baseS code rune) := rfl
      generalize preP ct al sh 3 = pj at *
      clear xf xf0 hb0 xk0
      by_cases h1 : code = 1
      · subst h1
        by_cases h2 : rune = 32
        · subst h2
          have HE : Hid (nameS 1 32 sh al ct = pj ++ ⟨#[83, 112, 97, 99, 101]⟩) := HS.out
          clear HS
          go_wp2_with fail
          go_ret2
          exact ⟨by rw [HE.out]; rfl, hbw⟩
        · have hE : baseS 1 rune = Utf8.encode rune := by unfold baseS; rw [if_pos rfl, if_neg h2]
          have h2' : (rune == 32) = false := by simpa using h2
          have HE : Hid (nameS 1 rune sh al ct = pj ++ Utf8.encode rune) := by rw [← hE]; exact HS.out
          have hes := enc_size rune
          clear HS hE
          go_wp2_with fail
          go_ret2
          exact ⟨by rw [HE.out]; rfl, hbw⟩
      · have hc2 : 2 ≤ code ∧ code ≤ 27 := by unfold validK at hv; have := of_decide_eq_true hv; omega
        have h1' : (code != 1) = true := by simpa using h1
        obtain ⟨s, hs1, hs2, hs3⟩ := nameL_get code hc2
        have hE : baseS code rune = s := by unfold baseS; rw [if_neg h1]; exact hs2
        have HE : Hid (nameS code rune sh al ct = pj ++ s) := by rw [← hE]; exact HS.out
        clear HS hE hs2
        have t1 : IntKind.i64.wrap (code - 2) = code - 2 := IntWalk.i64_in _ (by omega)
        obtain ⟨c2, hc3⟩ : ∃ c2 : Nat, (code - 2).toNat = c2 := ⟨_, rfl⟩
        have hc4 : code - 2 = (c2 : Int) := by omega
        have r3 : c2 < 26 := by omega
        rw [hc3] at hs1
        rw [hc4] at t1
        go_wp2_with fail
        obtain ⟨W2, hW2, hB2, xk2⟩ : ∃ W2, wr.drew = W2 ∧ Below w.heap.size w W2 ∧ Box W2 w.heap.size #[.int .i64 code, .int .i32 rune, .bool sh, .bool al, .bool ct] 24 := ⟨_, rfl, hbw.drew, xk⟩
        refine wp_region_V Gr (by kernel_rfl) ?_
        rw [hW2]
        clear hW2 ck lk xk hbw hbel
        have ck := xk2.cell
        have lk := xk2.lt
        refine wpAnyV_takeG (A := ?A0) 0 rfl (by kernel_rfl) (by kernel_rfl) (by kernel_rfl) (fun _ _ _ _ h => h) ?q0 ?r0
        case q0 =>
          intro Y
          try simp only [List.getElem_toArray, List.getElem_cons_zero, List.getElem_cons_succ]
          go_big_quiet_step (fail)
          refine wpQuiet_nil ?_
          rfl
        refine wpAnyV_takeG (A := ?A2) 2 rfl (by kernel_rfl) (by kernel_rfl) (by kernel_rfl) (fun _ _ _ _ h => h) ?q2 ?r2
        case q2 =>
          intro Y
          try simp only [List.getElem_toArray, List.getElem_cons_zero, List.getElem_cons_succ]
          go_big_quiet_step (fail)
          refine wpQuiet_nil ?_
          rfl
        refine wpAnyV_takeG (A := ?A3) 3 rfl (by kernel_rfl) (by kernel_rfl) (by kernel_rfl) (fun _ _ _ _ h => h) ?q3 ?r3
        case q3 =>
          intro Y
          try simp only [List.getElem_toArray, List.getElem_cons_zero, List.getElem_cons_succ]
          go_big_quiet_step (fail)
          refine wpQuiet_nil ?_
          rfl
        refine wpAnyV_takeG (A := ?A4) 4 rfl (by kernel_rfl) (by kernel_rfl) (by kernel_rfl) (fun _ _ _ _ h => h) ?q4 ?r4
        case q4 =>
          intro Y
          try simp only [List.getElem_toArray, List.getElem_cons_zero, List.getElem_cons_succ]
          go_big_quiet_step (fail)
          refine wpQuiet_nil ?_
          rfl
        refine wpAnyV_one 1 (by kernel_rfl) ?_
        intro W hW
        obtain ⟨X, rfl⟩ := GW.of hW
        refine wpOp_step rfl (fun K hK => ?_)
        go_simp
        (with_reducible refine (names_any _ (ht.below (bl_trans hB2 X.grow))).mono ?_)
        rintro e w3 ⟨g, c, rfl, hg1, hg2, hg3, hg4, hb3⟩
        have hcell := hg4 c2 s hs1
        have hl3 : Below w.heap.size w w3 := bl_trans (bl_trans hB2 X.grow) hb3
        go_simp
        refine hK _ _ ⟨hb3, ?_⟩
        clear hK K hW hg4 hb3 X xk2 ck lk
        try simp only [Act.put, List.getElem_toArray, List.getElem_cons_zero, List.getElem_cons_succ, List.setIfInBounds_toArray, List.set_cons_zero, List.set_cons_succ]
        refine wpAnyV_takeG (A := ?A5) 5 rfl (by kernel_rfl) (by kernel_rfl) (by kernel_rfl) (fun _ _ _ _ h => h) ?q5 ?r5
        case q5 =>
          intro Y
          try simp only [List.getElem_toArray, List.getElem_cons_zero, List.getElem_cons_succ]
          go_big_quiet_step (fail)
          refine wpQuiet_nil ?_
          rfl
        refine wpAnyV_takeG (A := ?A6) 6 rfl (by kernel_rfl) (by kernel_rfl) (by kernel_rfl) (fun _ _ _ _ h => h) ?q6 ?r6
        case q6 =>
          intro Y
          try simp only [List.getElem_toArray, List.getElem_cons_zero, List.getElem_cons_succ]
          go_big_quiet_step (fail)
          refine wpQuiet_nil ?_
          rfl
        refine wpAnyV_takeG (A := ?A7) 7 rfl (by kernel_rfl) (by kernel_rfl) (by kernel_rfl) (fun _ _ _ _ h => h) ?q7 ?r7
        case q7 =>
          intro Y
          try simp only [List.getElem_toArray, List.getElem_cons_zero, List.getElem_cons_succ]
          go_big_quiet_step (fail)
          refine wpQuiet_nil ?_
          rfl
        refine wpAnyV_takeG (A := ?A8) 8 rfl (by kernel_rfl) (by kernel_rfl) (by kernel_rfl) (fun _ _ _ _ h => h) ?q8 ?r8
        case q8 =>
          intro Y
          try simp only [List.getElem_toArray, List.getElem_cons_zero, List.getElem_cons_succ]
          go_big_quiet_step (fail)
          refine wpQuiet_nil ?_
          rfl
        refine wpAnyV_takeG (A := ?A9) 9 rfl (by kernel_rfl) (by kernel_rfl) (by kernel_rfl) (fun _ _ _ _ h => h) ?q9 ?r9
        case q9 =>
          intro Y
          try simp only [List.getElem_toArray, List.getElem_cons_zero, List.getElem_cons_succ]
          go_big_quiet_step (fail)
          refine wpQuiet_nil ?_
          rfl
        refine wpAnyV_done (by kernel_rfl) ?_ _
        intro W hW
        go_wp2_with fail
        go_ret2
        exact ⟨by rw [HE.out]; rfl, bl_trans hl3 hW⟩

end Go.Proofs.YtofjdjjbgnfngaaDoor
