/- parser: the reference, a rune, where no string is open. Printed by mk_s.py. -/
import Derived.Test.YtpkkfcfkhiaggaaR
import Derived.Deep.CutBlock
import Derived.Deep.DeepCutAuto
import Derived.Outline
set_option linter.unusedSimpArgs false
set_option linter.unusedVariables false
set_option linter.unnecessarySimpa false
namespace Go.Proofs.Ytpkkfcfkhiaggaa
open Go.RowKit
open Go.Proofs.Ytpkkfcfkhiaggaa.Pm (fineR addB addO bldQ refL bldC BldV bldC_len)

theorem bl_trans4 {w w1 : World} {a b c d : Obj} (h : Below ((((w.alloc a).alloc b).alloc c).alloc d).heap.size ((((w.alloc a).alloc b).alloc c).alloc d) w1) : Below w.heap.size w w1 := bl_trans (bl_alloc (bl_alloc (bl_alloc (bl_alloc (Below.refl _ _) _) _) _) _) h
set_option maxHeartbeats 16000000 in
set_option maxRecDepth 100000 in
theorem rsop4_any (sq d : List Int) (q : Option Addr) (n c : Nat) (r : Int) (w : World) (hby : ∀ x ∈ sq, Byte x) (hsz : sq.length ≤ 100000) (hr : ¬ (128 ≤ r ∧ r < 160)) (h24 : ¬ r = 24) (h26 : ¬ r = 26) : Calls Try.prog 21 #[.agg #[.string ⟨#[115, 107, 105, 112]⟩, .string (strOfNums sq), .slice q n c], .int .i32 r] w (RSt q n c w (rsOne ⟨4, sq, d⟩ r)) := by
  have hs : (strOfNums sq).size = sq.length := strOf_size _
  have cV := fun W => validRef_any r W
  have cR : ¬ 128 ≤ r ∨ (128 ≤ r ∧ ¬ r < 160) := by omega
  unfold rsOne
  clear hr
  have b24 : (r == 24) = false := by rw [beq_eq_false_iff_ne]; exact h24
  have b26 : (r == 26) = false := by rw [beq_eq_false_iff_ne]; exact h26
  by_cases h27 : r = 27
  · subst h27
    rw [if_pos rfl]
    show Calls Try.prog 21 #[.agg #[.string ⟨#[115, 107, 105, 112]⟩, .string (strOfNums sq), .slice q n c], .int .i32 27] w (RSt q n c w (⟨1, [], d⟩, []))
    have cT : ∀ x W, Calls Try.prog 43 #[.agg #[.string ⟨#[115, 107, 105, 112]⟩, .string (strOfNums sq), .slice q n c], .string x] W fun e w' => e = .returned (.agg #[.string x, .string ⟨#[]⟩, .slice q n c]) ∧ Below W.heap.size W w' := fun x W => to_any ⟨#[115, 107, 105, 112]⟩ (strOfNums sq) x q n c W
    clear cR cV
    go_enter Try.func21, Try.ntmps21
    go_wp2_with (first | (go_at_call 43; (with_reducible refine (cT _ _).mono ?_); rintro e w1 ⟨rfl, hb1⟩; obtain ⟨X, rfl⟩ := GW.of hb1; clear hb1))
    refine ret_row_tmp (n := 3) rfl rfl Try.underlying35 rfl (by kernel_rfl) rfl ⟨_, by simp (maxDischargeDepth := 6) [go_sem] <;> rfl, rfl, ?_⟩
    exact ⟨.slice none 0 0, [], rfl, rfl, OwnX.nil _ _, (by repeat (first | with_reducible exact Below.refl _ _ | with_reducible assumption | with_reducible exact GW.grow _ | with_reducible refine bl_alloc ?_ _ | with_reducible refine Below.drew ?_ | (with_reducible refine Below.setCell ?_ ?_ _; rotate_left; focus (simp; first | done | omega)) | with_reducible refine bl_trans ?_ (GW.grow _) | (with_reducible refine bl_trans ?_ (by assumption))))⟩
  rw [if_neg h27]
  rw [if_neg (show ¬ (r = 24 ∨ r = 26) from fun k => k.elim h24 h26)]
  rw [if_neg (show ¬ ((4 : Nat) = 3 ∧ r = 7) from fun k => absurd k.1 (by decide)), if_neg (show ¬ ((4 : Nat) = 3) by decide)]
  rw [if_pos rfl]
  show Calls Try.prog 21 #[.agg #[.string ⟨#[115, 107, 105, 112]⟩, .string (strOfNums sq), .slice q n c], .int .i32 r] w (RSt q n c w (⟨4, sq, d⟩, []))
  clear cV
  by_cases e128 : 128 ≤ r
  · have e160 : 160 ≤ r := by omega
    have e16 : ¬ r < 160 := by omega
    clear cR
    go_enter Try.func21, Try.ntmps21
    go_wp2_with (fail)
    refine ret_row_tmp (n := 3) rfl rfl Try.underlying35 rfl (by kernel_rfl) rfl ⟨_, by simp (maxDischargeDepth := 6) [go_sem] <;> rfl, rfl, ?_⟩
    exact ⟨.slice none 0 0, [], rfl, rfl, OwnX.nil _ _, (by repeat (first | with_reducible exact Below.refl _ _ | with_reducible assumption | with_reducible exact GW.grow _ | with_reducible refine bl_alloc ?_ _ | with_reducible refine Below.drew ?_ | (with_reducible refine Below.setCell ?_ ?_ _; rotate_left; focus (simp; first | done | omega)) | with_reducible refine bl_trans ?_ (GW.grow _) | (with_reducible refine bl_trans ?_ (by assumption))))⟩
  · clear cR
    go_enter Try.func21, Try.ntmps21
    go_wp2_with (fail)
    refine ret_row_tmp (n := 3) rfl rfl Try.underlying35 rfl (by kernel_rfl) rfl ⟨_, by simp (maxDischargeDepth := 6) [go_sem] <;> rfl, rfl, ?_⟩
    exact ⟨.slice none 0 0, [], rfl, rfl, OwnX.nil _ _, (by repeat (first | with_reducible exact Below.refl _ _ | with_reducible assumption | with_reducible exact GW.grow _ | with_reducible refine bl_alloc ?_ _ | with_reducible refine Below.drew ?_ | (with_reducible refine Below.setCell ?_ ?_ _; rotate_left; focus (simp; first | done | omega)) | with_reducible refine bl_trans ?_ (GW.grow _) | (with_reducible refine bl_trans ?_ (by assumption))))⟩
set_option maxHeartbeats 16000000 in
set_option maxRecDepth 100000 in
theorem rsop0_any (sq d : List Int) (q : Option Addr) (n c : Nat) (r : Int) (w : World) (hby : ∀ x ∈ sq, Byte x) (hsz : sq.length ≤ 100000) (hr : ¬ (128 ≤ r ∧ r < 160)) (h24 : ¬ r = 24) (h26 : ¬ r = 26) : Calls Try.prog 21 #[.agg #[.string ⟨#[]⟩, .string (strOfNums sq), .slice q n c], .int .i32 r] w (RSt q n c w (rsOne ⟨0, sq, d⟩ r)) := by
  have hs : (strOfNums sq).size = sq.length := strOf_size _
  have cV := fun W => validRef_any r W
  have cR : ¬ 128 ≤ r ∨ (128 ≤ r ∧ ¬ r < 160) := by omega
  unfold rsOne
  clear hr
  have b24 : (r == 24) = false := by rw [beq_eq_false_iff_ne]; exact h24
  have b26 : (r == 26) = false := by rw [beq_eq_false_iff_ne]; exact h26
  by_cases h27 : r = 27
  · subst h27
    rw [if_pos rfl]
    show Calls Try.prog 21 #[.agg #[.string ⟨#[]⟩, .string (strOfNums sq), .slice q n c], .int .i32 27] w (RSt q n c w (⟨1, [], d⟩, []))
    have cT : ∀ x W, Calls Try.prog 43 #[.agg #[.string ⟨#[]⟩, .string (strOfNums sq), .slice q n c], .string x] W fun e w' => e = .returned (.agg #[.string x, .string ⟨#[]⟩, .slice q n c]) ∧ Below W.heap.size W w' := fun x W => to_any ⟨#[]⟩ (strOfNums sq) x q n c W
    clear cR cV
    go_enter Try.func21, Try.ntmps21
    go_wp2_with (first | (go_at_call 43; (with_reducible refine (cT _ _).mono ?_); rintro e w1 ⟨rfl, hb1⟩; obtain ⟨X, rfl⟩ := GW.of hb1; clear hb1))
    refine ret_row_tmp (n := 3) rfl rfl Try.underlying35 rfl (by kernel_rfl) rfl ⟨_, by simp (maxDischargeDepth := 6) [go_sem] <;> rfl, rfl, ?_⟩
    exact ⟨.slice none 0 0, [], rfl, rfl, OwnX.nil _ _, (by repeat (first | with_reducible exact Below.refl _ _ | with_reducible assumption | with_reducible exact GW.grow _ | with_reducible refine bl_alloc ?_ _ | with_reducible refine Below.drew ?_ | (with_reducible refine Below.setCell ?_ ?_ _; rotate_left; focus (simp; first | done | omega)) | with_reducible refine bl_trans ?_ (GW.grow _) | (with_reducible refine bl_trans ?_ (by assumption))))⟩
  rw [if_neg h27]
  rw [if_neg (show ¬ (r = 24 ∨ r = 26) from fun k => k.elim h24 h26)]
  rw [if_neg (show ¬ ((0 : Nat) = 3 ∧ r = 7) from fun k => absurd k.1 (by decide)), if_neg (show ¬ ((0 : Nat) = 3) by decide)]
  rw [if_neg (show ¬ ((0 : Nat) = 4) by decide)]
  by_cases h32 : 0 ≤ r ∧ r < 32
  · rw [if_pos h32]
    obtain ⟨hr0, hr32⟩ := h32
    show Calls Try.prog 21 #[.agg #[.string ⟨#[]⟩, .string (strOfNums sq), .slice q n c], .int .i32 r] w (RSt q n c w (⟨0, sq, d⟩, [exA r]))
    have cO : ∀ W, Calls Try.prog 44 #[.agg #[.int .i64 2, .int .i32 r, .int .i32 0, .string ⟨#[]⟩, .slice none 0 0, .string ⟨#[]⟩]] W fun e w' => ∃ v, e = .returned v ∧ OwnX w' W.heap.size v [(exA r, .slice none 0 0)] ∧ Below W.heap.size W w' := fun W => rone_any (exA r) none 0 0 W.heap.size W (Own.nil _ _ _ _) (Nat.le_refl _) ⟨by simp [exA], by simp [exA]⟩
    go_enter Try.func21, Try.ntmps21
    go_upto_region 22 with fail
    refine wp_name (fun Z => Below w.heap.size w Z ∧ Box Z w.heap.size #[.string ⟨#[]⟩, .string (strOfNums sq), .slice q n c] 35 ∧ Box Z (w.heap.size + 1) #[.string ⟨#[]⟩, .string ⟨#[]⟩, .slice none 0 0] 35 ∧ Box Z (w.heap.size + 2) #[.int .i64 5, .int .i32 0, .int .i32 0, .string ⟨#[]⟩, .slice none 0 0, .string (strOfNums sq)] 52 ∧ Box Z (w.heap.size + 3) #[.int .i64 2, .int .i32 r, .int .i32 0, .string ⟨#[]⟩, .slice none 0 0, .string ⟨#[]⟩] 52) ⟨(by repeat (first | with_reducible exact Below.refl _ _ | with_reducible assumption | with_reducible exact GW.grow _ | with_reducible refine bl_alloc ?_ _ | with_reducible refine Below.drew ?_ | (with_reducible refine Below.setCell ?_ ?_ _; rotate_left; focus (simp; first | done | omega)) | with_reducible refine bl_trans ?_ (GW.grow _) | (with_reducible refine bl_trans ?_ (by assumption)))), (by first | with_reducible assumption | (apply Box.as; (focus (repeat (first | with_reducible assumption | (with_reducible apply Box.new; simp; done) | with_reducible apply Box.gw | with_reducible apply Box.drew | with_reducible apply Box.alloc | with_reducible apply Box.set | (with_reducible apply Box.set_other; case hg => omega)))); rfl)), (by first | with_reducible assumption | (apply Box.as; (focus (repeat (first | with_reducible assumption | (with_reducible apply Box.new; simp; done) | with_reducible apply Box.gw | with_reducible apply Box.drew | with_reducible apply Box.alloc | with_reducible apply Box.set | (with_reducible apply Box.set_other; case hg => omega)))); rfl)), (by first | with_reducible assumption | (apply Box.as; (focus (repeat (first | with_reducible assumption | (with_reducible apply Box.new; simp; done) | with_reducible apply Box.gw | with_reducible apply Box.drew | with_reducible apply Box.alloc | with_reducible apply Box.set | (with_reducible apply Box.set_other; case hg => omega)))); rfl)), (by first | with_reducible assumption | (apply Box.as; (focus (repeat (first | with_reducible assumption | (with_reducible apply Box.new; simp; done) | with_reducible apply Box.gw | with_reducible apply Box.drew | with_reducible apply Box.alloc | with_reducible apply Box.set | (with_reducible apply Box.set_other; case hg => omega)))); rfl))⟩ ?_
    rintro W0 ⟨hW0, xA, xR, xG, xH⟩
    refine wp_region_V (fun u1 u2 => Bar (w.heap.size + 1) u1 u2) (by kernel_rfl) ?_
    have hTr : ∀ u1 u2 u3 : World, Bar (w.heap.size + 1) u1 u2 → Bar (w.heap.size + 1) u2 u3 → Bar (w.heap.size + 1) u1 u3 := fun _ _ _ h1 h2 => Bar.trans h1 h2
    have hGr : ∀ u1 u2 : World, Gr u1 u2 → Bar (w.heap.size + 1) u1 u2 := fun _ _ h1 => Below.bar _ h1
    have hcur : Bar (w.heap.size + 1) W0 W0.drew := Bar.drew (Bar.refl _ _)
    have hgw : Below w.heap.size w W0.drew := hW0.drew
    have xR6 : Box W0.drew (w.heap.size + 1) #[.string ⟨#[]⟩, .string ⟨#[]⟩, .slice none 0 0] 35 := xR
    generalize W0.drew = W6 at *
    refine wpAnyV_takeS hTr hGr (A := ?A0l0) 0 rfl (by kernel_rfl) (by kernel_rfl) (by kernel_rfl) (fun _ _ _ _ h => h) ?q0l0 ?r0l0
    case q0l0 =>
      intro W hW
      have hWW := hcur.trans hW; have xa := xA.bar hWW (by omega); have xc := xa.cell; have xl := xa.lt; have xg := xG.bar hWW (by omega); have gc := xg.cell; have gl := xg.lt; have xh := xH.bar hWW (by omega); have hc := xh.cell; have hl := xh.lt
      try simp only [List.getElem_toArray, List.getElem_cons_zero, List.getElem_cons_succ]
      go_big_quiet_step (fail)
      refine wpQuiet_nil ?_
      rfl
    refine wpAnyV_takeS hTr hGr (A := ?A1l0) 1 rfl (by kernel_rfl) (by kernel_rfl) (by kernel_rfl) (fun _ _ _ _ h => h) ?q1l0 ?r1l0
    case q1l0 =>
      intro W hW
      have hWW := hcur.trans hW; have xa := xA.bar hWW (by omega); have xc := xa.cell; have xl := xa.lt; have xg := xG.bar hWW (by omega); have gc := xg.cell; have gl := xg.lt; have xh := xH.bar hWW (by omega); have hc := xh.cell; have hl := xh.lt
      try simp only [List.getElem_toArray, List.getElem_cons_zero, List.getElem_cons_succ]
      go_big_quiet_step (fail)
      refine wpQuiet_nil ?_
      rfl
    refine wpAnyV_one 2 (by kernel_rfl) ?_
    intro W hW
    replace hgw := bl_trans hgw hW
    have xR7 := Box.past hW xR6
    have hRW := xR7.lt
    refine wpOp_step rfl (fun K hK => ?_)
    go_simp
    (with_reducible refine (cO W).mono ?_)
    rintro e wn ⟨v1, rfl, ho1, hbn⟩
    go_simp
    refine hK _ _ ⟨Below.bar _ hbn, ?_⟩
    clear hK K
    try simp only [Act.put, List.getElem_toArray, List.getElem_cons_zero, List.getElem_cons_succ, List.setIfInBounds_toArray, List.set_cons_zero, List.set_cons_succ]
    replace hgw := bl_trans hgw hbn
    have xR8 := Box.past hbn xR7
    refine wpAnyV_one 3 (by kernel_rfl) ?_
    intro W2 hW2
    replace hgw := bl_trans hgw hW2
    have xR9 := Box.past hW2 xR8
    have hc9 := xR9.cell
    have hf9 := xR9.free
    have hl9 := xR9.lt
    refine wpOp_step rfl (fun K hK => ?_)
    go_simp
    refine hK _ _ ⟨Bar3 _ _ _ _ _, ?_⟩
    clear hK K
    try simp only [Act.put, List.getElem_toArray, List.getElem_cons_zero, List.getElem_cons_succ, List.setIfInBounds_toArray, List.set_cons_zero, List.set_cons_succ]
    have yE := set3 xR9 (.string ⟨#[]⟩) (.string (strOfNums sq)) (.slice q n c)
    have yB := Bar3 (w.heap.size + 1) W2 (.string ⟨#[]⟩) (.string (strOfNums sq)) (.slice q n c)
    have ho2 := ((ho1.kept hW2).bar yB hRW).weaken (Nat.le_trans (by omega) (Nat.le_of_lt hRW) : w.heap.size ≤ W.heap.size)
    have hgE := Bar.to_below hgw yB (by omega)
    refine wpAnyV_takeS hTr hGr (A := ?A4l0) 4 rfl (by kernel_rfl) (by kernel_rfl) (by kernel_rfl) (fun _ _ _ _ h => h) ?q4l0 ?r4l0
    case q4l0 =>
      intro W hW
      try simp only [List.getElem_toArray, List.getElem_cons_zero, List.getElem_cons_succ]
      go_big_quiet_step (fail)
      refine wpQuiet_nil ?_
      rfl
    refine wpAnyV_done (by kernel_rfl) ?_ _
    intro W3 hW3
    have yE3 := Box.past hW3 yE
    have yEl := yE3.lt
    have ho3 := ho2.kept hW3
    go_wp2_with fail
    refine ret_row_tmp (n := 3) rfl rfl Try.underlying35 rfl (by kernel_rfl) rfl ⟨_, by simp (maxDischargeDepth := 6) [go_sem, Box.row yE3, yEl] <;> rfl, rfl, ?_⟩
    exact ⟨v1, [(exA r, .slice none 0 0)], rfl, rfl, ho3, bl_trans hgE hW3⟩
  rw [if_neg h32]
  by_cases h127 : r = 127
  · subst h127
    rw [if_pos rfl]
    show Calls Try.prog 21 #[.agg #[.string ⟨#[]⟩, .string (strOfNums sq), .slice q n c], .int .i32 127] w (RSt q n c w (⟨0, sq, d⟩, []))
    go_enter Try.func21, Try.ntmps21
    go_wp2_with (fail)
    refine ret_row_tmp (n := 3) rfl rfl Try.underlying35 rfl (by kernel_rfl) rfl ⟨_, by simp (maxDischargeDepth := 6) [go_sem] <;> rfl, rfl, ?_⟩
    exact ⟨.slice none 0 0, [], rfl, rfl, OwnX.nil _ _, (by repeat (first | with_reducible exact Below.refl _ _ | with_reducible assumption | with_reducible exact GW.grow _ | with_reducible refine bl_alloc ?_ _ | with_reducible refine Below.drew ?_ | (with_reducible refine Below.setCell ?_ ?_ _; rotate_left; focus (simp; first | done | omega)) | with_reducible refine bl_trans ?_ (GW.grow _) | (with_reducible refine bl_trans ?_ (by assumption))))⟩
  rw [if_neg h127]
  have b127 : (r == 127) = false := by rw [beq_eq_false_iff_ne]; exact h127
  have h32b : ¬ 0 ≤ r ∨ ¬ r < 32 := by omega
  clear h32
  rw [if_neg (show ¬ ((0 : Nat) = 1) by decide), if_neg (show ¬ ((0 : Nat) = 2) by decide)]
  cases hv : validR r
  · rw [if_pos rfl]
    rw [hv] at cV
    show Calls Try.prog 21 #[.agg #[.string ⟨#[]⟩, .string (strOfNums sq), .slice q n c], .int .i32 r] w (RSt q n c w (⟨0, sq, d⟩, []))
    by_cases e0 : r < 0
    · have e00 : ¬ 0 ≤ r := by omega
      have e128 : ¬ 128 ≤ r := by omega
      clear h32b cR
      go_enter Try.func21, Try.ntmps21
      go_wp2_with (first | (go_at_call 45; (with_reducible refine (cV _).mono ?_); rintro e w1 ⟨rfl, rfl⟩))
      refine ret_row_tmp (n := 3) rfl rfl Try.underlying35 rfl (by kernel_rfl) rfl ⟨_, by simp (maxDischargeDepth := 6) [go_sem] <;> rfl, rfl, ?_⟩
      exact ⟨.slice none 0 0, [], rfl, rfl, OwnX.nil _ _, (by repeat (first | with_reducible exact Below.refl _ _ | with_reducible assumption | with_reducible exact GW.grow _ | with_reducible refine bl_alloc ?_ _ | with_reducible refine Below.drew ?_ | (with_reducible refine Below.setCell ?_ ?_ _; rotate_left; focus (simp; first | done | omega)) | with_reducible refine bl_trans ?_ (GW.grow _) | (with_reducible refine bl_trans ?_ (by assumption))))⟩
    have e32 : ¬ r < 32 := by omega
    have e00 : 0 ≤ r := by omega
    clear h32b e0
    by_cases e128 : 128 ≤ r
    · have e160 : 160 ≤ r := by omega
      have e16 : ¬ r < 160 := by omega
      clear cR
      go_enter Try.func21, Try.ntmps21
      go_wp2_with (first | (go_at_call 45; (with_reducible refine (cV _).mono ?_); rintro e w1 ⟨rfl, rfl⟩))
      refine ret_row_tmp (n := 3) rfl rfl Try.underlying35 rfl (by kernel_rfl) rfl ⟨_, by simp (maxDischargeDepth := 6) [go_sem] <;> rfl, rfl, ?_⟩
      exact ⟨.slice none 0 0, [], rfl, rfl, OwnX.nil _ _, (by repeat (first | with_reducible exact Below.refl _ _ | with_reducible assumption | with_reducible exact GW.grow _ | with_reducible refine bl_alloc ?_ _ | with_reducible refine Below.drew ?_ | (with_reducible refine Below.setCell ?_ ?_ _; rotate_left; focus (simp; first | done | omega)) | with_reducible refine bl_trans ?_ (GW.grow _) | (with_reducible refine bl_trans ?_ (by assumption))))⟩
    · clear cR
      go_enter Try.func21, Try.ntmps21
      go_wp2_with (first | (go_at_call 45; (with_reducible refine (cV _).mono ?_); rintro e w1 ⟨rfl, rfl⟩))
      refine ret_row_tmp (n := 3) rfl rfl Try.underlying35 rfl (by kernel_rfl) rfl ⟨_, by simp (maxDischargeDepth := 6) [go_sem] <;> rfl, rfl, ?_⟩
      exact ⟨.slice none 0 0, [], rfl, rfl, OwnX.nil _ _, (by repeat (first | with_reducible exact Below.refl _ _ | with_reducible assumption | with_reducible exact GW.grow _ | with_reducible refine bl_alloc ?_ _ | with_reducible refine Below.drew ?_ | (with_reducible refine Below.setCell ?_ ?_ _; rotate_left; focus (simp; first | done | omega)) | with_reducible refine bl_trans ?_ (GW.grow _) | (with_reducible refine bl_trans ?_ (by assumption))))⟩
  · rw [if_neg (by decide)]
    rw [hv] at cV
    show Calls Try.prog 21 #[.agg #[.string ⟨#[]⟩, .string (strOfNums sq), .slice q n c], .int .i32 r] w (RSt q n c w (⟨0, sq, d⟩, [prA r]))
    have cO : ∀ W, Calls Try.prog 44 #[.agg #[.int .i64 1, .int .i32 r, .int .i32 0, .string ⟨#[]⟩, .slice none 0 0, .string ⟨#[]⟩]] W fun e w' => ∃ v, e = .returned v ∧ OwnX w' W.heap.size v [(prA r, .slice none 0 0)] ∧ Below W.heap.size W w' := fun W => rone_any (prA r) none 0 0 W.heap.size W (Own.nil _ _ _ _) (Nat.le_refl _) ⟨by simp [prA], by simp [prA]⟩
    by_cases e0 : r < 0
    · have e00 : ¬ 0 ≤ r := by omega
      have e128 : ¬ 128 ≤ r := by omega
      clear h32b cR
      go_enter Try.func21, Try.ntmps21
      go_upto_region 31 with (first | (go_at_call 45; (with_reducible refine (cV _).mono ?_); rintro e w1 ⟨rfl, rfl⟩))
      refine wp_name (fun Z => Below w.heap.size w Z ∧ Box Z w.heap.size #[.string ⟨#[]⟩, .string (strOfNums sq), .slice q n c] 35 ∧ Box Z (w.heap.size + 1) #[.string ⟨#[]⟩, .string ⟨#[]⟩, .slice none 0 0] 35 ∧ Box Z (w.heap.size + 2) #[.int .i64 5, .int .i32 0, .int .i32 0, .string ⟨#[]⟩, .slice none 0 0, .string (strOfNums sq)] 52 ∧ Box Z (w.heap.size + 3) #[.int .i64 2, .int .i32 r, .int .i32 0, .string ⟨#[]⟩, .slice none 0 0, .string ⟨#[]⟩] 52) ⟨(by repeat (first | with_reducible exact Below.refl _ _ | with_reducible assumption | with_reducible exact GW.grow _ | with_reducible refine bl_alloc ?_ _ | with_reducible refine Below.drew ?_ | (with_reducible refine Below.setCell ?_ ?_ _; rotate_left; focus (simp; first | done | omega)) | with_reducible refine bl_trans ?_ (GW.grow _) | (with_reducible refine bl_trans ?_ (by assumption)))), (by first | with_reducible assumption | (apply Box.as; (focus (repeat (first | with_reducible assumption | (with_reducible apply Box.new; simp; done) | with_reducible apply Box.gw | with_reducible apply Box.drew | with_reducible apply Box.alloc | with_reducible apply Box.set | (with_reducible apply Box.set_other; case hg => omega)))); rfl)), (by first | with_reducible assumption | (apply Box.as; (focus (repeat (first | with_reducible assumption | (with_reducible apply Box.new; simp; done) | with_reducible apply Box.gw | with_reducible apply Box.drew | with_reducible apply Box.alloc | with_reducible apply Box.set | (with_reducible apply Box.set_other; case hg => omega)))); rfl)), (by first | with_reducible assumption | (apply Box.as; (focus (repeat (first | with_reducible assumption | (with_reducible apply Box.new; simp; done) | with_reducible apply Box.gw | with_reducible apply Box.drew | with_reducible apply Box.alloc | with_reducible apply Box.set | (with_reducible apply Box.set_other; case hg => omega)))); rfl)), (by first | with_reducible assumption | (apply Box.as; (focus (repeat (first | with_reducible assumption | (with_reducible apply Box.new; simp; done) | with_reducible apply Box.gw | with_reducible apply Box.drew | with_reducible apply Box.alloc | with_reducible apply Box.set | (with_reducible apply Box.set_other; case hg => omega)))); rfl))⟩ ?_
      rintro W0 ⟨hW0, xA, xR, xG, xH⟩
      refine wp_region_V (fun u1 u2 => Bar (w.heap.size + 1) u1 u2) (by kernel_rfl) ?_
      have hTr : ∀ u1 u2 u3 : World, Bar (w.heap.size + 1) u1 u2 → Bar (w.heap.size + 1) u2 u3 → Bar (w.heap.size + 1) u1 u3 := fun _ _ _ h1 h2 => Bar.trans h1 h2
      have hGr : ∀ u1 u2 : World, Gr u1 u2 → Bar (w.heap.size + 1) u1 u2 := fun _ _ h1 => Below.bar _ h1
      have hcur : Bar (w.heap.size + 1) W0 W0.drew := Bar.drew (Bar.refl _ _)
      have hgw : Below w.heap.size w W0.drew := hW0.drew
      have xR6 : Box W0.drew (w.heap.size + 1) #[.string ⟨#[]⟩, .string ⟨#[]⟩, .slice none 0 0] 35 := xR
      generalize W0.drew = W6 at *
      refine wpAnyV_takeS hTr hGr (A := ?A0p31n) 0 rfl (by kernel_rfl) (by kernel_rfl) (by kernel_rfl) (fun _ _ _ _ h => h) ?q0p31n ?r0p31n
      case q0p31n =>
        intro W hW
        have hWW := hcur.trans hW; have xa := xA.bar hWW (by omega); have xc := xa.cell; have xl := xa.lt; have xg := xG.bar hWW (by omega); have gc := xg.cell; have gl := xg.lt; have xh := xH.bar hWW (by omega); have hc := xh.cell; have hl := xh.lt
        try simp only [List.getElem_toArray, List.getElem_cons_zero, List.getElem_cons_succ]
        go_big_quiet_step (fail)
        refine wpQuiet_nil ?_
        rfl
      refine wpAnyV_takeS hTr hGr (A := ?A1p31n) 1 rfl (by kernel_rfl) (by kernel_rfl) (by kernel_rfl) (fun _ _ _ _ h => h) ?q1p31n ?r1p31n
      case q1p31n =>
        intro W hW
        try simp only [List.getElem_toArray, List.getElem_cons_zero, List.getElem_cons_succ]
        go_big_quiet_step (fail)
        refine wpQuiet_nil ?_
        rfl
      refine wpAnyV_takeS hTr hGr (A := ?A2p31n) 2 rfl (by kernel_rfl) (by kernel_rfl) (by kernel_rfl) (fun _ _ _ _ h => h) ?q2p31n ?r2p31n
      case q2p31n =>
        intro W hW
        try simp only [List.getElem_toArray, List.getElem_cons_zero, List.getElem_cons_succ]
        go_big_quiet_step (fail)
        refine wpQuiet_nil ?_
        rfl
      refine wpAnyV_one 3 (by kernel_rfl) ?_
      intro W hW
      replace hgw := bl_trans hgw hW
      have xR7 := Box.past hW xR6
      have hRW := xR7.lt
      refine wpOp_step rfl (fun K hK => ?_)
      go_simp
      (with_reducible refine (cO W).mono ?_)
      rintro e wn ⟨v1, rfl, ho1, hbn⟩
      go_simp
      refine hK _ _ ⟨Below.bar _ hbn, ?_⟩
      clear hK K
      try simp only [Act.put, List.getElem_toArray, List.getElem_cons_zero, List.getElem_cons_succ, List.setIfInBounds_toArray, List.set_cons_zero, List.set_cons_succ]
      replace hgw := bl_trans hgw hbn
      have xR8 := Box.past hbn xR7
      refine wpAnyV_one 4 (by kernel_rfl) ?_
      intro W2 hW2
      replace hgw := bl_trans hgw hW2
      have xR9 := Box.past hW2 xR8
      have hc9 := xR9.cell
      have hf9 := xR9.free
      have hl9 := xR9.lt
      refine wpOp_step rfl (fun K hK => ?_)
      go_simp
      refine hK _ _ ⟨Bar3 _ _ _ _ _, ?_⟩
      clear hK K
      try simp only [Act.put, List.getElem_toArray, List.getElem_cons_zero, List.getElem_cons_succ, List.setIfInBounds_toArray, List.set_cons_zero, List.set_cons_succ]
      have yE := set3 xR9 (.string ⟨#[]⟩) (.string (strOfNums sq)) (.slice q n c)
      have yB := Bar3 (w.heap.size + 1) W2 (.string ⟨#[]⟩) (.string (strOfNums sq)) (.slice q n c)
      have ho2 := ((ho1.kept hW2).bar yB hRW).weaken (Nat.le_trans (by omega) (Nat.le_of_lt hRW) : w.heap.size ≤ W.heap.size)
      have hgE := Bar.to_below hgw yB (by omega)
      refine wpAnyV_takeS hTr hGr (A := ?A5p31n) 5 rfl (by kernel_rfl) (by kernel_rfl) (by kernel_rfl) (fun _ _ _ _ h => h) ?q5p31n ?r5p31n
      case q5p31n =>
        intro W hW
        try simp only [List.getElem_toArray, List.getElem_cons_zero, List.getElem_cons_succ]
        go_big_quiet_step (fail)
        refine wpQuiet_nil ?_
        rfl
      refine wpAnyV_done (by kernel_rfl) ?_ _
      intro W3 hW3
      have yE3 := Box.past hW3 yE
      have yEl := yE3.lt
      have ho3 := ho2.kept hW3
      go_wp2_with fail
      refine ret_row_tmp (n := 3) rfl rfl Try.underlying35 rfl (by kernel_rfl) rfl ⟨_, by simp (maxDischargeDepth := 6) [go_sem, Box.row yE3, yEl] <;> rfl, rfl, ?_⟩
      exact ⟨v1, [(prA r, .slice none 0 0)], rfl, rfl, ho3, bl_trans hgE hW3⟩
    have e32 : ¬ r < 32 := by omega
    have e00 : 0 ≤ r := by omega
    clear h32b e0
    by_cases e128 : 128 ≤ r
    · have e160 : 160 ≤ r := by omega
      have e16 : ¬ r < 160 := by omega
      clear cR
      go_enter Try.func21, Try.ntmps21
      go_upto_region 31 with (first | (go_at_call 45; (with_reducible refine (cV _).mono ?_); rintro e w1 ⟨rfl, rfl⟩))
      refine wp_name (fun Z => Below w.heap.size w Z ∧ Box Z w.heap.size #[.string ⟨#[]⟩, .string (strOfNums sq), .slice q n c] 35 ∧ Box Z (w.heap.size + 1) #[.string ⟨#[]⟩, .string ⟨#[]⟩, .slice none 0 0] 35 ∧ Box Z (w.heap.size + 2) #[.int .i64 5, .int .i32 0, .int .i32 0, .string ⟨#[]⟩, .slice none 0 0, .string (strOfNums sq)] 52 ∧ Box Z (w.heap.size + 3) #[.int .i64 2, .int .i32 r, .int .i32 0, .string ⟨#[]⟩, .slice none 0 0, .string ⟨#[]⟩] 52) ⟨(by repeat (first | with_reducible exact Below.refl _ _ | with_reducible assumption | with_reducible exact GW.grow _ | with_reducible refine bl_alloc ?_ _ | with_reducible refine Below.drew ?_ | (with_reducible refine Below.setCell ?_ ?_ _; rotate_left; focus (simp; first | done | omega)) | with_reducible refine bl_trans ?_ (GW.grow _) | (with_reducible refine bl_trans ?_ (by assumption)))), (by first | with_reducible assumption | (apply Box.as; (focus (repeat (first | with_reducible assumption | (with_reducible apply Box.new; simp; done) | with_reducible apply Box.gw | with_reducible apply Box.drew | with_reducible apply Box.alloc | with_reducible apply Box.set | (with_reducible apply Box.set_other; case hg => omega)))); rfl)), (by first | with_reducible assumption | (apply Box.as; (focus (repeat (first | with_reducible assumption | (with_reducible apply Box.new; simp; done) | with_reducible apply Box.gw | with_reducible apply Box.drew | with_reducible apply Box.alloc | with_reducible apply Box.set | (with_reducible apply Box.set_other; case hg => omega)))); rfl)), (by first | with_reducible assumption | (apply Box.as; (focus (repeat (first | with_reducible assumption | (with_reducible apply Box.new; simp; done) | with_reducible apply Box.gw | with_reducible apply Box.drew | with_reducible apply Box.alloc | with_reducible apply Box.set | (with_reducible apply Box.set_other; case hg => omega)))); rfl)), (by first | with_reducible assumption | (apply Box.as; (focus (repeat (first | with_reducible assumption | (with_reducible apply Box.new; simp; done) | with_reducible apply Box.gw | with_reducible apply Box.drew | with_reducible apply Box.alloc | with_reducible apply Box.set | (with_reducible apply Box.set_other; case hg => omega)))); rfl))⟩ ?_
      rintro W0 ⟨hW0, xA, xR, xG, xH⟩
      refine wp_region_V (fun u1 u2 => Bar (w.heap.size + 1) u1 u2) (by kernel_rfl) ?_
      have hTr : ∀ u1 u2 u3 : World, Bar (w.heap.size + 1) u1 u2 → Bar (w.heap.size + 1) u2 u3 → Bar (w.heap.size + 1) u1 u3 := fun _ _ _ h1 h2 => Bar.trans h1 h2
      have hGr : ∀ u1 u2 : World, Gr u1 u2 → Bar (w.heap.size + 1) u1 u2 := fun _ _ h1 => Below.bar _ h1
      have hcur : Bar (w.heap.size + 1) W0 W0.drew := Bar.drew (Bar.refl _ _)
      have hgw : Below w.heap.size w W0.drew := hW0.drew
      have xR6 : Box W0.drew (w.heap.size + 1) #[.string ⟨#[]⟩, .string ⟨#[]⟩, .slice none 0 0] 35 := xR
      generalize W0.drew = W6 at *
      refine wpAnyV_takeS hTr hGr (A := ?A0p31p) 0 rfl (by kernel_rfl) (by kernel_rfl) (by kernel_rfl) (fun _ _ _ _ h => h) ?q0p31p ?r0p31p
      case q0p31p =>
        intro W hW
        have hWW := hcur.trans hW; have xa := xA.bar hWW (by omega); have xc := xa.cell; have xl := xa.lt; have xg := xG.bar hWW (by omega); have gc := xg.cell; have gl := xg.lt; have xh := xH.bar hWW (by omega); have hc := xh.cell; have hl := xh.lt
        try simp only [List.getElem_toArray, List.getElem_cons_zero, List.getElem_cons_succ]
        go_big_quiet_step (fail)
        refine wpQuiet_nil ?_
        rfl
      refine wpAnyV_takeS hTr hGr (A := ?A1p31p) 1 rfl (by kernel_rfl) (by kernel_rfl) (by kernel_rfl) (fun _ _ _ _ h => h) ?q1p31p ?r1p31p
      case q1p31p =>
        intro W hW
        try simp only [List.getElem_toArray, List.getElem_cons_zero, List.getElem_cons_succ]
        go_big_quiet_step (fail)
        refine wpQuiet_nil ?_
        rfl
      refine wpAnyV_takeS hTr hGr (A := ?A2p31p) 2 rfl (by kernel_rfl) (by kernel_rfl) (by kernel_rfl) (fun _ _ _ _ h => h) ?q2p31p ?r2p31p
      case q2p31p =>
        intro W hW
        try simp only [List.getElem_toArray, List.getElem_cons_zero, List.getElem_cons_succ]
        go_big_quiet_step (fail)
        refine wpQuiet_nil ?_
        rfl
      refine wpAnyV_one 3 (by kernel_rfl) ?_
      intro W hW
      replace hgw := bl_trans hgw hW
      have xR7 := Box.past hW xR6
      have hRW := xR7.lt
      refine wpOp_step rfl (fun K hK => ?_)
      go_simp
      (with_reducible refine (cO W).mono ?_)
      rintro e wn ⟨v1, rfl, ho1, hbn⟩
      go_simp
      refine hK _ _ ⟨Below.bar _ hbn, ?_⟩
      clear hK K
      try simp only [Act.put, List.getElem_toArray, List.getElem_cons_zero, List.getElem_cons_succ, List.setIfInBounds_toArray, List.set_cons_zero, List.set_cons_succ]
      replace hgw := bl_trans hgw hbn
      have xR8 := Box.past hbn xR7
      refine wpAnyV_one 4 (by kernel_rfl) ?_
      intro W2 hW2
      replace hgw := bl_trans hgw hW2
      have xR9 := Box.past hW2 xR8
      have hc9 := xR9.cell
      have hf9 := xR9.free
      have hl9 := xR9.lt
      refine wpOp_step rfl (fun K hK => ?_)
      go_simp
      refine hK _ _ ⟨Bar3 _ _ _ _ _, ?_⟩
      clear hK K
      try simp only [Act.put, List.getElem_toArray, List.getElem_cons_zero, List.getElem_cons_succ, List.setIfInBounds_toArray, List.set_cons_zero, List.set_cons_succ]
      have yE := set3 xR9 (.string ⟨#[]⟩) (.string (strOfNums sq)) (.slice q n c)
      have yB := Bar3 (w.heap.size + 1) W2 (.string ⟨#[]⟩) (.string (strOfNums sq)) (.slice q n c)
      have ho2 := ((ho1.kept hW2).bar yB hRW).weaken (Nat.le_trans (by omega) (Nat.le_of_lt hRW) : w.heap.size ≤ W.heap.size)
      have hgE := Bar.to_below hgw yB (by omega)
      refine wpAnyV_takeS hTr hGr (A := ?A5p31p) 5 rfl (by kernel_rfl) (by kernel_rfl) (by kernel_rfl) (fun _ _ _ _ h => h) ?q5p31p ?r5p31p
      case q5p31p =>
        intro W hW
        try simp only [List.getElem_toArray, List.getElem_cons_zero, List.getElem_cons_succ]
        go_big_quiet_step (fail)
        refine wpQuiet_nil ?_
        rfl
      refine wpAnyV_done (by kernel_rfl) ?_ _
      intro W3 hW3
      have yE3 := Box.past hW3 yE
      have yEl := yE3.lt
      have ho3 := ho2.kept hW3
      go_wp2_with fail
      refine ret_row_tmp (n := 3) rfl rfl Try.underlying35 rfl (by kernel_rfl) rfl ⟨_, by simp (maxDischargeDepth := 6) [go_sem, Box.row yE3, yEl] <;> rfl, rfl, ?_⟩
      exact ⟨v1, [(prA r, .slice none 0 0)], rfl, rfl, ho3, bl_trans hgE hW3⟩
    · clear cR
      go_enter Try.func21, Try.ntmps21
      go_upto_region 31 with (first | (go_at_call 45; (with_reducible refine (cV _).mono ?_); rintro e w1 ⟨rfl, rfl⟩))
      refine wp_name (fun Z => Below w.heap.size w Z ∧ Box Z w.heap.size #[.string ⟨#[]⟩, .string (strOfNums sq), .slice q n c] 35 ∧ Box Z (w.heap.size + 1) #[.string ⟨#[]⟩, .string ⟨#[]⟩, .slice none 0 0] 35 ∧ Box Z (w.heap.size + 2) #[.int .i64 5, .int .i32 0, .int .i32 0, .string ⟨#[]⟩, .slice none 0 0, .string (strOfNums sq)] 52 ∧ Box Z (w.heap.size + 3) #[.int .i64 2, .int .i32 r, .int .i32 0, .string ⟨#[]⟩, .slice none 0 0, .string ⟨#[]⟩] 52) ⟨(by repeat (first | with_reducible exact Below.refl _ _ | with_reducible assumption | with_reducible exact GW.grow _ | with_reducible refine bl_alloc ?_ _ | with_reducible refine Below.drew ?_ | (with_reducible refine Below.setCell ?_ ?_ _; rotate_left; focus (simp; first | done | omega)) | with_reducible refine bl_trans ?_ (GW.grow _) | (with_reducible refine bl_trans ?_ (by assumption)))), (by first | with_reducible assumption | (apply Box.as; (focus (repeat (first | with_reducible assumption | (with_reducible apply Box.new; simp; done) | with_reducible apply Box.gw | with_reducible apply Box.drew | with_reducible apply Box.alloc | with_reducible apply Box.set | (with_reducible apply Box.set_other; case hg => omega)))); rfl)), (by first | with_reducible assumption | (apply Box.as; (focus (repeat (first | with_reducible assumption | (with_reducible apply Box.new; simp; done) | with_reducible apply Box.gw | with_reducible apply Box.drew | with_reducible apply Box.alloc | with_reducible apply Box.set | (with_reducible apply Box.set_other; case hg => omega)))); rfl)), (by first | with_reducible assumption | (apply Box.as; (focus (repeat (first | with_reducible assumption | (with_reducible apply Box.new; simp; done) | with_reducible apply Box.gw | with_reducible apply Box.drew | with_reducible apply Box.alloc | with_reducible apply Box.set | (with_reducible apply Box.set_other; case hg => omega)))); rfl)), (by first | with_reducible assumption | (apply Box.as; (focus (repeat (first | with_reducible assumption | (with_reducible apply Box.new; simp; done) | with_reducible apply Box.gw | with_reducible apply Box.drew | with_reducible apply Box.alloc | with_reducible apply Box.set | (with_reducible apply Box.set_other; case hg => omega)))); rfl))⟩ ?_
      rintro W0 ⟨hW0, xA, xR, xG, xH⟩
      refine wp_region_V (fun u1 u2 => Bar (w.heap.size + 1) u1 u2) (by kernel_rfl) ?_
      have hTr : ∀ u1 u2 u3 : World, Bar (w.heap.size + 1) u1 u2 → Bar (w.heap.size + 1) u2 u3 → Bar (w.heap.size + 1) u1 u3 := fun _ _ _ h1 h2 => Bar.trans h1 h2
      have hGr : ∀ u1 u2 : World, Gr u1 u2 → Bar (w.heap.size + 1) u1 u2 := fun _ _ h1 => Below.bar _ h1
      have hcur : Bar (w.heap.size + 1) W0 W0.drew := Bar.drew (Bar.refl _ _)
      have hgw : Below w.heap.size w W0.drew := hW0.drew
      have xR6 : Box W0.drew (w.heap.size + 1) #[.string ⟨#[]⟩, .string ⟨#[]⟩, .slice none 0 0] 35 := xR
      generalize W0.drew = W6 at *
      refine wpAnyV_takeS hTr hGr (A := ?A0p31m) 0 rfl (by kernel_rfl) (by kernel_rfl) (by kernel_rfl) (fun _ _ _ _ h => h) ?q0p31m ?r0p31m
      case q0p31m =>
        intro W hW
        have hWW := hcur.trans hW; have xa := xA.bar hWW (by omega); have xc := xa.cell; have xl := xa.lt; have xg := xG.bar hWW (by omega); have gc := xg.cell; have gl := xg.lt; have xh := xH.bar hWW (by omega); have hc := xh.cell; have hl := xh.lt
        try simp only [List.getElem_toArray, List.getElem_cons_zero, List.getElem_cons_succ]
        go_big_quiet_step (fail)
        refine wpQuiet_nil ?_
        rfl
      refine wpAnyV_takeS hTr hGr (A := ?A1p31m) 1 rfl (by kernel_rfl) (by kernel_rfl) (by kernel_rfl) (fun _ _ _ _ h => h) ?q1p31m ?r1p31m
      case q1p31m =>
        intro W hW
        try simp only [List.getElem_toArray, List.getElem_cons_zero, List.getElem_cons_succ]
        go_big_quiet_step (fail)
        refine wpQuiet_nil ?_
        rfl
      refine wpAnyV_takeS hTr hGr (A := ?A2p31m) 2 rfl (by kernel_rfl) (by kernel_rfl) (by kernel_rfl) (fun _ _ _ _ h => h) ?q2p31m ?r2p31m
      case q2p31m =>
        intro W hW
        try simp only [List.getElem_toArray, List.getElem_cons_zero, List.getElem_cons_succ]
        go_big_quiet_step (fail)
        refine wpQuiet_nil ?_
        rfl
      refine wpAnyV_one 3 (by kernel_rfl) ?_
      intro W hW
      replace hgw := bl_trans hgw hW
      have xR7 := Box.past hW xR6
      have hRW := xR7.lt
      refine wpOp_step rfl (fun K hK => ?_)
      go_simp
      (with_reducible refine (cO W).mono ?_)
      rintro e wn ⟨v1, rfl, ho1, hbn⟩
      go_simp
      refine hK _ _ ⟨Below.bar _ hbn, ?_⟩
      clear hK K
      try simp only [Act.put, List.getElem_toArray, List.getElem_cons_zero, List.getElem_cons_succ, List.setIfInBounds_toArray, List.set_cons_zero, List.set_cons_succ]
      replace hgw := bl_trans hgw hbn
      have xR8 := Box.past hbn xR7
      refine wpAnyV_one 4 (by kernel_rfl) ?_
      intro W2 hW2
      replace hgw := bl_trans hgw hW2
      have xR9 := Box.past hW2 xR8
      have hc9 := xR9.cell
      have hf9 := xR9.free
      have hl9 := xR9.lt
      refine wpOp_step rfl (fun K hK => ?_)
      go_simp
      refine hK _ _ ⟨Bar3 _ _ _ _ _, ?_⟩
      clear hK K
      try simp only [Act.put, List.getElem_toArray, List.getElem_cons_zero, List.getElem_cons_succ, List.setIfInBounds_toArray, List.set_cons_zero, List.set_cons_succ]
      have yE := set3 xR9 (.string ⟨#[]⟩) (.string (strOfNums sq)) (.slice q n c)
      have yB := Bar3 (w.heap.size + 1) W2 (.string ⟨#[]⟩) (.string (strOfNums sq)) (.slice q n c)
      have ho2 := ((ho1.kept hW2).bar yB hRW).weaken (Nat.le_trans (by omega) (Nat.le_of_lt hRW) : w.heap.size ≤ W.heap.size)
      have hgE := Bar.to_below hgw yB (by omega)
      refine wpAnyV_takeS hTr hGr (A := ?A5p31m) 5 rfl (by kernel_rfl) (by kernel_rfl) (by kernel_rfl) (fun _ _ _ _ h => h) ?q5p31m ?r5p31m
      case q5p31m =>
        intro W hW
        try simp only [List.getElem_toArray, List.getElem_cons_zero, List.getElem_cons_succ]
        go_big_quiet_step (fail)
        refine wpQuiet_nil ?_
        rfl
      refine wpAnyV_done (by kernel_rfl) ?_ _
      intro W3 hW3
      have yE3 := Box.past hW3 yE
      have yEl := yE3.lt
      have ho3 := ho2.kept hW3
      go_wp2_with fail
      refine ret_row_tmp (n := 3) rfl rfl Try.underlying35 rfl (by kernel_rfl) rfl ⟨_, by simp (maxDischargeDepth := 6) [go_sem, Box.row yE3, yEl] <;> rfl, rfl, ?_⟩
      exact ⟨v1, [(prA r, .slice none 0 0)], rfl, rfl, ho3, bl_trans hgE hW3⟩
set_option maxHeartbeats 16000000 in
set_option maxRecDepth 100000 in
theorem rsop1_any (sq d : List Int) (q : Option Addr) (n c : Nat) (r : Int) (w : World) (hby : ∀ x ∈ sq, Byte x) (hsz : sq.length ≤ 100000) (hr : ¬ (128 ≤ r ∧ r < 160)) (h24 : ¬ r = 24) (h26 : ¬ r = 26) : Calls Try.prog 21 #[.agg #[.string ⟨#[101, 115, 99, 97, 112, 101]⟩, .string (strOfNums sq), .slice q n c], .int .i32 r] w (RSt q n c w (rsOne ⟨1, sq, d⟩ r)) := by
  have hs : (strOfNums sq).size = sq.length := strOf_size _
  have cV := fun W => validRef_any r W
  have cR : ¬ 128 ≤ r ∨ (128 ≤ r ∧ ¬ r < 160) := by omega
  unfold rsOne
  clear hr
  have b24 : (r == 24) = false := by rw [beq_eq_false_iff_ne]; exact h24
  have b26 : (r == 26) = false := by rw [beq_eq_false_iff_ne]; exact h26
  by_cases h27 : r = 27
  · subst h27
    rw [if_pos rfl]
    show Calls Try.prog 21 #[.agg #[.string ⟨#[101, 115, 99, 97, 112, 101]⟩, .string (strOfNums sq), .slice q n c], .int .i32 27] w (RSt q n c w (⟨1, [], d⟩, []))
    have cT : ∀ x W, Calls Try.prog 43 #[.agg #[.string ⟨#[101, 115, 99, 97, 112, 101]⟩, .string (strOfNums sq), .slice q n c], .string x] W fun e w' => e = .returned (.agg #[.string x, .string ⟨#[]⟩, .slice q n c]) ∧ Below W.heap.size W w' := fun x W => to_any ⟨#[101, 115, 99, 97, 112, 101]⟩ (strOfNums sq) x q n c W
    clear cR cV
    go_enter Try.func21, Try.ntmps21
    go_wp2_with (first | (go_at_call 43; (with_reducible refine (cT _ _).mono ?_); rintro e w1 ⟨rfl, hb1⟩; obtain ⟨X, rfl⟩ := GW.of hb1; clear hb1))
    refine ret_row_tmp (n := 3) rfl rfl Try.underlying35 rfl (by kernel_rfl) rfl ⟨_, by simp (maxDischargeDepth := 6) [go_sem] <;> rfl, rfl, ?_⟩
    exact ⟨.slice none 0 0, [], rfl, rfl, OwnX.nil _ _, (by repeat (first | with_reducible exact Below.refl _ _ | with_reducible assumption | with_reducible exact GW.grow _ | with_reducible refine bl_alloc ?_ _ | with_reducible refine Below.drew ?_ | (with_reducible refine Below.setCell ?_ ?_ _; rotate_left; focus (simp; first | done | omega)) | with_reducible refine bl_trans ?_ (GW.grow _) | (with_reducible refine bl_trans ?_ (by assumption))))⟩
  rw [if_neg h27]
  rw [if_neg (show ¬ (r = 24 ∨ r = 26) from fun k => k.elim h24 h26)]
  rw [if_neg (show ¬ ((1 : Nat) = 3 ∧ r = 7) from fun k => absurd k.1 (by decide)), if_neg (show ¬ ((1 : Nat) = 3) by decide)]
  rw [if_neg (show ¬ ((1 : Nat) = 4) by decide)]
  by_cases h32 : 0 ≤ r ∧ r < 32
  · rw [if_pos h32]
    obtain ⟨hr0, hr32⟩ := h32
    show Calls Try.prog 21 #[.agg #[.string ⟨#[101, 115, 99, 97, 112, 101]⟩, .string (strOfNums sq), .slice q n c], .int .i32 r] w (RSt q n c w (⟨1, sq, d⟩, [exA r]))
    have cO : ∀ W, Calls Try.prog 44 #[.agg #[.int .i64 2, .int .i32 r, .int .i32 0, .string ⟨#[]⟩, .slice none 0 0, .string ⟨#[]⟩]] W fun e w' => ∃ v, e = .returned v ∧ OwnX w' W.heap.size v [(exA r, .slice none 0 0)] ∧ Below W.heap.size W w' := fun W => rone_any (exA r) none 0 0 W.heap.size W (Own.nil _ _ _ _) (Nat.le_refl _) ⟨by simp [exA], by simp [exA]⟩
    go_enter Try.func21, Try.ntmps21
    go_upto_region 22 with fail
    refine wp_name (fun Z => Below w.heap.size w Z ∧ Box Z w.heap.size #[.string ⟨#[101, 115, 99, 97, 112, 101]⟩, .string (strOfNums sq), .slice q n c] 35 ∧ Box Z (w.heap.size + 1) #[.string ⟨#[]⟩, .string ⟨#[]⟩, .slice none 0 0] 35 ∧ Box Z (w.heap.size + 2) #[.int .i64 5, .int .i32 0, .int .i32 0, .string ⟨#[]⟩, .slice none 0 0, .string (strOfNums sq)] 52 ∧ Box Z (w.heap.size + 3) #[.int .i64 2, .int .i32 r, .int .i32 0, .string ⟨#[]⟩, .slice none 0 0, .string ⟨#[]⟩] 52) ⟨(by repeat (first | with_reducible exact Below.refl _ _ | with_reducible assumption | with_reducible exact GW.grow _ | with_reducible refine bl_alloc ?_ _ | with_reducible refine Below.drew ?_ | (with_reducible refine Below.setCell ?_ ?_ _; rotate_left; focus (simp; first | done | omega)) | with_reducible refine bl_trans ?_ (GW.grow _) | (with_reducible refine bl_trans ?_ (by assumption)))), (by first | with_reducible assumption | (apply Box.as; (focus (repeat (first | with_reducible assumption | (with_reducible apply Box.new; simp; done) | with_reducible apply Box.gw | with_reducible apply Box.drew | with_reducible apply Box.alloc | with_reducible apply Box.set | (with_reducible apply Box.set_other; case hg => omega)))); rfl)), (by first | with_reducible assumption | (apply Box.as; (focus (repeat (first | with_reducible assumption | (with_reducible apply Box.new; simp; done) | with_reducible apply Box.gw | with_reducible apply Box.drew | with_reducible apply Box.alloc | with_reducible apply Box.set | (with_reducible apply Box.set_other; case hg => omega)))); rfl)), (by first | with_reducible assumption | (apply Box.as; (focus (repeat (first | with_reducible assumption | (with_reducible apply Box.new; simp; done) | with_reducible apply Box.gw | with_reducible apply Box.drew | with_reducible apply Box.alloc | with_reducible apply Box.set | (with_reducible apply Box.set_other; case hg => omega)))); rfl)), (by first | with_reducible assumption | (apply Box.as; (focus (repeat (first | with_reducible assumption | (with_reducible apply Box.new; simp; done) | with_reducible apply Box.gw | with_reducible apply Box.drew | with_reducible apply Box.alloc | with_reducible apply Box.set | (with_reducible apply Box.set_other; case hg => omega)))); rfl))⟩ ?_
    rintro W0 ⟨hW0, xA, xR, xG, xH⟩
    refine wp_region_V (fun u1 u2 => Bar (w.heap.size + 1) u1 u2) (by kernel_rfl) ?_
    have hTr : ∀ u1 u2 u3 : World, Bar (w.heap.size + 1) u1 u2 → Bar (w.heap.size + 1) u2 u3 → Bar (w.heap.size + 1) u1 u3 := fun _ _ _ h1 h2 => Bar.trans h1 h2
    have hGr : ∀ u1 u2 : World, Gr u1 u2 → Bar (w.heap.size + 1) u1 u2 := fun _ _ h1 => Below.bar _ h1
    have hcur : Bar (w.heap.size + 1) W0 W0.drew := Bar.drew (Bar.refl _ _)
    have hgw : Below w.heap.size w W0.drew := hW0.drew
    have xR6 : Box W0.drew (w.heap.size + 1) #[.string ⟨#[]⟩, .string ⟨#[]⟩, .slice none 0 0] 35 := xR
    generalize W0.drew = W6 at *
    refine wpAnyV_takeS hTr hGr (A := ?A0l1) 0 rfl (by kernel_rfl) (by kernel_rfl) (by kernel_rfl) (fun _ _ _ _ h => h) ?q0l1 ?r0l1
    case q0l1 =>
      intro W hW
      have hWW := hcur.trans hW; have xa := xA.bar hWW (by omega); have xc := xa.cell; have xl := xa.lt; have xg := xG.bar hWW (by omega); have gc := xg.cell; have gl := xg.lt; have xh := xH.bar hWW (by omega); have hc := xh.cell; have hl := xh.lt
      try simp only [List.getElem_toArray, List.getElem_cons_zero, List.getElem_cons_succ]
      go_big_quiet_step (fail)
      refine wpQuiet_nil ?_
      rfl
    refine wpAnyV_takeS hTr hGr (A := ?A1l1) 1 rfl (by kernel_rfl) (by kernel_rfl) (by kernel_rfl) (fun _ _ _ _ h => h) ?q1l1 ?r1l1
    case q1l1 =>
      intro W hW
      have hWW := hcur.trans hW; have xa := xA.bar hWW (by omega); have xc := xa.cell; have xl := xa.lt; have xg := xG.bar hWW (by omega); have gc := xg.cell; have gl := xg.lt; have xh := xH.bar hWW (by omega); have hc := xh.cell; have hl := xh.lt
      try simp only [List.getElem_toArray, List.getElem_cons_zero, List.getElem_cons_succ]
      go_big_quiet_step (fail)
      refine wpQuiet_nil ?_
      rfl
    refine wpAnyV_one 2 (by kernel_rfl) ?_
    intro W hW
    replace hgw := bl_trans hgw hW
    have xR7 := Box.past hW xR6
    have hRW := xR7.lt
    refine wpOp_step rfl (fun K hK => ?_)
    go_simp
    (with_reducible refine (cO W).mono ?_)
    rintro e wn ⟨v1, rfl, ho1, hbn⟩
    go_simp
    refine hK _ _ ⟨Below.bar _ hbn, ?_⟩
    clear hK K
    try simp only [Act.put, List.getElem_toArray, List.getElem_cons_zero, List.getElem_cons_succ, List.setIfInBounds_toArray, List.set_cons_zero, List.set_cons_succ]
    replace hgw := bl_trans hgw hbn
    have xR8 := Box.past hbn xR7
    refine wpAnyV_one 3 (by kernel_rfl) ?_
    intro W2 hW2
    replace hgw := bl_trans hgw hW2
    have xR9 := Box.past hW2 xR8
    have hc9 := xR9.cell
    have hf9 := xR9.free
    have hl9 := xR9.lt
    refine wpOp_step rfl (fun K hK => ?_)
    go_simp
    refine hK _ _ ⟨Bar3 _ _ _ _ _, ?_⟩
    clear hK K
    try simp only [Act.put, List.getElem_toArray, List.getElem_cons_zero, List.getElem_cons_succ, List.setIfInBounds_toArray, List.set_cons_zero, List.set_cons_succ]
    have yE := set3 xR9 (.string ⟨#[101, 115, 99, 97, 112, 101]⟩) (.string (strOfNums sq)) (.slice q n c)
    have yB := Bar3 (w.heap.size + 1) W2 (.string ⟨#[101, 115, 99, 97, 112, 101]⟩) (.string (strOfNums sq)) (.slice q n c)
    have ho2 := ((ho1.kept hW2).bar yB hRW).weaken (Nat.le_trans (by omega) (Nat.le_of_lt hRW) : w.heap.size ≤ W.heap.size)
    have hgE := Bar.to_below hgw yB (by omega)
    refine wpAnyV_takeS hTr hGr (A := ?A4l1) 4 rfl (by kernel_rfl) (by kernel_rfl) (by kernel_rfl) (fun _ _ _ _ h => h) ?q4l1 ?r4l1
    case q4l1 =>
      intro W hW
      try simp only [List.getElem_toArray, List.getElem_cons_zero, List.getElem_cons_succ]
      go_big_quiet_step (fail)
      refine wpQuiet_nil ?_
      rfl
    refine wpAnyV_done (by kernel_rfl) ?_ _
    intro W3 hW3
    have yE3 := Box.past hW3 yE
    have yEl := yE3.lt
    have ho3 := ho2.kept hW3
    go_wp2_with fail
    refine ret_row_tmp (n := 3) rfl rfl Try.underlying35 rfl (by kernel_rfl) rfl ⟨_, by simp (maxDischargeDepth := 6) [go_sem, Box.row yE3, yEl] <;> rfl, rfl, ?_⟩
    exact ⟨v1, [(exA r, .slice none 0 0)], rfl, rfl, ho3, bl_trans hgE hW3⟩
  rw [if_neg h32]
  by_cases h127 : r = 127
  · subst h127
    rw [if_pos rfl]
    show Calls Try.prog 21 #[.agg #[.string ⟨#[101, 115, 99, 97, 112, 101]⟩, .string (strOfNums sq), .slice q n c], .int .i32 127] w (RSt q n c w (⟨1, sq, d⟩, []))
    go_enter Try.func21, Try.ntmps21
    go_wp2_with (fail)
    refine ret_row_tmp (n := 3) rfl rfl Try.underlying35 rfl (by kernel_rfl) rfl ⟨_, by simp (maxDischargeDepth := 6) [go_sem] <;> rfl, rfl, ?_⟩
    exact ⟨.slice none 0 0, [], rfl, rfl, OwnX.nil _ _, (by repeat (first | with_reducible exact Below.refl _ _ | with_reducible assumption | with_reducible exact GW.grow _ | with_reducible refine bl_alloc ?_ _ | with_reducible refine Below.drew ?_ | (with_reducible refine Below.setCell ?_ ?_ _; rotate_left; focus (simp; first | done | omega)) | with_reducible refine bl_trans ?_ (GW.grow _) | (with_reducible refine bl_trans ?_ (by assumption))))⟩
  rw [if_neg h127]
  have b127 : (r == 127) = false := by rw [beq_eq_false_iff_ne]; exact h127
  have h32b : ¬ 0 ≤ r ∨ ¬ r < 32 := by omega
  clear h32
  rw [if_pos rfl]
  have cE : ∀ W, Calls Try.prog 48 #[.agg #[.string ⟨#[101, 115, 99, 97, 112, 101]⟩, .string (strOfNums sq), .slice q n c], .int .i32 r] W (RSt q n c W (escR ⟨1, sq, d⟩ r)) := fun W => rescape_any ⟨1, sq, d⟩ q n c r W hby hsz
  show Calls Try.prog 21 #[.agg #[.string ⟨#[101, 115, 99, 97, 112, 101]⟩, .string (strOfNums sq), .slice q n c], .int .i32 r] w (RSt q n c w (escR ⟨1, sq, d⟩ r))
  clear cV
  by_cases e0 : r < 0
  · have e00 : ¬ 0 ≤ r := by omega
    have e128 : ¬ 128 ≤ r := by omega
    clear h32b cR
    go_enter Try.func21, Try.ntmps21
    go_wp2_with (first | (go_at_call 48; (with_reducible refine (cE _).mono ?_); rintro e w1 ⟨v1, xs1, rfl, k1, k2, hb1⟩; have xR := Box.past hb1 (b := w.heap.size + 1) (cs := #[.string ⟨#[]⟩, .string ⟨#[]⟩, .slice none 0 0]) (t := 35) (by first | with_reducible assumption | (apply Box.as; (focus (repeat (first | with_reducible assumption | (with_reducible apply Box.new; simp; done) | with_reducible apply Box.gw | with_reducible apply Box.drew | with_reducible apply Box.alloc | with_reducible apply Box.set | (with_reducible apply Box.set_other; case hg => omega)))); rfl)); have rc := xR.cell; have rf := xR.free; have rl := xR.lt; have hbw := bl_trans4 hb1))
    have yE := set3 xR (.string (opS (escR ⟨1, sq, d⟩ r).1.op)) (.string (strOfNums (escR ⟨1, sq, d⟩ r).1.sq)) (.slice q n c)
    have yEl := yE.lt
    refine ret_row_tmp (n := 3) rfl rfl Try.underlying35 rfl (by kernel_rfl) rfl ⟨_, by simp (maxDischargeDepth := 6) [go_sem, Box.row yE, yEl] <;> rfl, rfl, ?_⟩
    exact ⟨v1, xs1, rfl, k1, (k2.bar (Bar3 _ _ _ _ _) (by simp; try omega)).weaken (by simp; try omega), Bar.to_below hbw (Bar3 _ _ _ _ _) (by omega)⟩
  have e32 : ¬ r < 32 := by omega
  have e00 : 0 ≤ r := by omega
  clear h32b e0
  by_cases e128 : 128 ≤ r
  · have e160 : 160 ≤ r := by omega
    have e16 : ¬ r < 160 := by omega
    clear cR
    go_enter Try.func21, Try.ntmps21
    go_wp2_with (first | (go_at_call 48; (with_reducible refine (cE _).mono ?_); rintro e w1 ⟨v1, xs1, rfl, k1, k2, hb1⟩; have xR := Box.past hb1 (b := w.heap.size + 1) (cs := #[.string ⟨#[]⟩, .string ⟨#[]⟩, .slice none 0 0]) (t := 35) (by first | with_reducible assumption | (apply Box.as; (focus (repeat (first | with_reducible assumption | (with_reducible apply Box.new; simp; done) | with_reducible apply Box.gw | with_reducible apply Box.drew | with_reducible apply Box.alloc | with_reducible apply Box.set | (with_reducible apply Box.set_other; case hg => omega)))); rfl)); have rc := xR.cell; have rf := xR.free; have rl := xR.lt; have hbw := bl_trans4 hb1))
    have yE := set3 xR (.string (opS (escR ⟨1, sq, d⟩ r).1.op)) (.string (strOfNums (escR ⟨1, sq, d⟩ r).1.sq)) (.slice q n c)
    have yEl := yE.lt
    refine ret_row_tmp (n := 3) rfl rfl Try.underlying35 rfl (by kernel_rfl) rfl ⟨_, by simp (maxDischargeDepth := 6) [go_sem, Box.row yE, yEl] <;> rfl, rfl, ?_⟩
    exact ⟨v1, xs1, rfl, k1, (k2.bar (Bar3 _ _ _ _ _) (by simp; try omega)).weaken (by simp; try omega), Bar.to_below hbw (Bar3 _ _ _ _ _) (by omega)⟩
  · clear cR
    go_enter Try.func21, Try.ntmps21
    go_wp2_with (first | (go_at_call 48; (with_reducible refine (cE _).mono ?_); rintro e w1 ⟨v1, xs1, rfl, k1, k2, hb1⟩; have xR := Box.past hb1 (b := w.heap.size + 1) (cs := #[.string ⟨#[]⟩, .string ⟨#[]⟩, .slice none 0 0]) (t := 35) (by first | with_reducible assumption | (apply Box.as; (focus (repeat (first | with_reducible assumption | (with_reducible apply Box.new; simp; done) | with_reducible apply Box.gw | with_reducible apply Box.drew | with_reducible apply Box.alloc | with_reducible apply Box.set | (with_reducible apply Box.set_other; case hg => omega)))); rfl)); have rc := xR.cell; have rf := xR.free; have rl := xR.lt; have hbw := bl_trans4 hb1))
    have yE := set3 xR (.string (opS (escR ⟨1, sq, d⟩ r).1.op)) (.string (strOfNums (escR ⟨1, sq, d⟩ r).1.sq)) (.slice q n c)
    have yEl := yE.lt
    refine ret_row_tmp (n := 3) rfl rfl Try.underlying35 rfl (by kernel_rfl) rfl ⟨_, by simp (maxDischargeDepth := 6) [go_sem, Box.row yE, yEl] <;> rfl, rfl, ?_⟩
    exact ⟨v1, xs1, rfl, k1, (k2.bar (Bar3 _ _ _ _ _) (by simp; try omega)).weaken (by simp; try omega), Bar.to_below hbw (Bar3 _ _ _ _ _) (by omega)⟩
set_option maxHeartbeats 16000000 in
set_option maxRecDepth 100000 in
theorem rsop2_any (sq d : List Int) (q : Option Addr) (n c : Nat) (r : Int) (w : World) (hby : ∀ x ∈ sq, Byte x) (hsz : sq.length ≤ 100000) (hr : ¬ (128 ≤ r ∧ r < 160)) (h24 : ¬ r = 24) (h26 : ¬ r = 26) : Calls Try.prog 21 #[.agg #[.string ⟨#[99, 111, 110, 116, 114, 111, 108]⟩, .string (strOfNums sq), .slice q n c], .int .i32 r] w (RSt q n c w (rsOne ⟨2, sq, d⟩ r)) := by
  have hs : (strOfNums sq).size = sq.length := strOf_size _
  have cV := fun W => validRef_any r W
  have cR : ¬ 128 ≤ r ∨ (128 ≤ r ∧ ¬ r < 160) := by omega
  unfold rsOne
  clear hr
  have b24 : (r == 24) = false := by rw [beq_eq_false_iff_ne]; exact h24
  have b26 : (r == 26) = false := by rw [beq_eq_false_iff_ne]; exact h26
  by_cases h27 : r = 27
  · subst h27
    rw [if_pos rfl]
    show Calls Try.prog 21 #[.agg #[.string ⟨#[99, 111, 110, 116, 114, 111, 108]⟩, .string (strOfNums sq), .slice q n c], .int .i32 27] w (RSt q n c w (⟨1, [], d⟩, []))
    have cT : ∀ x W, Calls Try.prog 43 #[.agg #[.string ⟨#[99, 111, 110, 116, 114, 111, 108]⟩, .string (strOfNums sq), .slice q n c], .string x] W fun e w' => e = .returned (.agg #[.string x, .string ⟨#[]⟩, .slice q n c]) ∧ Below W.heap.size W w' := fun x W => to_any ⟨#[99, 111, 110, 116, 114, 111, 108]⟩ (strOfNums sq) x q n c W
    clear cR cV
    go_enter Try.func21, Try.ntmps21
    go_wp2_with (first | (go_at_call 43; (with_reducible refine (cT _ _).mono ?_); rintro e w1 ⟨rfl, hb1⟩; obtain ⟨X, rfl⟩ := GW.of hb1; clear hb1))
    refine ret_row_tmp (n := 3) rfl rfl Try.underlying35 rfl (by kernel_rfl) rfl ⟨_, by simp (maxDischargeDepth := 6) [go_sem] <;> rfl, rfl, ?_⟩
    exact ⟨.slice none 0 0, [], rfl, rfl, OwnX.nil _ _, (by repeat (first | with_reducible exact Below.refl _ _ | with_reducible assumption | with_reducible exact GW.grow _ | with_reducible refine bl_alloc ?_ _ | with_reducible refine Below.drew ?_ | (with_reducible refine Below.setCell ?_ ?_ _; rotate_left; focus (simp; first | done | omega)) | with_reducible refine bl_trans ?_ (GW.grow _) | (with_reducible refine bl_trans ?_ (by assumption))))⟩
  rw [if_neg h27]
  rw [if_neg (show ¬ (r = 24 ∨ r = 26) from fun k => k.elim h24 h26)]
  rw [if_neg (show ¬ ((2 : Nat) = 3 ∧ r = 7) from fun k => absurd k.1 (by decide)), if_neg (show ¬ ((2 : Nat) = 3) by decide)]
  rw [if_neg (show ¬ ((2 : Nat) = 4) by decide)]
  by_cases h32 : 0 ≤ r ∧ r < 32
  · rw [if_pos h32]
    obtain ⟨hr0, hr32⟩ := h32
    show Calls Try.prog 21 #[.agg #[.string ⟨#[99, 111, 110, 116, 114, 111, 108]⟩, .string (strOfNums sq), .slice q n c], .int .i32 r] w (RSt q n c w (⟨2, sq, d⟩, [exA r]))
    have cO : ∀ W, Calls Try.prog 44 #[.agg #[.int .i64 2, .int .i32 r, .int .i32 0, .string ⟨#[]⟩, .slice none 0 0, .string ⟨#[]⟩]] W fun e w' => ∃ v, e = .returned v ∧ OwnX w' W.heap.size v [(exA r, .slice none 0 0)] ∧ Below W.heap.size W w' := fun W => rone_any (exA r) none 0 0 W.heap.size W (Own.nil _ _ _ _) (Nat.le_refl _) ⟨by simp [exA], by simp [exA]⟩
    go_enter Try.func21, Try.ntmps21
    go_upto_region 22 with fail
    refine wp_name (fun Z => Below w.heap.size w Z ∧ Box Z w.heap.size #[.string ⟨#[99, 111, 110, 116, 114, 111, 108]⟩, .string (strOfNums sq), .slice q n c] 35 ∧ Box Z (w.heap.size + 1) #[.string ⟨#[]⟩, .string ⟨#[]⟩, .slice none 0 0] 35 ∧ Box Z (w.heap.size + 2) #[.int .i64 5, .int .i32 0, .int .i32 0, .string ⟨#[]⟩, .slice none 0 0, .string (strOfNums sq)] 52 ∧ Box Z (w.heap.size + 3) #[.int .i64 2, .int .i32 r, .int .i32 0, .string ⟨#[]⟩, .slice none 0 0, .string ⟨#[]⟩] 52) ⟨(by repeat (first | with_reducible exact Below.refl _ _ | with_reducible assumption | with_reducible exact GW.grow _ | with_reducible refine bl_alloc ?_ _ | with_reducible refine Below.drew ?_ | (with_reducible refine Below.setCell ?_ ?_ _; rotate_left; focus (simp; first | done | omega)) | with_reducible refine bl_trans ?_ (GW.grow _) | (with_reducible refine bl_trans ?_ (by assumption)))), (by first | with_reducible assumption | (apply Box.as; (focus (repeat (first | with_reducible assumption | (with_reducible apply Box.new; simp; done) | with_reducible apply Box.gw | with_reducible apply Box.drew | with_reducible apply Box.alloc | with_reducible apply Box.set | (with_reducible apply Box.set_other; case hg => omega)))); rfl)), (by first | with_reducible assumption | (apply Box.as; (focus (repeat (first | with_reducible assumption | (with_reducible apply Box.new; simp; done) | with_reducible apply Box.gw | with_reducible apply Box.drew | with_reducible apply Box.alloc | with_reducible apply Box.set | (with_reducible apply Box.set_other; case hg => omega)))); rfl)), (by first | with_reducible assumption | (apply Box.as; (focus (repeat (first | with_reducible assumption | (with_reducible apply Box.new; simp; done) | with_reducible apply Box.gw | with_reducible apply Box.drew | with_reducible apply Box.alloc | with_reducible apply Box.set | (with_reducible apply Box.set_other; case hg => omega)))); rfl)), (by first | with_reducible assumption | (apply Box.as; (focus (repeat (first | with_reducible assumption | (with_reducible apply Box.new; simp; done) | with_reducible apply Box.gw | with_reducible apply Box.drew | with_reducible apply Box.alloc | with_reducible apply Box.set | (with_reducible apply Box.set_other; case hg => omega)))); rfl))⟩ ?_
    rintro W0 ⟨hW0, xA, xR, xG, xH⟩
    refine wp_region_V (fun u1 u2 => Bar (w.heap.size + 1) u1 u2) (by kernel_rfl) ?_
    have hTr : ∀ u1 u2 u3 : World, Bar (w.heap.size + 1) u1 u2 → Bar (w.heap.size + 1) u2 u3 → Bar (w.heap.size + 1) u1 u3 := fun _ _ _ h1 h2 => Bar.trans h1 h2
    have hGr : ∀ u1 u2 : World, Gr u1 u2 → Bar (w.heap.size + 1) u1 u2 := fun _ _ h1 => Below.bar _ h1
    have hcur : Bar (w.heap.size + 1) W0 W0.drew := Bar.drew (Bar.refl _ _)
    have hgw : Below w.heap.size w W0.drew := hW0.drew
    have xR6 : Box W0.drew (w.heap.size + 1) #[.string ⟨#[]⟩, .string ⟨#[]⟩, .slice none 0 0] 35 := xR
    generalize W0.drew = W6 at *
    refine wpAnyV_takeS hTr hGr (A := ?A0l2) 0 rfl (by kernel_rfl) (by kernel_rfl) (by kernel_rfl) (fun _ _ _ _ h => h) ?q0l2 ?r0l2
    case q0l2 =>
      intro W hW
      have hWW := hcur.trans hW; have xa := xA.bar hWW (by omega); have xc := xa.cell; have xl := xa.lt; have xg := xG.bar hWW (by omega); have gc := xg.cell; have gl := xg.lt; have xh := xH.bar hWW (by omega); have hc := xh.cell; have hl := xh.lt
      try simp only [List.getElem_toArray, List.getElem_cons_zero, List.getElem_cons_succ]
      go_big_quiet_step (fail)
      refine wpQuiet_nil ?_
      rfl
    refine wpAnyV_takeS hTr hGr (A := ?A1l2) 1 rfl (by kernel_rfl) (by kernel_rfl) (by kernel_rfl) (fun _ _ _ _ h => h) ?q1l2 ?r1l2
    case q1l2 =>
      intro W hW
      have hWW := hcur.trans hW; have xa := xA.bar hWW (by omega); have xc := xa.cell; have xl := xa.lt; have xg := xG.bar hWW (by omega); have gc := xg.cell; have gl := xg.lt; have xh := xH.bar hWW (by omega); have hc := xh.cell; have hl := xh.lt
      try simp only [List.getElem_toArray, List.getElem_cons_zero, List.getElem_cons_succ]
      go_big_quiet_step (fail)
      refine wpQuiet_nil ?_
      rfl
    refine wpAnyV_one 2 (by kernel_rfl) ?_
    intro W hW
    replace hgw := bl_trans hgw hW
    have xR7 := Box.past hW xR6
    have hRW := xR7.lt
    refine wpOp_step rfl (fun K hK => ?_)
    go_simp
    (with_reducible refine (cO W).mono ?_)
    rintro e wn ⟨v1, rfl, ho1, hbn⟩
    go_simp
    refine hK _ _ ⟨Below.bar _ hbn, ?_⟩
    clear hK K
    try simp only [Act.put, List.getElem_toArray, List.getElem_cons_zero, List.getElem_cons_succ, List.setIfInBounds_toArray, List.set_cons_zero, List.set_cons_succ]
    replace hgw := bl_trans hgw hbn
    have xR8 := Box.past hbn xR7
    refine wpAnyV_one 3 (by kernel_rfl) ?_
    intro W2 hW2
    replace hgw := bl_trans hgw hW2
    have xR9 := Box.past hW2 xR8
    have hc9 := xR9.cell
    have hf9 := xR9.free
    have hl9 := xR9.lt
    refine wpOp_step rfl (fun K hK => ?_)
    go_simp
    refine hK _ _ ⟨Bar3 _ _ _ _ _, ?_⟩
    clear hK K
    try simp only [Act.put, List.getElem_toArray, List.getElem_cons_zero, List.getElem_cons_succ, List.setIfInBounds_toArray, List.set_cons_zero, List.set_cons_succ]
    have yE := set3 xR9 (.string ⟨#[99, 111, 110, 116, 114, 111, 108]⟩) (.string (strOfNums sq)) (.slice q n c)
    have yB := Bar3 (w.heap.size + 1) W2 (.string ⟨#[99, 111, 110, 116, 114, 111, 108]⟩) (.string (strOfNums sq)) (.slice q n c)
    have ho2 := ((ho1.kept hW2).bar yB hRW).weaken (Nat.le_trans (by omega) (Nat.le_of_lt hRW) : w.heap.size ≤ W.heap.size)
    have hgE := Bar.to_below hgw yB (by omega)
    refine wpAnyV_takeS hTr hGr (A := ?A4l2) 4 rfl (by kernel_rfl) (by kernel_rfl) (by kernel_rfl) (fun _ _ _ _ h => h) ?q4l2 ?r4l2
    case q4l2 =>
      intro W hW
      try simp only [List.getElem_toArray, List.getElem_cons_zero, List.getElem_cons_succ]
      go_big_quiet_step (fail)
      refine wpQuiet_nil ?_
      rfl
    refine wpAnyV_done (by kernel_rfl) ?_ _
    intro W3 hW3
    have yE3 := Box.past hW3 yE
    have yEl := yE3.lt
    have ho3 := ho2.kept hW3
    go_wp2_with fail
    refine ret_row_tmp (n := 3) rfl rfl Try.underlying35 rfl (by kernel_rfl) rfl ⟨_, by simp (maxDischargeDepth := 6) [go_sem, Box.row yE3, yEl] <;> rfl, rfl, ?_⟩
    exact ⟨v1, [(exA r, .slice none 0 0)], rfl, rfl, ho3, bl_trans hgE hW3⟩
  rw [if_neg h32]
  by_cases h127 : r = 127
  · subst h127
    rw [if_pos rfl]
    show Calls Try.prog 21 #[.agg #[.string ⟨#[99, 111, 110, 116, 114, 111, 108]⟩, .string (strOfNums sq), .slice q n c], .int .i32 127] w (RSt q n c w (⟨2, sq, d⟩, []))
    go_enter Try.func21, Try.ntmps21
    go_wp2_with (fail)
    refine ret_row_tmp (n := 3) rfl rfl Try.underlying35 rfl (by kernel_rfl) rfl ⟨_, by simp (maxDischargeDepth := 6) [go_sem] <;> rfl, rfl, ?_⟩
    exact ⟨.slice none 0 0, [], rfl, rfl, OwnX.nil _ _, (by repeat (first | with_reducible exact Below.refl _ _ | with_reducible assumption | with_reducible exact GW.grow _ | with_reducible refine bl_alloc ?_ _ | with_reducible refine Below.drew ?_ | (with_reducible refine Below.setCell ?_ ?_ _; rotate_left; focus (simp; first | done | omega)) | with_reducible refine bl_trans ?_ (GW.grow _) | (with_reducible refine bl_trans ?_ (by assumption))))⟩
  rw [if_neg h127]
  have b127 : (r == 127) = false := by rw [beq_eq_false_iff_ne]; exact h127
  have h32b : ¬ 0 ≤ r ∨ ¬ r < 32 := by omega
  clear h32
  rw [if_neg (show ¬ ((2 : Nat) = 1) by decide), if_pos rfl]
  have cE : ∀ W, Calls Try.prog 49 #[.agg #[.string ⟨#[99, 111, 110, 116, 114, 111, 108]⟩, .string (strOfNums sq), .slice q n c], .int .i32 r] W (RSt q n c W (conR ⟨2, sq, d⟩ r)) := fun W => rcontrol_any ⟨2, sq, d⟩ q n c r W hby hsz
  show Calls Try.prog 21 #[.agg #[.string ⟨#[99, 111, 110, 116, 114, 111, 108]⟩, .string (strOfNums sq), .slice q n c], .int .i32 r] w (RSt q n c w (conR ⟨2, sq, d⟩ r))
  clear cV
  by_cases e0 : r < 0
  · have e00 : ¬ 0 ≤ r := by omega
    have e128 : ¬ 128 ≤ r := by omega
    clear h32b cR
    go_enter Try.func21, Try.ntmps21
    go_wp2_with (first | (go_at_call 49; (with_reducible refine (cE _).mono ?_); rintro e w1 ⟨v1, xs1, rfl, k1, k2, hb1⟩; have xR := Box.past hb1 (b := w.heap.size + 1) (cs := #[.string ⟨#[]⟩, .string ⟨#[]⟩, .slice none 0 0]) (t := 35) (by first | with_reducible assumption | (apply Box.as; (focus (repeat (first | with_reducible assumption | (with_reducible apply Box.new; simp; done) | with_reducible apply Box.gw | with_reducible apply Box.drew | with_reducible apply Box.alloc | with_reducible apply Box.set | (with_reducible apply Box.set_other; case hg => omega)))); rfl)); have rc := xR.cell; have rf := xR.free; have rl := xR.lt; have hbw := bl_trans4 hb1))
    have yE := set3 xR (.string (opS (conR ⟨2, sq, d⟩ r).1.op)) (.string (strOfNums (conR ⟨2, sq, d⟩ r).1.sq)) (.slice q n c)
    have yEl := yE.lt
    refine ret_row_tmp (n := 3) rfl rfl Try.underlying35 rfl (by kernel_rfl) rfl ⟨_, by simp (maxDischargeDepth := 6) [go_sem, Box.row yE, yEl] <;> rfl, rfl, ?_⟩
    exact ⟨v1, xs1, rfl, k1, (k2.bar (Bar3 _ _ _ _ _) (by simp; try omega)).weaken (by simp; try omega), Bar.to_below hbw (Bar3 _ _ _ _ _) (by omega)⟩
  have e32 : ¬ r < 32 := by omega
  have e00 : 0 ≤ r := by omega
  clear h32b e0
  by_cases e128 : 128 ≤ r
  · have e160 : 160 ≤ r := by omega
    have e16 : ¬ r < 160 := by omega
    clear cR
    go_enter Try.func21, Try.ntmps21
    go_wp2_with (first | (go_at_call 49; (with_reducible refine (cE _).mono ?_); rintro e w1 ⟨v1, xs1, rfl, k1, k2, hb1⟩; have xR := Box.past hb1 (b := w.heap.size + 1) (cs := #[.string ⟨#[]⟩, .string ⟨#[]⟩, .slice none 0 0]) (t := 35) (by first | with_reducible assumption | (apply Box.as; (focus (repeat (first | with_reducible assumption | (with_reducible apply Box.new; simp; done) | with_reducible apply Box.gw | with_reducible apply Box.drew | with_reducible apply Box.alloc | with_reducible apply Box.set | (with_reducible apply Box.set_other; case hg => omega)))); rfl)); have rc := xR.cell; have rf := xR.free; have rl := xR.lt; have hbw := bl_trans4 hb1))
    have yE := set3 xR (.string (opS (conR ⟨2, sq, d⟩ r).1.op)) (.string (strOfNums (conR ⟨2, sq, d⟩ r).1.sq)) (.slice q n c)
    have yEl := yE.lt
    refine ret_row_tmp (n := 3) rfl rfl Try.underlying35 rfl (by kernel_rfl) rfl ⟨_, by simp (maxDischargeDepth := 6) [go_sem, Box.row yE, yEl] <;> rfl, rfl, ?_⟩
    exact ⟨v1, xs1, rfl, k1, (k2.bar (Bar3 _ _ _ _ _) (by simp; try omega)).weaken (by simp; try omega), Bar.to_below hbw (Bar3 _ _ _ _ _) (by omega)⟩
  · clear cR
    go_enter Try.func21, Try.ntmps21
    go_wp2_with (first | (go_at_call 49; (with_reducible refine (cE _).mono ?_); rintro e w1 ⟨v1, xs1, rfl, k1, k2, hb1⟩; have xR := Box.past hb1 (b := w.heap.size + 1) (cs := #[.string ⟨#[]⟩, .string ⟨#[]⟩, .slice none 0 0]) (t := 35) (by first | with_reducible assumption | (apply Box.as; (focus (repeat (first | with_reducible assumption | (with_reducible apply Box.new; simp; done) | with_reducible apply Box.gw | with_reducible apply Box.drew | with_reducible apply Box.alloc | with_reducible apply Box.set | (with_reducible apply Box.set_other; case hg => omega)))); rfl)); have rc := xR.cell; have rf := xR.free; have rl := xR.lt; have hbw := bl_trans4 hb1))
    have yE := set3 xR (.string (opS (conR ⟨2, sq, d⟩ r).1.op)) (.string (strOfNums (conR ⟨2, sq, d⟩ r).1.sq)) (.slice q n c)
    have yEl := yE.lt
    refine ret_row_tmp (n := 3) rfl rfl Try.underlying35 rfl (by kernel_rfl) rfl ⟨_, by simp (maxDischargeDepth := 6) [go_sem, Box.row yE, yEl] <;> rfl, rfl, ?_⟩
    exact ⟨v1, xs1, rfl, k1, (k2.bar (Bar3 _ _ _ _ _) (by simp; try omega)).weaken (by simp; try omega), Bar.to_below hbw (Bar3 _ _ _ _ _) (by omega)⟩

end Go.Proofs.Ytpkkfcfkhiaggaa
