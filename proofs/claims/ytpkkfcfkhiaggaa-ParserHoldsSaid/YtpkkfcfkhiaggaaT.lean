/- parser: the reference, a rune. Printed by mk_s.py. -/
import Derived.Test.YtpkkfcfkhiaggaaS
import Derived.Deep.CutBlock
import Derived.Deep.DeepCutAuto
import Derived.Outline
set_option linter.unusedSimpArgs false
set_option linter.unusedVariables false
set_option linter.unnecessarySimpa false
namespace Go.Proofs.Ytpkkfcfkhiaggaa
open Go.RowKit
open Go.Proofs.Ytpkkfcfkhiaggaa.Pm (fineR addB addO bldQ refL bldC BldV bldC_len)

set_option maxHeartbeats 16000000 in
set_option maxRecDepth 100000 in
theorem rsop3_any (sq d : List Int) (q : Option Addr) (n c : Nat) (r : Int) (w : World) (hby : ∀ x ∈ sq, Byte x) (hsz : sq.length ≤ 100000) (hr : ¬ (128 ≤ r ∧ r < 160)) (h24 : ¬ r = 24) (h26 : ¬ r = 26) : Calls Try.prog 21 #[.agg #[.string ⟨#[115, 116, 114, 105, 110, 103]⟩, .string (strOfNums sq), .slice q n c], .int .i32 r] w (RSt q n c w (rsOne ⟨3, sq, d⟩ r)) := by
  have hs : (strOfNums sq).size = sq.length := strOf_size _
  have cV := fun W => validRef_any r W
  have cR : ¬ 128 ≤ r ∨ (128 ≤ r ∧ ¬ r < 160) := by omega
  unfold rsOne
  clear hr
  have b24 : (r == 24) = false := by rw [beq_eq_false_iff_ne]; exact h24
  have b26 : (r == 26) = false := by rw [beq_eq_false_iff_ne]; exact h26
  by_cases h27 : r = 27
  · subst h27
    rw [if_pos rfl]
    show Calls Try.prog 21 #[.agg #[.string ⟨#[115, 116, 114, 105, 110, 103]⟩, .string (strOfNums sq), .slice q n c], .int .i32 27] w (RSt q n c w (⟨1, [], d⟩, [txA sq]))
    have cT : ∀ x W, Calls Try.prog 43 #[.agg #[.string ⟨#[115, 116, 114, 105, 110, 103]⟩, .string (strOfNums sq), .slice q n c], .string x] W fun e w' => e = .returned (.agg #[.string x, .string ⟨#[]⟩, .slice q n c]) ∧ Below W.heap.size W w' := fun x W => to_any ⟨#[115, 116, 114, 105, 110, 103]⟩ (strOfNums sq) x q n c W
    have cO : ∀ W, Calls Try.prog 44 #[.agg #[.int .i64 5, .int .i32 0, .int .i32 0, .string ⟨#[]⟩, .slice none 0 0, .string (strOfNums sq)]] W fun e w' => ∃ v, e = .returned v ∧ OwnX w' W.heap.size v [(txA sq, .slice none 0 0)] ∧ Below W.heap.size W w' := fun W => rone_any (txA sq) none 0 0 W.heap.size W (Own.nil _ _ _ _) (Nat.le_refl _) ⟨by simp [txA], hby⟩
    clear cR cV
    go_enter Try.func21, Try.ntmps21
    go_upto_region 8 with fail
    refine wp_name (fun Z => Below w.heap.size w Z ∧ Box Z w.heap.size #[.string ⟨#[115, 116, 114, 105, 110, 103]⟩, .string (strOfNums sq), .slice q n c] 35 ∧ Box Z (w.heap.size + 1) #[.string ⟨#[]⟩, .string ⟨#[]⟩, .slice none 0 0] 35 ∧ Box Z (w.heap.size + 2) #[.int .i64 5, .int .i32 0, .int .i32 0, .string ⟨#[]⟩, .slice none 0 0, .string (strOfNums sq)] 52 ∧ Box Z (w.heap.size + 3) #[.int .i64 2, .int .i32 27, .int .i32 0, .string ⟨#[]⟩, .slice none 0 0, .string ⟨#[]⟩] 52) ⟨(by repeat (first | with_reducible exact Below.refl _ _ | with_reducible assumption | with_reducible exact GW.grow _ | with_reducible refine bl_alloc ?_ _ | with_reducible refine Below.drew ?_ | (with_reducible refine Below.setCell ?_ ?_ _; rotate_left; focus (simp; first | done | omega)) | with_reducible refine bl_trans ?_ (GW.grow _) | (with_reducible refine bl_trans ?_ (by assumption)))), (by first | with_reducible assumption | (apply Box.as; (focus (repeat (first | with_reducible assumption | (with_reducible apply Box.new; simp; done) | with_reducible apply Box.gw | with_reducible apply Box.drew | with_reducible apply Box.alloc | with_reducible apply Box.set | (with_reducible apply Box.set_other; case hg => omega)))); rfl)), (by first | with_reducible assumption | (apply Box.as; (focus (repeat (first | with_reducible assumption | (with_reducible apply Box.new; simp; done) | with_reducible apply Box.gw | with_reducible apply Box.drew | with_reducible apply Box.alloc | with_reducible apply Box.set | (with_reducible apply Box.set_other; case hg => omega)))); rfl)), (by first | with_reducible assumption | (apply Box.as; (focus (repeat (first | with_reducible assumption | (with_reducible apply Box.new; simp; done) | with_reducible apply Box.gw | with_reducible apply Box.drew | with_reducible apply Box.alloc | with_reducible apply Box.set | (with_reducible apply Box.set_other; case hg => omega)))); rfl)), (by first | with_reducible assumption | (apply Box.as; (focus (repeat (first | with_reducible assumption | (with_reducible apply Box.new; simp; done) | with_reducible apply Box.gw | with_reducible apply Box.drew | with_reducible apply Box.alloc | with_reducible apply Box.set | (with_reducible apply Box.set_other; case hg => omega)))); rfl))⟩ ?_
    rintro W0 ⟨hW0, xA, xR, xG, xH⟩
    refine wp_region_V (fun u1 u2 => Bar (w.heap.size + 1) u1 u2) (by kernel_rfl) ?_
    have hTr : ∀ u1 u2 u3 : World, Bar (w.heap.size + 1) u1 u2 → Bar (w.heap.size + 1) u2 u3 → Bar (w.heap.size + 1) u1 u3 := fun _ _ _ h1 h2 => Bar.trans h1 h2
    have hGr : ∀ u1 u2 : World, Gr u1 u2 → Bar (w.heap.size + 1) u1 u2 := fun _ _ h1 => Below.bar _ h1
    have hcur : Bar (w.heap.size + 1) W0 W0.drew := Bar.drew (Bar.refl _ _)
    have hgw : Below w.heap.size w W0.drew := hW0.drew
    have xR6 : Box W0.drew (w.heap.size + 1) #[.string ⟨#[]⟩, .string ⟨#[]⟩, .slice none 0 0] 35 := xR
    generalize W0.drew = W6 at *
    refine wpAnyV_takeS hTr hGr (A := ?A0t27) 0 rfl (by kernel_rfl) (by kernel_rfl) (by kernel_rfl) (fun _ _ _ _ h => h) ?q0t27 ?r0t27
    case q0t27 =>
      intro W hW
      have hWW := hcur.trans hW; have xa := xA.bar hWW (by omega); have xc := xa.cell; have xl := xa.lt; have xg := xG.bar hWW (by omega); have gc := xg.cell; have gl := xg.lt; have xh := xH.bar hWW (by omega); have hc := xh.cell; have hl := xh.lt
      try simp only [List.getElem_toArray, List.getElem_cons_zero, List.getElem_cons_succ]
      go_big_quiet_step (fail)
      refine wpQuiet_nil ?_
      rfl
    refine wpAnyV_takeS hTr hGr (A := ?A1t27) 1 rfl (by kernel_rfl) (by kernel_rfl) (by kernel_rfl) (fun _ _ _ _ h => h) ?q1t27 ?r1t27
    case q1t27 =>
      intro W hW
      try simp only [List.getElem_toArray, List.getElem_cons_zero, List.getElem_cons_succ]
      go_big_quiet_step ((go_at_call 43; with_reducible exact GW.call (cT _ _)))
      refine wpQuiet_nil ?_
      rfl
    refine wpAnyV_takeS hTr hGr (A := ?A2t27) 2 rfl (by kernel_rfl) (by kernel_rfl) (by kernel_rfl) (fun _ _ _ _ h => h) ?q2t27 ?r2t27
    case q2t27 =>
      intro W hW
      have hWW := hcur.trans hW; have xa := xA.bar hWW (by omega); have xc := xa.cell; have xl := xa.lt; have xg := xG.bar hWW (by omega); have gc := xg.cell; have gl := xg.lt; have xh := xH.bar hWW (by omega); have hc := xh.cell; have hl := xh.lt
      try simp only [List.getElem_toArray, List.getElem_cons_zero, List.getElem_cons_succ]
      go_big_quiet_step (fail)
      refine wpQuiet_nil ?_
      rfl
    refine wpAnyV_one 3 (by kernel_rfl) ?_
    intro W hW
    replace hgw := bl_trans hgw hW
    have xR7 := Box.past hW xR6
    have hRW := xR7.lt
    refine wpOp_step rfl (fun K hK => ?_)
    go_simp
    (with_reducible refine (cO W).mono ?_)
    rintro e wn ⟨v1, rfl, ho1, hbn⟩
    go_simp
    refine hK _ _ ⟨Below.bar _ hbn, ?_⟩
    clear hK K
    try simp only [Act.put, List.getElem_toArray, List.getElem_cons_zero, List.getElem_cons_succ, List.setIfInBounds_toArray, List.set_cons_zero, List.set_cons_succ]
    replace hgw := bl_trans hgw hbn
    have xR8 := Box.past hbn xR7
    refine wpAnyV_one 4 (by kernel_rfl) ?_
    intro W2 hW2
    replace hgw := bl_trans hgw hW2
    have xR9 := Box.past hW2 xR8
    have hc9 := xR9.cell
    have hf9 := xR9.free
    have hl9 := xR9.lt
    refine wpOp_step rfl (fun K hK => ?_)
    go_simp
    refine hK _ _ ⟨Bar3 _ _ _ _ _, ?_⟩
    clear hK K
    try simp only [Act.put, List.getElem_toArray, List.getElem_cons_zero, List.getElem_cons_succ, List.setIfInBounds_toArray, List.set_cons_zero, List.set_cons_succ]
    have yE := set3 xR9 (.string ⟨#[101, 115, 99, 97, 112, 101]⟩) (.string ⟨#[]⟩) (.slice q n c)
    have yB := Bar3 (w.heap.size + 1) W2 (.string ⟨#[101, 115, 99, 97, 112, 101]⟩) (.string ⟨#[]⟩) (.slice q n c)
    have ho2 := ((ho1.kept hW2).bar yB hRW).weaken (Nat.le_trans (by omega) (Nat.le_of_lt hRW) : w.heap.size ≤ W.heap.size)
    have hgE := Bar.to_below hgw yB (by omega)
    refine wpAnyV_takeS hTr hGr (A := ?A5t27) 5 rfl (by kernel_rfl) (by kernel_rfl) (by kernel_rfl) (fun _ _ _ _ h => h) ?q5t27 ?r5t27
    case q5t27 =>
      intro W hW
      try simp only [List.getElem_toArray, List.getElem_cons_zero, List.getElem_cons_succ]
      go_big_quiet_step (fail)
      refine wpQuiet_nil ?_
      rfl
    refine wpAnyV_done (by kernel_rfl) ?_ _
    intro W3 hW3
    have yE3 := Box.past hW3 yE
    have yEl := yE3.lt
    have ho3 := ho2.kept hW3
    go_wp2_with fail
    refine ret_row_tmp (n := 3) rfl rfl Try.underlying35 rfl (by kernel_rfl) rfl ⟨_, by simp (maxDischargeDepth := 6) [go_sem, Box.row yE3, yEl] <;> rfl, rfl, ?_⟩
    exact ⟨v1, [(txA sq, .slice none 0 0)], rfl, rfl, ho3, bl_trans hgE hW3⟩
  rw [if_neg h27]
  rw [if_neg (show ¬ (r = 24 ∨ r = 26) from fun k => k.elim h24 h26)]
  by_cases h7 : r = 7
  · subst h7
    rw [if_pos ⟨rfl, rfl⟩]
    show Calls Try.prog 21 #[.agg #[.string ⟨#[115, 116, 114, 105, 110, 103]⟩, .string (strOfNums sq), .slice q n c], .int .i32 7] w (RSt q n c w (⟨0, [], d⟩, [txA sq]))
    have cT : ∀ x W, Calls Try.prog 43 #[.agg #[.string ⟨#[115, 116, 114, 105, 110, 103]⟩, .string (strOfNums sq), .slice q n c], .string x] W fun e w' => e = .returned (.agg #[.string x, .string ⟨#[]⟩, .slice q n c]) ∧ Below W.heap.size W w' := fun x W => to_any ⟨#[115, 116, 114, 105, 110, 103]⟩ (strOfNums sq) x q n c W
    have cO : ∀ W, Calls Try.prog 44 #[.agg #[.int .i64 5, .int .i32 0, .int .i32 0, .string ⟨#[]⟩, .slice none 0 0, .string (strOfNums sq)]] W fun e w' => ∃ v, e = .returned v ∧ OwnX w' W.heap.size v [(txA sq, .slice none 0 0)] ∧ Below W.heap.size W w' := fun W => rone_any (txA sq) none 0 0 W.heap.size W (Own.nil _ _ _ _) (Nat.le_refl _) ⟨by simp [txA], hby⟩
    clear cR cV
    go_enter Try.func21, Try.ntmps21
    go_upto_region 14 with fail
    refine wp_name (fun Z => Below w.heap.size w Z ∧ Box Z w.heap.size #[.string ⟨#[115, 116, 114, 105, 110, 103]⟩, .string (strOfNums sq), .slice q n c] 35 ∧ Box Z (w.heap.size + 1) #[.string ⟨#[]⟩, .string ⟨#[]⟩, .slice none 0 0] 35 ∧ Box Z (w.heap.size + 2) #[.int .i64 5, .int .i32 0, .int .i32 0, .string ⟨#[]⟩, .slice none 0 0, .string (strOfNums sq)] 52 ∧ Box Z (w.heap.size + 3) #[.int .i64 2, .int .i32 7, .int .i32 0, .string ⟨#[]⟩, .slice none 0 0, .string ⟨#[]⟩] 52) ⟨(by repeat (first | with_reducible exact Below.refl _ _ | with_reducible assumption | with_reducible exact GW.grow _ | with_reducible refine bl_alloc ?_ _ | with_reducible refine Below.drew ?_ | (with_reducible refine Below.setCell ?_ ?_ _; rotate_left; focus (simp; first | done | omega)) | with_reducible refine bl_trans ?_ (GW.grow _) | (with_reducible refine bl_trans ?_ (by assumption)))), (by first | with_reducible assumption | (apply Box.as; (focus (repeat (first | with_reducible assumption | (with_reducible apply Box.new; simp; done) | with_reducible apply Box.gw | with_reducible apply Box.drew | with_reducible apply Box.alloc | with_reducible apply Box.set | (with_reducible apply Box.set_other; case hg => omega)))); rfl)), (by first | with_reducible assumption | (apply Box.as; (focus (repeat (first | with_reducible assumption | (with_reducible apply Box.new; simp; done) | with_reducible apply Box.gw | with_reducible apply Box.drew | with_reducible apply Box.alloc | with_reducible apply Box.set | (with_reducible apply Box.set_other; case hg => omega)))); rfl)), (by first | with_reducible assumption | (apply Box.as; (focus (repeat (first | with_reducible assumption | (with_reducible apply Box.new; simp; done) | with_reducible apply Box.gw | with_reducible apply Box.drew | with_reducible apply Box.alloc | with_reducible apply Box.set | (with_reducible apply Box.set_other; case hg => omega)))); rfl)), (by first | with_reducible assumption | (apply Box.as; (focus (repeat (first | with_reducible assumption | (with_reducible apply Box.new; simp; done) | with_reducible apply Box.gw | with_reducible apply Box.drew | with_reducible apply Box.alloc | with_reducible apply Box.set | (with_reducible apply Box.set_other; case hg => omega)))); rfl))⟩ ?_
    rintro W0 ⟨hW0, xA, xR, xG, xH⟩
    refine wp_region_V (fun u1 u2 => Bar (w.heap.size + 1) u1 u2) (by kernel_rfl) ?_
    have hTr : ∀ u1 u2 u3 : World, Bar (w.heap.size + 1) u1 u2 → Bar (w.heap.size + 1) u2 u3 → Bar (w.heap.size + 1) u1 u3 := fun _ _ _ h1 h2 => Bar.trans h1 h2
    have hGr : ∀ u1 u2 : World, Gr u1 u2 → Bar (w.heap.size + 1) u1 u2 := fun _ _ h1 => Below.bar _ h1
    have hcur : Bar (w.heap.size + 1) W0 W0.drew := Bar.drew (Bar.refl _ _)
    have hgw : Below w.heap.size w W0.drew := hW0.drew
    have xR6 : Box W0.drew (w.heap.size + 1) #[.string ⟨#[]⟩, .string ⟨#[]⟩, .slice none 0 0] 35 := xR
    generalize W0.drew = W6 at *
    refine wpAnyV_takeS hTr hGr (A := ?A0t7) 0 rfl (by kernel_rfl) (by kernel_rfl) (by kernel_rfl) (fun _ _ _ _ h => h) ?q0t7 ?r0t7
    case q0t7 =>
      intro W hW
      have hWW := hcur.trans hW; have xa := xA.bar hWW (by omega); have xc := xa.cell; have xl := xa.lt; have xg := xG.bar hWW (by omega); have gc := xg.cell; have gl := xg.lt; have xh := xH.bar hWW (by omega); have hc := xh.cell; have hl := xh.lt
      try simp only [List.getElem_toArray, List.getElem_cons_zero, List.getElem_cons_succ]
      go_big_quiet_step (fail)
      refine wpQuiet_nil ?_
      rfl
    refine wpAnyV_takeS hTr hGr (A := ?A1t7) 1 rfl (by kernel_rfl) (by kernel_rfl) (by kernel_rfl) (fun _ _ _ _ h => h) ?q1t7 ?r1t7
    case q1t7 =>
      intro W hW
      try simp only [List.getElem_toArray, List.getElem_cons_zero, List.getElem_cons_succ]
      go_big_quiet_step ((go_at_call 43; with_reducible exact GW.call (cT _ _)))
      refine wpQuiet_nil ?_
      rfl
    refine wpAnyV_takeS hTr hGr (A := ?A2t7) 2 rfl (by kernel_rfl) (by kernel_rfl) (by kernel_rfl) (fun _ _ _ _ h => h) ?q2t7 ?r2t7
    case q2t7 =>
      intro W hW
      have hWW := hcur.trans hW; have xa := xA.bar hWW (by omega); have xc := xa.cell; have xl := xa.lt; have xg := xG.bar hWW (by omega); have gc := xg.cell; have gl := xg.lt; have xh := xH.bar hWW (by omega); have hc := xh.cell; have hl := xh.lt
      try simp only [List.getElem_toArray, List.getElem_cons_zero, List.getElem_cons_succ]
      go_big_quiet_step (fail)
      refine wpQuiet_nil ?_
      rfl
    refine wpAnyV_one 3 (by kernel_rfl) ?_
    intro W hW
    replace hgw := bl_trans hgw hW
    have xR7 := Box.past hW xR6
    have hRW := xR7.lt
    refine wpOp_step rfl (fun K hK => ?_)
    go_simp
    (with_reducible refine (cO W).mono ?_)
    rintro e wn ⟨v1, rfl, ho1, hbn⟩
    go_simp
    refine hK _ _ ⟨Below.bar _ hbn, ?_⟩
    clear hK K
    try simp only [Act.put, List.getElem_toArray, List.getElem_cons_zero, List.getElem_cons_succ, List.setIfInBounds_toArray, List.set_cons_zero, List.set_cons_succ]
    replace hgw := bl_trans hgw hbn
    have xR8 := Box.past hbn xR7
    refine wpAnyV_one 4 (by kernel_rfl) ?_
    intro W2 hW2
    replace hgw := bl_trans hgw hW2
    have xR9 := Box.past hW2 xR8
    have hc9 := xR9.cell
    have hf9 := xR9.free
    have hl9 := xR9.lt
    refine wpOp_step rfl (fun K hK => ?_)
    go_simp
    refine hK _ _ ⟨Bar3 _ _ _ _ _, ?_⟩
    clear hK K
    try simp only [Act.put, List.getElem_toArray, List.getElem_cons_zero, List.getElem_cons_succ, List.setIfInBounds_toArray, List.set_cons_zero, List.set_cons_succ]
    have yE := set3 xR9 (.string ⟨#[]⟩) (.string ⟨#[]⟩) (.slice q n c)
    have yB := Bar3 (w.heap.size + 1) W2 (.string ⟨#[]⟩) (.string ⟨#[]⟩) (.slice q n c)
    have ho2 := ((ho1.kept hW2).bar yB hRW).weaken (Nat.le_trans (by omega) (Nat.le_of_lt hRW) : w.heap.size ≤ W.heap.size)
    have hgE := Bar.to_below hgw yB (by omega)
    refine wpAnyV_takeS hTr hGr (A := ?A5t7) 5 rfl (by kernel_rfl) (by kernel_rfl) (by kernel_rfl) (fun _ _ _ _ h => h) ?q5t7 ?r5t7
    case q5t7 =>
      intro W hW
      try simp only [List.getElem_toArray, List.getElem_cons_zero, List.getElem_cons_succ]
      go_big_quiet_step (fail)
      refine wpQuiet_nil ?_
      rfl
    refine wpAnyV_done (by kernel_rfl) ?_ _
    intro W3 hW3
    have yE3 := Box.past hW3 yE
    have yEl := yE3.lt
    have ho3 := ho2.kept hW3
    go_wp2_with fail
    refine ret_row_tmp (n := 3) rfl rfl Try.underlying35 rfl (by kernel_rfl) rfl ⟨_, by simp (maxDischargeDepth := 6) [go_sem, Box.row yE3, yEl] <;> rfl, rfl, ?_⟩
    exact ⟨v1, [(txA sq, .slice none 0 0)], rfl, rfl, ho3, bl_trans hgE hW3⟩
  rw [if_neg (show ¬ ((3 : Nat) = 3 ∧ r = 7) from fun k => h7 k.2), if_pos rfl]
  have b7 : (r == 7) = false := by rw [beq_eq_false_iff_ne]; exact h7
  have cVg : ∀ W, Calls Try.prog 45 #[.int .i32 r] W fun e w' => e = .returned (.bool (validR r)) ∧ Below W.heap.size W w' := fun W => (validRef_any r W).mono (by rintro e w' ⟨rfl, rfl⟩; exact ⟨rfl, Below.refl _ _⟩)
  by_cases h32 : r < 32
  · rw [if_pos (.inl h32)]
    have e128 : ¬ 128 ≤ r := by omega
    clear cR
    show Calls Try.prog 21 #[.agg #[.string ⟨#[115, 116, 114, 105, 110, 103]⟩, .string (strOfNums sq), .slice q n c], .int .i32 r] w (RSt q n c w (⟨3, sq, d⟩, []))
    go_enter Try.func21, Try.ntmps21
    go_wp2_with fail
    first | refine wp_grow2 (by kernel_rfl) (by kernel_rfl) ?_ | refine wp_grow (by kernel_rfl) (by kernel_rfl) ?_
    repeat (go_big_quiet_step ((go_at_call 45; with_reducible exact GW.call (cVg _))))
    refine wpQuiet_nil ?_
    rintro _ ⟨X, rfl⟩
    go_wp2_with fail
    refine ret_row_tmp (n := 3) rfl rfl Try.underlying35 rfl (by kernel_rfl) rfl ⟨_, by simp (maxDischargeDepth := 6) [go_sem] <;> rfl, rfl, ?_⟩
    exact ⟨.slice none 0 0, [], rfl, rfl, OwnX.nil _ _, (by repeat (first | with_reducible exact Below.refl _ _ | with_reducible assumption | with_reducible exact GW.grow _ | with_reducible refine bl_alloc ?_ _ | with_reducible refine Below.drew ?_ | (with_reducible refine Below.setCell ?_ ?_ _; rotate_left; focus (simp; first | done | omega)) | with_reducible refine bl_trans ?_ (GW.grow _) | (with_reducible refine bl_trans ?_ (by assumption))))⟩
  by_cases h127 : r = 127
  · subst h127
    rw [if_pos (.inr (.inl rfl))]
    show Calls Try.prog 21 #[.agg #[.string ⟨#[115, 116, 114, 105, 110, 103]⟩, .string (strOfNums sq), .slice q n c], .int .i32 127] w (RSt q n c w (⟨3, sq, d⟩, []))
    go_enter Try.func21, Try.ntmps21
    go_wp2_with fail
    first | refine wp_grow2 (by kernel_rfl) (by kernel_rfl) ?_ | refine wp_grow (by kernel_rfl) (by kernel_rfl) ?_
    repeat (go_big_quiet_step ((go_at_call 45; with_reducible exact GW.call (cVg _))))
    refine wpQuiet_nil ?_
    rintro _ ⟨X, rfl⟩
    go_wp2_with fail
    refine ret_row_tmp (n := 3) rfl rfl Try.underlying35 rfl (by kernel_rfl) rfl ⟨_, by simp (maxDischargeDepth := 6) [go_sem] <;> rfl, rfl, ?_⟩
    exact ⟨.slice none 0 0, [], rfl, rfl, OwnX.nil _ _, (by repeat (first | with_reducible exact Below.refl _ _ | with_reducible assumption | with_reducible exact GW.grow _ | with_reducible refine bl_alloc ?_ _ | with_reducible refine Below.drew ?_ | (with_reducible refine Below.setCell ?_ ?_ _; rotate_left; focus (simp; first | done | omega)) | with_reducible refine bl_trans ?_ (GW.grow _) | (with_reducible refine bl_trans ?_ (by assumption))))⟩
  have b127 : (r == 127) = false := by rw [beq_eq_false_iff_ne]; exact h127
  cases hv : validR r
  · rw [if_pos (.inr (.inr (.inl rfl)))]
    rw [hv] at cVg
    show Calls Try.prog 21 #[.agg #[.string ⟨#[115, 116, 114, 105, 110, 103]⟩, .string (strOfNums sq), .slice q n c], .int .i32 r] w (RSt q n c w (⟨3, sq, d⟩, []))
    by_cases e128 : 128 ≤ r
    · have e160 : 160 ≤ r := by omega
      have e16 : ¬ r < 160 := by omega
      clear cR
      go_enter Try.func21, Try.ntmps21
      go_wp2_with fail
      have q32 : ¬ r < 32 := by omega
      have q127 : (r == 127) = false := by rw [beq_eq_false_iff_ne]; omega
      first | refine wp_grow2 (by kernel_rfl) (by kernel_rfl) ?_ | refine wp_grow (by kernel_rfl) (by kernel_rfl) ?_
      repeat (go_big_quiet_step ((go_at_call 45; with_reducible exact GW.call (cVg _))))
      refine wpQuiet_nil ?_
      rintro _ ⟨X, rfl⟩
      go_wp2_with fail
      refine ret_row_tmp (n := 3) rfl rfl Try.underlying35 rfl (by kernel_rfl) rfl ⟨_, by simp (maxDischargeDepth := 6) [go_sem] <;> rfl, rfl, ?_⟩
      exact ⟨.slice none 0 0, [], rfl, rfl, OwnX.nil _ _, (by repeat (first | with_reducible exact Below.refl _ _ | with_reducible assumption | with_reducible exact GW.grow _ | with_reducible refine bl_alloc ?_ _ | with_reducible refine Below.drew ?_ | (with_reducible refine Below.setCell ?_ ?_ _; rotate_left; focus (simp; first | done | omega)) | with_reducible refine bl_trans ?_ (GW.grow _) | (with_reducible refine bl_trans ?_ (by assumption))))⟩
    · clear cR
      go_enter Try.func21, Try.ntmps21
      go_wp2_with fail
      have q32 : ¬ r < 32 := by omega
      have q127 : (r == 127) = false := by rw [beq_eq_false_iff_ne]; omega
      first | refine wp_grow2 (by kernel_rfl) (by kernel_rfl) ?_ | refine wp_grow (by kernel_rfl) (by kernel_rfl) ?_
      repeat (go_big_quiet_step ((go_at_call 45; with_reducible exact GW.call (cVg _))))
      refine wpQuiet_nil ?_
      rintro _ ⟨X, rfl⟩
      go_wp2_with fail
      refine ret_row_tmp (n := 3) rfl rfl Try.underlying35 rfl (by kernel_rfl) rfl ⟨_, by simp (maxDischargeDepth := 6) [go_sem] <;> rfl, rfl, ?_⟩
      exact ⟨.slice none 0 0, [], rfl, rfl, OwnX.nil _ _, (by repeat (first | with_reducible exact Below.refl _ _ | with_reducible assumption | with_reducible exact GW.grow _ | with_reducible refine bl_alloc ?_ _ | with_reducible refine Below.drew ?_ | (with_reducible refine Below.setCell ?_ ?_ _; rotate_left; focus (simp; first | done | omega)) | with_reducible refine bl_trans ?_ (GW.grow _) | (with_reducible refine bl_trans ?_ (by assumption))))⟩
  rw [hv] at cVg
  have cB := fun W => bytes_any r W
  have hel := enc1_len r
  by_cases hlong : 1024 < sq.length + (enc1 r).length
  · rw [if_pos (.inr (.inr (.inr hlong)))]
    have hlI : (1024 : Int) < (sq.length : Int) + ((enc1 r).length : Int) := by omega
    show Calls Try.prog 21 #[.agg #[.string ⟨#[115, 116, 114, 105, 110, 103]⟩, .string (strOfNums sq), .slice q n c], .int .i32 r] w (RSt q n c w (⟨3, sq, d⟩, []))
    by_cases e128 : 128 ≤ r
    · have e160 : 160 ≤ r := by omega
      have e16 : ¬ r < 160 := by omega
      clear cR
      go_enter Try.func21, Try.ntmps21
      go_upto_region 16 with fail
      refine wp_name (fun Z => Below w.heap.size w Z ∧ Box Z w.heap.size #[.string ⟨#[115, 116, 114, 105, 110, 103]⟩, .string (strOfNums sq), .slice q n c] 35 ∧ Box Z (w.heap.size + 1) #[.string ⟨#[]⟩, .string ⟨#[]⟩, .slice none 0 0] 35) ⟨(by repeat (first | with_reducible exact Below.refl _ _ | with_reducible assumption | with_reducible exact GW.grow _ | with_reducible refine bl_alloc ?_ _ | with_reducible refine Below.drew ?_ | (with_reducible refine Below.setCell ?_ ?_ _; rotate_left; focus (simp; first | done | omega)) | with_reducible refine bl_trans ?_ (GW.grow _) | (with_reducible refine bl_trans ?_ (by assumption)))), (by first | with_reducible assumption | (apply Box.as; (focus (repeat (first | with_reducible assumption | (with_reducible apply Box.new; simp; done) | with_reducible apply Box.gw | with_reducible apply Box.drew | with_reducible apply Box.alloc | with_reducible apply Box.set | (with_reducible apply Box.set_other; case hg => omega)))); rfl)), (by first | with_reducible assumption | (apply Box.as; (focus (repeat (first | with_reducible assumption | (with_reducible apply Box.new; simp; done) | with_reducible apply Box.gw | with_reducible apply Box.drew | with_reducible apply Box.alloc | with_reducible apply Box.set | (with_reducible apply Box.set_other; case hg => omega)))); rfl))⟩ ?_
      rintro W0 ⟨hW0, xA, xR⟩
      refine wp_region_V Gr (by kernel_rfl) ?_
      have hB : Below W0.heap.size W0 W0.drew := (Below.refl _ _).drew
      generalize W0.drew = W6 at *
      have xc := (Box.past hB xA).cell
      have xl := (Box.past hB xA).lt
      have q32 : ¬ r < 32 := by omega
      have q127 : (r == 127) = false := by rw [beq_eq_false_iff_ne]; omega
      refine wpAnyV_takeG (A := ?A0gp) 0 rfl (by kernel_rfl) (by kernel_rfl) (by kernel_rfl) (fun _ _ _ _ h => h) ?q0gp ?r0gp
      case q0gp =>
        intro Y
        try simp only [List.getElem_toArray, List.getElem_cons_zero, List.getElem_cons_succ]
        go_big_quiet_step (fail)
        refine wpQuiet_nil ?_
        rfl
      refine wpAnyV_takeG (A := ?A1gp) 1 rfl (by kernel_rfl) (by kernel_rfl) (by kernel_rfl) (fun _ _ _ _ h => h) ?q1gp ?r1gp
      case q1gp =>
        intro Y
        try simp only [List.getElem_toArray, List.getElem_cons_zero, List.getElem_cons_succ]
        go_big_quiet_step (fail)
        refine wpQuiet_nil ?_
        rfl
      refine wpAnyV_takeG (A := ?A2gp) 2 rfl (by kernel_rfl) (by kernel_rfl) (by kernel_rfl) (fun _ _ _ _ h => h) ?q2gp ?r2gp
      case q2gp =>
        intro Y
        try simp only [List.getElem_toArray, List.getElem_cons_zero, List.getElem_cons_succ]
        go_big_quiet_step (fail)
        refine wpQuiet_nil ?_
        rfl
      refine wpAnyV_takeG (A := ?A3gp) 3 rfl (by kernel_rfl) (by kernel_rfl) (by kernel_rfl) (fun _ _ _ _ h => h) ?q3gp ?r3gp
      case q3gp =>
        intro Y
        try simp only [List.getElem_toArray, List.getElem_cons_zero, List.getElem_cons_succ]
        go_big_quiet_step (fail)
        refine wpQuiet_nil ?_
        rfl
      refine wpAnyV_takeG (A := ?A4gp) 4 rfl (by kernel_rfl) (by kernel_rfl) (by kernel_rfl) (fun _ _ _ _ h => h) ?q4gp ?r4gp
      case q4gp =>
        intro Y
        try simp only [List.getElem_toArray, List.getElem_cons_zero, List.getElem_cons_succ]
        go_big_quiet_step (fail)
        refine wpQuiet_nil ?_
        rfl
      refine wpAnyV_takeG (A := ?A5gp) 5 rfl (by kernel_rfl) (by kernel_rfl) (by kernel_rfl) (fun _ _ _ _ h => h) ?q5gp ?r5gp
      case q5gp =>
        intro Y
        try simp only [List.getElem_toArray, List.getElem_cons_zero, List.getElem_cons_succ]
        go_big_quiet_step (fail)
        refine wpQuiet_nil ?_
        rfl
      refine wpAnyV_takeG (A := ?A6gp) 6 rfl (by kernel_rfl) (by kernel_rfl) (by kernel_rfl) (fun _ _ _ _ h => h) ?q6gp ?r6gp
      case q6gp =>
        intro Y
        try simp only [List.getElem_toArray, List.getElem_cons_zero, List.getElem_cons_succ]
        go_big_quiet_step (fail)
        refine wpQuiet_nil ?_
        rfl
      refine wpAnyV_takeG (A := ?A7gp) 7 rfl (by kernel_rfl) (by kernel_rfl) (by kernel_rfl) (fun _ _ _ _ h => h) ?q7gp ?r7gp
      case q7gp =>
        intro Y
        try simp only [List.getElem_toArray, List.getElem_cons_zero, List.getElem_cons_succ]
        go_big_quiet_step (fail)
        refine wpQuiet_nil ?_
        rfl
      refine wpAnyV_takeG (A := ?A8gp) 8 rfl (by kernel_rfl) (by kernel_rfl) (by kernel_rfl) (fun _ _ _ _ h => h) ?q8gp ?r8gp
      case q8gp =>
        intro Y
        try simp only [List.getElem_toArray, List.getElem_cons_zero, List.getElem_cons_succ]
        go_big_quiet_step ((go_at_call 45; with_reducible exact GW.call (cVg _)))
        refine wpQuiet_nil ?_
        rfl
      refine wpAnyV_takeG (A := ?A9gp) 9 rfl (by kernel_rfl) (by kernel_rfl) (by kernel_rfl) (fun _ _ _ _ h => h) ?q9gp ?r9gp
      case q9gp =>
        intro Y
        try simp only [List.getElem_toArray, List.getElem_cons_zero, List.getElem_cons_succ]
        go_big_quiet_step (fail)
        refine wpQuiet_nil ?_
        rfl
      refine wpAnyV_takeG (A := ?A10gp) 10 rfl (by kernel_rfl) (by kernel_rfl) (by kernel_rfl) (fun _ _ _ _ h => h) ?q10gp ?r10gp
      case q10gp =>
        intro Y
        try simp only [List.getElem_toArray, List.getElem_cons_zero, List.getElem_cons_succ]
        go_big_quiet_step (fail)
        refine wpQuiet_nil ?_
        rfl
      refine wpAnyV_takeG (A := ?A11gp) 11 rfl (by kernel_rfl) (by kernel_rfl) (by kernel_rfl) (fun _ _ _ _ h => h) ?q11gp ?r11gp
      case q11gp =>
        intro Y
        try simp only [List.getElem_toArray, List.getElem_cons_zero, List.getElem_cons_succ]
        go_big_quiet_step (fail)
        refine wpQuiet_nil ?_
        rfl
      refine wpAnyV_takeG (A := ?A12gp) 12 rfl (by kernel_rfl) (by kernel_rfl) (by kernel_rfl) (fun _ _ _ _ h => h) ?q12gp ?r12gp
      case q12gp =>
        intro Y
        try simp only [List.getElem_toArray, List.getElem_cons_zero, List.getElem_cons_succ]
        go_big_quiet_step (fail)
        refine wpQuiet_nil ?_
        rfl
      refine wpAnyV_takeG (A := ?A13gp) 13 rfl (by kernel_rfl) (by kernel_rfl) (by kernel_rfl) (fun _ _ _ _ h => h) ?q13gp ?r13gp
      case q13gp =>
        intro Y
        try simp only [List.getElem_toArray, List.getElem_cons_zero, List.getElem_cons_succ]
        go_big_quiet_step (fail)
        refine wpQuiet_nil ?_
        rfl
      refine wpAnyV_takeG (A := ?A14gp) 14 rfl (by kernel_rfl) (by kernel_rfl) (by kernel_rfl) (fun _ _ _ _ h => h) ?q14gp ?r14gp
      case q14gp =>
        intro Y
        try simp only [List.getElem_toArray, List.getElem_cons_zero, List.getElem_cons_succ]
        go_big_quiet_step (fail)
        refine wpQuiet_nil ?_
        rfl
      refine wpAnyV_takeG (A := ?A15gp) 15 rfl (by kernel_rfl) (by kernel_rfl) (by kernel_rfl) (fun _ _ _ _ h => h) ?q15gp ?r15gp
      case q15gp =>
        intro Y
        try simp only [List.getElem_toArray, List.getElem_cons_zero, List.getElem_cons_succ]
        go_big_quiet_step (fail)
        refine wpQuiet_nil ?_
        rfl
      refine wpAnyV_one 16 (by kernel_rfl) ?_
      intro W hW
      replace hB := bl_trans hB hW
      refine wpOp_step rfl (fun K hK => ?_)
      go_simp
      (with_reducible refine (cB _).mono ?_)
      rintro e wn ⟨vb, rfl, hob, hbn⟩
      obtain ⟨qb, nb, hvb⟩ := Rd.lits hob.rd
      subst hvb
      go_simp
      refine hK _ _ ⟨hbn, ?_⟩
      clear hK K
      try simp only [Act.put, List.getElem_toArray, List.getElem_cons_zero, List.getElem_cons_succ, List.setIfInBounds_toArray, List.set_cons_zero, List.set_cons_succ]
      replace hB := bl_trans hB hbn
      clear xc xl
      have xc := (Box.past hB xA).cell
      have xl := (Box.past hB xA).lt
      refine wpAnyV_takeG (A := ?A17gp) 17 rfl (by kernel_rfl) (by kernel_rfl) (by kernel_rfl) (fun _ _ _ _ h => h) ?q17gp ?r17gp
      case q17gp =>
        intro Y
        try simp only [List.getElem_toArray, List.getElem_cons_zero, List.getElem_cons_succ]
        go_big_quiet_step (fail)
        refine wpQuiet_nil ?_
        rfl
      refine wpAnyV_takeG (A := ?A18gp) 18 rfl (by kernel_rfl) (by kernel_rfl) (by kernel_rfl) (fun _ _ _ _ h => h) ?q18gp ?r18gp
      case q18gp =>
        intro Y
        try simp only [List.getElem_toArray, List.getElem_cons_zero, List.getElem_cons_succ]
        go_big_quiet_step (fail)
        refine wpQuiet_nil ?_
        rfl
      refine wpAnyV_takeG (A := ?A19gp) 19 rfl (by kernel_rfl) (by kernel_rfl) (by kernel_rfl) (fun _ _ _ _ h => h) ?q19gp ?r19gp
      case q19gp =>
        intro Y
        try simp only [List.getElem_toArray, List.getElem_cons_zero, List.getElem_cons_succ]
        go_big_quiet_step (fail)
        refine wpQuiet_nil ?_
        rfl
      refine wpAnyV_takeG (A := ?A20gp) 20 rfl (by kernel_rfl) (by kernel_rfl) (by kernel_rfl) (fun _ _ _ _ h => h) ?q20gp ?r20gp
      case q20gp =>
        intro Y
        try simp only [List.getElem_toArray, List.getElem_cons_zero, List.getElem_cons_succ]
        go_big_quiet_step (fail)
        refine wpQuiet_nil ?_
        rfl
      refine wpAnyV_done (by kernel_rfl) ?_ _
      intro W2 hW2
      replace hB := bl_trans hB hW2
      clear hW2 xc xl
      have yA := Box.past hB xA
      have yR := Box.past hB xR
      have xc := yA.cell
      have xl := yA.lt
      have rc := yR.cell
      have rl := yR.lt
      have rf := yR.free
      have yE := set3 yR (.string ⟨#[115, 116, 114, 105, 110, 103]⟩) (.string (strOfNums sq)) (.slice q n c)
      have yEl := yE.lt
      go_wp2_with fail
      refine ret_row_tmp (n := 3) rfl rfl Try.underlying35 rfl (by kernel_rfl) rfl ⟨_, by simp (maxDischargeDepth := 6) [go_sem, Box.row yE, yEl] <;> rfl, rfl, ?_⟩
      exact ⟨.slice none 0 0, [], rfl, rfl, OwnX.nil _ _, Bar.to_below (bl_trans hW0 hB) (Bar3 _ _ _ _ _) (by omega)⟩
    · clear cR
      go_enter Try.func21, Try.ntmps21
      go_upto_region 16 with fail
      refine wp_name (fun Z => Below w.heap.size w Z ∧ Box Z w.heap.size #[.string ⟨#[115, 116, 114, 105, 110, 103]⟩, .string (strOfNums sq), .slice q n c] 35 ∧ Box Z (w.heap.size + 1) #[.string ⟨#[]⟩, .string ⟨#[]⟩, .slice none 0 0] 35) ⟨(by repeat (first | with_reducible exact Below.refl _ _ | with_reducible assumption | with_reducible exact GW.grow _ | with_reducible refine bl_alloc ?_ _ | with_reducible refine Below.drew ?_ | (with_reducible refine Below.setCell ?_ ?_ _; rotate_left; focus (simp; first | done | omega)) | with_reducible refine bl_trans ?_ (GW.grow _) | (with_reducible refine bl_trans ?_ (by assumption)))), (by first | with_reducible assumption | (apply Box.as; (focus (repeat (first | with_reducible assumption | (with_reducible apply Box.new; simp; done) | with_reducible apply Box.gw | with_reducible apply Box.drew | with_reducible apply Box.alloc | with_reducible apply Box.set | (with_reducible apply Box.set_other; case hg => omega)))); rfl)), (by first | with_reducible assumption | (apply Box.as; (focus (repeat (first | with_reducible assumption | (with_reducible apply Box.new; simp; done) | with_reducible apply Box.gw | with_reducible apply Box.drew | with_reducible apply Box.alloc | with_reducible apply Box.set | (with_reducible apply Box.set_other; case hg => omega)))); rfl))⟩ ?_
      rintro W0 ⟨hW0, xA, xR⟩
      refine wp_region_V Gr (by kernel_rfl) ?_
      have hB : Below W0.heap.size W0 W0.drew := (Below.refl _ _).drew
      generalize W0.drew = W6 at *
      have xc := (Box.past hB xA).cell
      have xl := (Box.past hB xA).lt
      have q32 : ¬ r < 32 := by omega
      have q127 : (r == 127) = false := by rw [beq_eq_false_iff_ne]; omega
      refine wpAnyV_takeG (A := ?A0gm) 0 rfl (by kernel_rfl) (by kernel_rfl) (by kernel_rfl) (fun _ _ _ _ h => h) ?q0gm ?r0gm
      case q0gm =>
        intro Y
        try simp only [List.getElem_toArray, List.getElem_cons_zero, List.getElem_cons_succ]
        go_big_quiet_step (fail)
        refine wpQuiet_nil ?_
        rfl
      refine wpAnyV_takeG (A := ?A1gm) 1 rfl (by kernel_rfl) (by kernel_rfl) (by kernel_rfl) (fun _ _ _ _ h => h) ?q1gm ?r1gm
      case q1gm =>
        intro Y
        try simp only [List.getElem_toArray, List.getElem_cons_zero, List.getElem_cons_succ]
        go_big_quiet_step (fail)
        refine wpQuiet_nil ?_
        rfl
      refine wpAnyV_takeG (A := ?A2gm) 2 rfl (by kernel_rfl) (by kernel_rfl) (by kernel_rfl) (fun _ _ _ _ h => h) ?q2gm ?r2gm
      case q2gm =>
        intro Y
        try simp only [List.getElem_toArray, List.getElem_cons_zero, List.getElem_cons_succ]
        go_big_quiet_step (fail)
        refine wpQuiet_nil ?_
        rfl
      refine wpAnyV_takeG (A := ?A3gm) 3 rfl (by kernel_rfl) (by kernel_rfl) (by kernel_rfl) (fun _ _ _ _ h => h) ?q3gm ?r3gm
      case q3gm =>
        intro Y
        try simp only [List.getElem_toArray, List.getElem_cons_zero, List.getElem_cons_succ]
        go_big_quiet_step (fail)
        refine wpQuiet_nil ?_
        rfl
      refine wpAnyV_takeG (A := ?A4gm) 4 rfl (by kernel_rfl) (by kernel_rfl) (by kernel_rfl) (fun _ _ _ _ h => h) ?q4gm ?r4gm
      case q4gm =>
        intro Y
        try simp only [List.getElem_toArray, List.getElem_cons_zero, List.getElem_cons_succ]
        go_big_quiet_step (fail)
        refine wpQuiet_nil ?_
        rfl
      refine wpAnyV_takeG (A := ?A5gm) 5 rfl (by kernel_rfl) (by kernel_rfl) (by kernel_rfl) (fun _ _ _ _ h => h) ?q5gm ?r5gm
      case q5gm =>
        intro Y
        try simp only [List.getElem_toArray, List.getElem_cons_zero, List.getElem_cons_succ]
        go_big_quiet_step (fail)
        refine wpQuiet_nil ?_
        rfl
      refine wpAnyV_takeG (A := ?A6gm) 6 rfl (by kernel_rfl) (by kernel_rfl) (by kernel_rfl) (fun _ _ _ _ h => h) ?q6gm ?r6gm
      case q6gm =>
        intro Y
        try simp only [List.getElem_toArray, List.getElem_cons_zero, List.getElem_cons_succ]
        go_big_quiet_step (fail)
        refine wpQuiet_nil ?_
        rfl
      refine wpAnyV_takeG (A := ?A7gm) 7 rfl (by kernel_rfl) (by kernel_rfl) (by kernel_rfl) (fun _ _ _ _ h => h) ?q7gm ?r7gm
      case q7gm =>
        intro Y
        try simp only [List.getElem_toArray, List.getElem_cons_zero, List.getElem_cons_succ]
        go_big_quiet_step (fail)
        refine wpQuiet_nil ?_
        rfl
      refine wpAnyV_takeG (A := ?A8gm) 8 rfl (by kernel_rfl) (by kernel_rfl) (by kernel_rfl) (fun _ _ _ _ h => h) ?q8gm ?r8gm
      case q8gm =>
        intro Y
        try simp only [List.getElem_toArray, List.getElem_cons_zero, List.getElem_cons_succ]
        go_big_quiet_step ((go_at_call 45; with_reducible exact GW.call (cVg _)))
        refine wpQuiet_nil ?_
        rfl
      refine wpAnyV_takeG (A := ?A9gm) 9 rfl (by kernel_rfl) (by kernel_rfl) (by kernel_rfl) (fun _ _ _ _ h => h) ?q9gm ?r9gm
      case q9gm =>
        intro Y
        try simp only [List.getElem_toArray, List.getElem_cons_zero, List.getElem_cons_succ]
        go_big_quiet_step (fail)
        refine wpQuiet_nil ?_
        rfl
      refine wpAnyV_takeG (A := ?A10gm) 10 rfl (by kernel_rfl) (by kernel_rfl) (by kernel_rfl) (fun _ _ _ _ h => h) ?q10gm ?r10gm
      case q10gm =>
        intro Y
        try simp only [List.getElem_toArray, List.getElem_cons_zero, List.getElem_cons_succ]
        go_big_quiet_step (fail)
        refine wpQuiet_nil ?_
        rfl
      refine wpAnyV_takeG (A := ?A11gm) 11 rfl (by kernel_rfl) (by kernel_rfl) (by kernel_rfl) (fun _ _ _ _ h => h) ?q11gm ?r11gm
      case q11gm =>
        intro Y
        try simp only [List.getElem_toArray, List.getElem_cons_zero, List.getElem_cons_succ]
        go_big_quiet_step (fail)
        refine wpQuiet_nil ?_
        rfl
      refine wpAnyV_takeG (A := ?A12gm) 12 rfl (by kernel_rfl) (by kernel_rfl) (by kernel_rfl) (fun _ _ _ _ h => h) ?q12gm ?r12gm
      case q12gm =>
        intro Y
        try simp only [List.getElem_toArray, List.getElem_cons_zero, List.getElem_cons_succ]
        go_big_quiet_step (fail)
        refine wpQuiet_nil ?_
        rfl
      refine wpAnyV_takeG (A := ?A13gm) 13 rfl (by kernel_rfl) (by kernel_rfl) (by kernel_rfl) (fun _ _ _ _ h => h) ?q13gm ?r13gm
      case q13gm =>
        intro Y
        try simp only [List.getElem_toArray, List.getElem_cons_zero, List.getElem_cons_succ]
        go_big_quiet_step (fail)
        refine wpQuiet_nil ?_
        rfl
      refine wpAnyV_takeG (A := ?A14gm) 14 rfl (by kernel_rfl) (by kernel_rfl) (by kernel_rfl) (fun _ _ _ _ h => h) ?q14gm ?r14gm
      case q14gm =>
        intro Y
        try simp only [List.getElem_toArray, List.getElem_cons_zero, List.getElem_cons_succ]
        go_big_quiet_step (fail)
        refine wpQuiet_nil ?_
        rfl
      refine wpAnyV_takeG (A := ?A15gm) 15 rfl (by kernel_rfl) (by kernel_rfl) (by kernel_rfl) (fun _ _ _ _ h => h) ?q15gm ?r15gm
      case q15gm =>
        intro Y
        try simp only [List.getElem_toArray, List.getElem_cons_zero, List.getElem_cons_succ]
        go_big_quiet_step (fail)
        refine wpQuiet_nil ?_
        rfl
      refine wpAnyV_one 16 (by kernel_rfl) ?_
      intro W hW
      replace hB := bl_trans hB hW
      refine wpOp_step rfl (fun K hK => ?_)
      go_simp
      (with_reducible refine (cB _).mono ?_)
      rintro e wn ⟨vb, rfl, hob, hbn⟩
      obtain ⟨qb, nb, hvb⟩ := Rd.lits hob.rd
      subst hvb
      go_simp
      refine hK _ _ ⟨hbn, ?_⟩
      clear hK K
      try simp only [Act.put, List.getElem_toArray, List.getElem_cons_zero, List.getElem_cons_succ, List.setIfInBounds_toArray, List.set_cons_zero, List.set_cons_succ]
      replace hB := bl_trans hB hbn
      clear xc xl
      have xc := (Box.past hB xA).cell
      have xl := (Box.past hB xA).lt
      refine wpAnyV_takeG (A := ?A17gm) 17 rfl (by kernel_rfl) (by kernel_rfl) (by kernel_rfl) (fun _ _ _ _ h => h) ?q17gm ?r17gm
      case q17gm =>
        intro Y
        try simp only [List.getElem_toArray, List.getElem_cons_zero, List.getElem_cons_succ]
        go_big_quiet_step (fail)
        refine wpQuiet_nil ?_
        rfl
      refine wpAnyV_takeG (A := ?A18gm) 18 rfl (by kernel_rfl) (by kernel_rfl) (by kernel_rfl) (fun _ _ _ _ h => h) ?q18gm ?r18gm
      case q18gm =>
        intro Y
        try simp only [List.getElem_toArray, List.getElem_cons_zero, List.getElem_cons_succ]
        go_big_quiet_step (fail)
        refine wpQuiet_nil ?_
        rfl
      refine wpAnyV_takeG (A := ?A19gm) 19 rfl (by kernel_rfl) (by kernel_rfl) (by kernel_rfl) (fun _ _ _ _ h => h) ?q19gm ?r19gm
      case q19gm =>
        intro Y
        try simp only [List.getElem_toArray, List.getElem_cons_zero, List.getElem_cons_succ]
        go_big_quiet_step (fail)
        refine wpQuiet_nil ?_
        rfl
      refine wpAnyV_takeG (A := ?A20gm) 20 rfl (by kernel_rfl) (by kernel_rfl) (by kernel_rfl) (fun _ _ _ _ h => h) ?q20gm ?r20gm
      case q20gm =>
        intro Y
        try simp only [List.getElem_toArray, List.getElem_cons_zero, List.getElem_cons_succ]
        go_big_quiet_step (fail)
        refine wpQuiet_nil ?_
        rfl
      refine wpAnyV_done (by kernel_rfl) ?_ _
      intro W2 hW2
      replace hB := bl_trans hB hW2
      clear hW2 xc xl
      have yA := Box.past hB xA
      have yR := Box.past hB xR
      have xc := yA.cell
      have xl := yA.lt
      have rc := yR.cell
      have rl := yR.lt
      have rf := yR.free
      have yE := set3 yR (.string ⟨#[115, 116, 114, 105, 110, 103]⟩) (.string (strOfNums sq)) (.slice q n c)
      have yEl := yE.lt
      go_wp2_with fail
      refine ret_row_tmp (n := 3) rfl rfl Try.underlying35 rfl (by kernel_rfl) rfl ⟨_, by simp (maxDischargeDepth := 6) [go_sem, Box.row yE, yEl] <;> rfl, rfl, ?_⟩
      exact ⟨.slice none 0 0, [], rfl, rfl, OwnX.nil _ _, Bar.to_below (bl_trans hW0 hB) (Bar3 _ _ _ _ _) (by omega)⟩
  · rw [if_neg (show ¬ (r < 32 ∨ r = 127 ∨ true = false ∨ 1024 < sq.length + (enc1 r).length) from fun k => k.elim h32 (fun k => k.elim h127 (fun k => k.elim (fun k => by cases k) hlong)))]
    have hlI : ¬ (1024 : Int) < (sq.length : Int) + ((enc1 r).length : Int) := by omega
    have cA : ∀ W, Calls Try.prog 47 #[.agg #[.string ⟨#[115, 116, 114, 105, 110, 103]⟩, .string (strOfNums sq), .slice q n c], .int .i32 r] W fun e w' => e = .returned (.agg #[.string ⟨#[115, 116, 114, 105, 110, 103]⟩, .string (strOfNums (sq ++ enc1 r)), .slice q n c]) ∧ Below W.heap.size W w' := fun W => by
      have := and_any ⟨#[115, 116, 114, 105, 110, 103]⟩ (strOfNums sq) q n c r W (by omega)
      rw [strOf_app] at this; exact this
    show Calls Try.prog 21 #[.agg #[.string ⟨#[115, 116, 114, 105, 110, 103]⟩, .string (strOfNums sq), .slice q n c], .int .i32 r] w (RSt q n c w (⟨3, sq ++ enc1 r, d⟩, []))
    by_cases e128 : 128 ≤ r
    · have e160 : 160 ≤ r := by omega
      have e16 : ¬ r < 160 := by omega
      clear cR
      go_enter Try.func21, Try.ntmps21
      go_upto_region 16 with fail
      refine wp_name (fun Z => Below w.heap.size w Z ∧ Box Z w.heap.size #[.string ⟨#[115, 116, 114, 105, 110, 103]⟩, .string (strOfNums sq), .slice q n c] 35 ∧ Box Z (w.heap.size + 1) #[.string ⟨#[]⟩, .string ⟨#[]⟩, .slice none 0 0] 35) ⟨(by repeat (first | with_reducible exact Below.refl _ _ | with_reducible assumption | with_reducible exact GW.grow _ | with_reducible refine bl_alloc ?_ _ | with_reducible refine Below.drew ?_ | (with_reducible refine Below.setCell ?_ ?_ _; rotate_left; focus (simp; first | done | omega)) | with_reducible refine bl_trans ?_ (GW.grow _) | (with_reducible refine bl_trans ?_ (by assumption)))), (by first | with_reducible assumption | (apply Box.as; (focus (repeat (first | with_reducible assumption | (with_reducible apply Box.new; simp; done) | with_reducible apply Box.gw | with_reducible apply Box.drew | with_reducible apply Box.alloc | with_reducible apply Box.set | (with_reducible apply Box.set_other; case hg => omega)))); rfl)), (by first | with_reducible assumption | (apply Box.as; (focus (repeat (first | with_reducible assumption | (with_reducible apply Box.new; simp; done) | with_reducible apply Box.gw | with_reducible apply Box.drew | with_reducible apply Box.alloc | with_reducible apply Box.set | (with_reducible apply Box.set_other; case hg => omega)))); rfl))⟩ ?_
      rintro W0 ⟨hW0, xA, xR⟩
      refine wp_region_V Gr (by kernel_rfl) ?_
      have hB : Below W0.heap.size W0 W0.drew := (Below.refl _ _).drew
      generalize W0.drew = W6 at *
      have xc := (Box.past hB xA).cell
      have xl := (Box.past hB xA).lt
      have q32 : ¬ r < 32 := by omega
      have q127 : (r == 127) = false := by rw [beq_eq_false_iff_ne]; omega
      refine wpAnyV_takeG (A := ?A0kp) 0 rfl (by kernel_rfl) (by kernel_rfl) (by kernel_rfl) (fun _ _ _ _ h => h) ?q0kp ?r0kp
      case q0kp =>
        intro Y
        try simp only [List.getElem_toArray, List.getElem_cons_zero, List.getElem_cons_succ]
        go_big_quiet_step (fail)
        refine wpQuiet_nil ?_
        rfl
      refine wpAnyV_takeG (A := ?A1kp) 1 rfl (by kernel_rfl) (by kernel_rfl) (by kernel_rfl) (fun _ _ _ _ h => h) ?q1kp ?r1kp
      case q1kp =>
        intro Y
        try simp only [List.getElem_toArray, List.getElem_cons_zero, List.getElem_cons_succ]
        go_big_quiet_step (fail)
        refine wpQuiet_nil ?_
        rfl
      refine wpAnyV_takeG (A := ?A2kp) 2 rfl (by kernel_rfl) (by kernel_rfl) (by kernel_rfl) (fun _ _ _ _ h => h) ?q2kp ?r2kp
      case q2kp =>
        intro Y
        try simp only [List.getElem_toArray, List.getElem_cons_zero, List.getElem_cons_succ]
        go_big_quiet_step (fail)
        refine wpQuiet_nil ?_
        rfl
      refine wpAnyV_takeG (A := ?A3kp) 3 rfl (by kernel_rfl) (by kernel_rfl) (by kernel_rfl) (fun _ _ _ _ h => h) ?q3kp ?r3kp
      case q3kp =>
        intro Y
        try simp only [List.getElem_toArray, List.getElem_cons_zero, List.getElem_cons_succ]
        go_big_quiet_step (fail)
        refine wpQuiet_nil ?_
        rfl
      refine wpAnyV_takeG (A := ?A4kp) 4 rfl (by kernel_rfl) (by kernel_rfl) (by kernel_rfl) (fun _ _ _ _ h => h) ?q4kp ?r4kp
      case q4kp =>
        intro Y
        try simp only [List.getElem_toArray, List.getElem_cons_zero, List.getElem_cons_succ]
        go_big_quiet_step (fail)
        refine wpQuiet_nil ?_
        rfl
      refine wpAnyV_takeG (A := ?A5kp) 5 rfl (by kernel_rfl) (by kernel_rfl) (by kernel_rfl) (fun _ _ _ _ h => h) ?q5kp ?r5kp
      case q5kp =>
        intro Y
        try simp only [List.getElem_toArray, List.getElem_cons_zero, List.getElem_cons_succ]
        go_big_quiet_step (fail)
        refine wpQuiet_nil ?_
        rfl
      refine wpAnyV_takeG (A := ?A6kp) 6 rfl (by kernel_rfl) (by kernel_rfl) (by kernel_rfl) (fun _ _ _ _ h => h) ?q6kp ?r6kp
      case q6kp =>
        intro Y
        try simp only [List.getElem_toArray, List.getElem_cons_zero, List.getElem_cons_succ]
        go_big_quiet_step (fail)
        refine wpQuiet_nil ?_
        rfl
      refine wpAnyV_takeG (A := ?A7kp) 7 rfl (by kernel_rfl) (by kernel_rfl) (by kernel_rfl) (fun _ _ _ _ h => h) ?q7kp ?r7kp
      case q7kp =>
        intro Y
        try simp only [List.getElem_toArray, List.getElem_cons_zero, List.getElem_cons_succ]
        go_big_quiet_step (fail)
        refine wpQuiet_nil ?_
        rfl
      refine wpAnyV_takeG (A := ?A8kp) 8 rfl (by kernel_rfl) (by kernel_rfl) (by kernel_rfl) (fun _ _ _ _ h => h) ?q8kp ?r8kp
      case q8kp =>
        intro Y
        try simp only [List.getElem_toArray, List.getElem_cons_zero, List.getElem_cons_succ]
        go_big_quiet_step ((go_at_call 45; with_reducible exact GW.call (cVg _)))
        refine wpQuiet_nil ?_
        rfl
      refine wpAnyV_takeG (A := ?A9kp) 9 rfl (by kernel_rfl) (by kernel_rfl) (by kernel_rfl) (fun _ _ _ _ h => h) ?q9kp ?r9kp
      case q9kp =>
        intro Y
        try simp only [List.getElem_toArray, List.getElem_cons_zero, List.getElem_cons_succ]
        go_big_quiet_step (fail)
        refine wpQuiet_nil ?_
        rfl
      refine wpAnyV_takeG (A := ?A10kp) 10 rfl (by kernel_rfl) (by kernel_rfl) (by kernel_rfl) (fun _ _ _ _ h => h) ?q10kp ?r10kp
      case q10kp =>
        intro Y
        try simp only [List.getElem_toArray, List.getElem_cons_zero, List.getElem_cons_succ]
        go_big_quiet_step (fail)
        refine wpQuiet_nil ?_
        rfl
      refine wpAnyV_takeG (A := ?A11kp) 11 rfl (by kernel_rfl) (by kernel_rfl) (by kernel_rfl) (fun _ _ _ _ h => h) ?q11kp ?r11kp
      case q11kp =>
        intro Y
        try simp only [List.getElem_toArray, List.getElem_cons_zero, List.getElem_cons_succ]
        go_big_quiet_step (fail)
        refine wpQuiet_nil ?_
        rfl
      refine wpAnyV_takeG (A := ?A12kp) 12 rfl (by kernel_rfl) (by kernel_rfl) (by kernel_rfl) (fun _ _ _ _ h => h) ?q12kp ?r12kp
      case q12kp =>
        intro Y
        try simp only [List.getElem_toArray, List.getElem_cons_zero, List.getElem_cons_succ]
        go_big_quiet_step (fail)
        refine wpQuiet_nil ?_
        rfl
      refine wpAnyV_takeG (A := ?A13kp) 13 rfl (by kernel_rfl) (by kernel_rfl) (by kernel_rfl) (fun _ _ _ _ h => h) ?q13kp ?r13kp
      case q13kp =>
        intro Y
        try simp only [List.getElem_toArray, List.getElem_cons_zero, List.getElem_cons_succ]
        go_big_quiet_step (fail)
        refine wpQuiet_nil ?_
        rfl
      refine wpAnyV_takeG (A := ?A14kp) 14 rfl (by kernel_rfl) (by kernel_rfl) (by kernel_rfl) (fun _ _ _ _ h => h) ?q14kp ?r14kp
      case q14kp =>
        intro Y
        try simp only [List.getElem_toArray, List.getElem_cons_zero, List.getElem_cons_succ]
        go_big_quiet_step (fail)
        refine wpQuiet_nil ?_
        rfl
      refine wpAnyV_takeG (A := ?A15kp) 15 rfl (by kernel_rfl) (by kernel_rfl) (by kernel_rfl) (fun _ _ _ _ h => h) ?q15kp ?r15kp
      case q15kp =>
        intro Y
        try simp only [List.getElem_toArray, List.getElem_cons_zero, List.getElem_cons_succ]
        go_big_quiet_step (fail)
        refine wpQuiet_nil ?_
        rfl
      refine wpAnyV_one 16 (by kernel_rfl) ?_
      intro W hW
      replace hB := bl_trans hB hW
      refine wpOp_step rfl (fun K hK => ?_)
      go_simp
      (with_reducible refine (cB _).mono ?_)
      rintro e wn ⟨vb, rfl, hob, hbn⟩
      obtain ⟨qb, nb, hvb⟩ := Rd.lits hob.rd
      subst hvb
      go_simp
      refine hK _ _ ⟨hbn, ?_⟩
      clear hK K
      try simp only [Act.put, List.getElem_toArray, List.getElem_cons_zero, List.getElem_cons_succ, List.setIfInBounds_toArray, List.set_cons_zero, List.set_cons_succ]
      replace hB := bl_trans hB hbn
      clear xc xl
      have xc := (Box.past hB xA).cell
      have xl := (Box.past hB xA).lt
      refine wpAnyV_takeG (A := ?A17kp) 17 rfl (by kernel_rfl) (by kernel_rfl) (by kernel_rfl) (fun _ _ _ _ h => h) ?q17kp ?r17kp
      case q17kp =>
        intro Y
        try simp only [List.getElem_toArray, List.getElem_cons_zero, List.getElem_cons_succ]
        go_big_quiet_step (fail)
        refine wpQuiet_nil ?_
        rfl
      refine wpAnyV_takeG (A := ?A18kp) 18 rfl (by kernel_rfl) (by kernel_rfl) (by kernel_rfl) (fun _ _ _ _ h => h) ?q18kp ?r18kp
      case q18kp =>
        intro Y
        try simp only [List.getElem_toArray, List.getElem_cons_zero, List.getElem_cons_succ]
        go_big_quiet_step (fail)
        refine wpQuiet_nil ?_
        rfl
      refine wpAnyV_takeG (A := ?A19kp) 19 rfl (by kernel_rfl) (by kernel_rfl) (by kernel_rfl) (fun _ _ _ _ h => h) ?q19kp ?r19kp
      case q19kp =>
        intro Y
        try simp only [List.getElem_toArray, List.getElem_cons_zero, List.getElem_cons_succ]
        go_big_quiet_step (fail)
        refine wpQuiet_nil ?_
        rfl
      refine wpAnyV_takeG (A := ?A20kp) 20 rfl (by kernel_rfl) (by kernel_rfl) (by kernel_rfl) (fun _ _ _ _ h => h) ?q20kp ?r20kp
      case q20kp =>
        intro Y
        try simp only [List.getElem_toArray, List.getElem_cons_zero, List.getElem_cons_succ]
        go_big_quiet_step (fail)
        refine wpQuiet_nil ?_
        rfl
      refine wpAnyV_done (by kernel_rfl) ?_ _
      intro W2 hW2
      replace hB := bl_trans hB hW2
      clear hW2 xc xl
      have yA := Box.past hB xA
      have yR := Box.past hB xR
      have xc := yA.cell
      have xl := yA.lt
      have rc := yR.cell
      have rl := yR.lt
      have rf := yR.free
      go_wp2_with (first | (go_at_call 47; (with_reducible refine (cA _).mono ?_); rintro e w1 ⟨rfl, hb1⟩; have zR := Box.past hb1 yR; have qc := zR.cell; have ql := zR.lt; have qf := zR.free))
      have yE := set3 zR (.string ⟨#[115, 116, 114, 105, 110, 103]⟩) (.string (strOfNums (sq ++ enc1 r))) (.slice q n c)
      have yEl := yE.lt
      refine ret_row_tmp (n := 3) rfl rfl Try.underlying35 rfl (by kernel_rfl) rfl ⟨_, by simp (maxDischargeDepth := 6) [go_sem, Box.row yE, yEl] <;> rfl, rfl, ?_⟩
      exact ⟨.slice none 0 0, [], rfl, rfl, OwnX.nil _ _, Bar.to_below (bl_trans (bl_trans hW0 hB) hb1) (Bar3 _ _ _ _ _) (by omega)⟩
    · clear cR
      go_enter Try.func21, Try.ntmps21
      go_upto_region 16 with fail
      refine wp_name (fun Z => Below w.heap.size w Z ∧ Box Z w.heap.size #[.string ⟨#[115, 116, 114, 105, 110, 103]⟩, .string (strOfNums sq), .slice q n c] 35 ∧ Box Z (w.heap.size + 1) #[.string ⟨#[]⟩, .string ⟨#[]⟩, .slice none 0 0] 35) ⟨(by repeat (first | with_reducible exact Below.refl _ _ | with_reducible assumption | with_reducible exact GW.grow _ | with_reducible refine bl_alloc ?_ _ | with_reducible refine Below.drew ?_ | (with_reducible refine Below.setCell ?_ ?_ _; rotate_left; focus (simp; first | done | omega)) | with_reducible refine bl_trans ?_ (GW.grow _) | (with_reducible refine bl_trans ?_ (by assumption)))), (by first | with_reducible assumption | (apply Box.as; (focus (repeat (first | with_reducible assumption | (with_reducible apply Box.new; simp; done) | with_reducible apply Box.gw | with_reducible apply Box.drew | with_reducible apply Box.alloc | with_reducible apply Box.set | (with_reducible apply Box.set_other; case hg => omega)))); rfl)), (by first | with_reducible assumption | (apply Box.as; (focus (repeat (first | with_reducible assumption | (with_reducible apply Box.new; simp; done) | with_reducible apply Box.gw | with_reducible apply Box.drew | with_reducible apply Box.alloc | with_reducible apply Box.set | (with_reducible apply Box.set_other; case hg => omega)))); rfl))⟩ ?_
      rintro W0 ⟨hW0, xA, xR⟩
      refine wp_region_V Gr (by kernel_rfl) ?_
      have hB : Below W0.heap.size W0 W0.drew := (Below.refl _ _).drew
      generalize W0.drew = W6 at *
      have xc := (Box.past hB xA).cell
      have xl := (Box.past hB xA).lt
      have q32 : ¬ r < 32 := by omega
      have q127 : (r == 127) = false := by rw [beq_eq_false_iff_ne]; omega
      refine wpAnyV_takeG (A := ?A0km) 0 rfl (by kernel_rfl) (by kernel_rfl) (by kernel_rfl) (fun _ _ _ _ h => h) ?q0km ?r0km
      case q0km =>
        intro Y
        try simp only [List.getElem_toArray, List.getElem_cons_zero, List.getElem_cons_succ]
        go_big_quiet_step (fail)
        refine wpQuiet_nil ?_
        rfl
      refine wpAnyV_takeG (A := ?A1km) 1 rfl (by kernel_rfl) (by kernel_rfl) (by kernel_rfl) (fun _ _ _ _ h => h) ?q1km ?r1km
      case q1km =>
        intro Y
        try simp only [List.getElem_toArray, List.getElem_cons_zero, List.getElem_cons_succ]
        go_big_quiet_step (fail)
        refine wpQuiet_nil ?_
        rfl
      refine wpAnyV_takeG (A := ?A2km) 2 rfl (by kernel_rfl) (by kernel_rfl) (by kernel_rfl) (fun _ _ _ _ h => h) ?q2km ?r2km
      case q2km =>
        intro Y
        try simp only [List.getElem_toArray, List.getElem_cons_zero, List.getElem_cons_succ]
        go_big_quiet_step (fail)
        refine wpQuiet_nil ?_
        rfl
      refine wpAnyV_takeG (A := ?A3km) 3 rfl (by kernel_rfl) (by kernel_rfl) (by kernel_rfl) (fun _ _ _ _ h => h) ?q3km ?r3km
      case q3km =>
        intro Y
        try simp only [List.getElem_toArray, List.getElem_cons_zero, List.getElem_cons_succ]
        go_big_quiet_step (fail)
        refine wpQuiet_nil ?_
        rfl
      refine wpAnyV_takeG (A := ?A4km) 4 rfl (by kernel_rfl) (by kernel_rfl) (by kernel_rfl) (fun _ _ _ _ h => h) ?q4km ?r4km
      case q4km =>
        intro Y
        try simp only [List.getElem_toArray, List.getElem_cons_zero, List.getElem_cons_succ]
        go_big_quiet_step (fail)
        refine wpQuiet_nil ?_
        rfl
      refine wpAnyV_takeG (A := ?A5km) 5 rfl (by kernel_rfl) (by kernel_rfl) (by kernel_rfl) (fun _ _ _ _ h => h) ?q5km ?r5km
      case q5km =>
        intro Y
        try simp only [List.getElem_toArray, List.getElem_cons_zero, List.getElem_cons_succ]
        go_big_quiet_step (fail)
        refine wpQuiet_nil ?_
        rfl
      refine wpAnyV_takeG (A := ?A6km) 6 rfl (by kernel_rfl) (by kernel_rfl) (by kernel_rfl) (fun _ _ _ _ h => h) ?q6km ?r6km
      case q6km =>
        intro Y
        try simp only [List.getElem_toArray, List.getElem_cons_zero, List.getElem_cons_succ]
        go_big_quiet_step (fail)
        refine wpQuiet_nil ?_
        rfl
      refine wpAnyV_takeG (A := ?A7km) 7 rfl (by kernel_rfl) (by kernel_rfl) (by kernel_rfl) (fun _ _ _ _ h => h) ?q7km ?r7km
      case q7km =>
        intro Y
        try simp only [List.getElem_toArray, List.getElem_cons_zero, List.getElem_cons_succ]
        go_big_quiet_step (fail)
        refine wpQuiet_nil ?_
        rfl
      refine wpAnyV_takeG (A := ?A8km) 8 rfl (by kernel_rfl) (by kernel_rfl) (by kernel_rfl) (fun _ _ _ _ h => h) ?q8km ?r8km
      case q8km =>
        intro Y
        try simp only [List.getElem_toArray, List.getElem_cons_zero, List.getElem_cons_succ]
        go_big_quiet_step ((go_at_call 45; with_reducible exact GW.call (cVg _)))
        refine wpQuiet_nil ?_
        rfl
      refine wpAnyV_takeG (A := ?A9km) 9 rfl (by kernel_rfl) (by kernel_rfl) (by kernel_rfl) (fun _ _ _ _ h => h) ?q9km ?r9km
      case q9km =>
        intro Y
        try simp only [List.getElem_toArray, List.getElem_cons_zero, List.getElem_cons_succ]
        go_big_quiet_step (fail)
        refine wpQuiet_nil ?_
        rfl
      refine wpAnyV_takeG (A := ?A10km) 10 rfl (by kernel_rfl) (by kernel_rfl) (by kernel_rfl) (fun _ _ _ _ h => h) ?q10km ?r10km
      case q10km =>
        intro Y
        try simp only [List.getElem_toArray, List.getElem_cons_zero, List.getElem_cons_succ]
        go_big_quiet_step (fail)
        refine wpQuiet_nil ?_
        rfl
      refine wpAnyV_takeG (A := ?A11km) 11 rfl (by kernel_rfl) (by kernel_rfl) (by kernel_rfl) (fun _ _ _ _ h => h) ?q11km ?r11km
      case q11km =>
        intro Y
        try simp only [List.getElem_toArray, List.getElem_cons_zero, List.getElem_cons_succ]
        go_big_quiet_step (fail)
        refine wpQuiet_nil ?_
        rfl
      refine wpAnyV_takeG (A := ?A12km) 12 rfl (by kernel_rfl) (by kernel_rfl) (by kernel_rfl) (fun _ _ _ _ h => h) ?q12km ?r12km
      case q12km =>
        intro Y
        try simp only [List.getElem_toArray, List.getElem_cons_zero, List.getElem_cons_succ]
        go_big_quiet_step (fail)
        refine wpQuiet_nil ?_
        rfl
      refine wpAnyV_takeG (A := ?A13km) 13 rfl (by kernel_rfl) (by kernel_rfl) (by kernel_rfl) (fun _ _ _ _ h => h) ?q13km ?r13km
      case q13km =>
        intro Y
        try simp only [List.getElem_toArray, List.getElem_cons_zero, List.getElem_cons_succ]
        go_big_quiet_step (fail)
        refine wpQuiet_nil ?_
        rfl
      refine wpAnyV_takeG (A := ?A14km) 14 rfl (by kernel_rfl) (by kernel_rfl) (by kernel_rfl) (fun _ _ _ _ h => h) ?q14km ?r14km
      case q14km =>
        intro Y
        try simp only [List.getElem_toArray, List.getElem_cons_zero, List.getElem_cons_succ]
        go_big_quiet_step (fail)
        refine wpQuiet_nil ?_
        rfl
      refine wpAnyV_takeG (A := ?A15km) 15 rfl (by kernel_rfl) (by kernel_rfl) (by kernel_rfl) (fun _ _ _ _ h => h) ?q15km ?r15km
      case q15km =>
        intro Y
        try simp only [List.getElem_toArray, List.getElem_cons_zero, List.getElem_cons_succ]
        go_big_quiet_step (fail)
        refine wpQuiet_nil ?_
        rfl
      refine wpAnyV_one 16 (by kernel_rfl) ?_
      intro W hW
      replace hB := bl_trans hB hW
      refine wpOp_step rfl (fun K hK => ?_)
      go_simp
      (with_reducible refine (cB _).mono ?_)
      rintro e wn ⟨vb, rfl, hob, hbn⟩
      obtain ⟨qb, nb, hvb⟩ := Rd.lits hob.rd
      subst hvb
      go_simp
      refine hK _ _ ⟨hbn, ?_⟩
      clear hK K
      try simp only [Act.put, List.getElem_toArray, List.getElem_cons_zero, List.getElem_cons_succ, List.setIfInBounds_toArray, List.set_cons_zero, List.set_cons_succ]
      replace hB := bl_trans hB hbn
      clear xc xl
      have xc := (Box.past hB xA).cell
      have xl := (Box.past hB xA).lt
      refine wpAnyV_takeG (A := ?A17km) 17 rfl (by kernel_rfl) (by kernel_rfl) (by kernel_rfl) (fun _ _ _ _ h => h) ?q17km ?r17km
      case q17km =>
        intro Y
        try simp only [List.getElem_toArray, List.getElem_cons_zero, List.getElem_cons_succ]
        go_big_quiet_step (fail)
        refine wpQuiet_nil ?_
        rfl
      refine wpAnyV_takeG (A := ?A18km) 18 rfl (by kernel_rfl) (by kernel_rfl) (by kernel_rfl) (fun _ _ _ _ h => h) ?q18km ?r18km
      case q18km =>
        intro Y
        try simp only [List.getElem_toArray, List.getElem_cons_zero, List.getElem_cons_succ]
        go_big_quiet_step (fail)
        refine wpQuiet_nil ?_
        rfl
      refine wpAnyV_takeG (A := ?A19km) 19 rfl (by kernel_rfl) (by kernel_rfl) (by kernel_rfl) (fun _ _ _ _ h => h) ?q19km ?r19km
      case q19km =>
        intro Y
        try simp only [List.getElem_toArray, List.getElem_cons_zero, List.getElem_cons_succ]
        go_big_quiet_step (fail)
        refine wpQuiet_nil ?_
        rfl
      refine wpAnyV_takeG (A := ?A20km) 20 rfl (by kernel_rfl) (by kernel_rfl) (by kernel_rfl) (fun _ _ _ _ h => h) ?q20km ?r20km
      case q20km =>
        intro Y
        try simp only [List.getElem_toArray, List.getElem_cons_zero, List.getElem_cons_succ]
        go_big_quiet_step (fail)
        refine wpQuiet_nil ?_
        rfl
      refine wpAnyV_done (by kernel_rfl) ?_ _
      intro W2 hW2
      replace hB := bl_trans hB hW2
      clear hW2 xc xl
      have yA := Box.past hB xA
      have yR := Box.past hB xR
      have xc := yA.cell
      have xl := yA.lt
      have rc := yR.cell
      have rl := yR.lt
      have rf := yR.free
      go_wp2_with (first | (go_at_call 47; (with_reducible refine (cA _).mono ?_); rintro e w1 ⟨rfl, hb1⟩; have zR := Box.past hb1 yR; have qc := zR.cell; have ql := zR.lt; have qf := zR.free))
      have yE := set3 zR (.string ⟨#[115, 116, 114, 105, 110, 103]⟩) (.string (strOfNums (sq ++ enc1 r))) (.slice q n c)
      have yEl := yE.lt
      refine ret_row_tmp (n := 3) rfl rfl Try.underlying35 rfl (by kernel_rfl) rfl ⟨_, by simp (maxDischargeDepth := 6) [go_sem, Box.row yE, yEl] <;> rfl, rfl, ?_⟩
      exact ⟨.slice none 0 0, [], rfl, rfl, OwnX.nil _ _, Bar.to_below (bl_trans (bl_trans hW0 hB) hb1) (Bar3 _ _ _ _ _) (by omega)⟩
set_option maxHeartbeats 16000000 in
set_option maxRecDepth 100000 in
theorem rstepone_any (s : Rs) (q : Option Addr) (n c : Nat) (r : Int) (w : World) (hop : s.op ≤ 4) (hby : ∀ x ∈ s.sq, Byte x) (hsz : s.sq.length ≤ 100000) (hr : ¬ (128 ≤ r ∧ r < 160)) : Calls Try.prog 21 #[.agg #[.string (opS s.op), .string (strOfNums s.sq), .slice q n c], .int .i32 r] w (RSt q n c w (rsOne s r)) := by
  obtain ⟨o, sq, d⟩ := s
  simp only at hop hby hsz
  have hs : (strOfNums sq).size = sq.length := strOf_size _
  have cV := fun W => validRef_any r W
  have hrr : ¬ 128 ≤ r ∨ ¬ r < 160 := by omega
  have cR : ¬ 128 ≤ r ∨ (128 ≤ r ∧ ¬ r < 160) := by omega
  clear hr hrr
  by_cases h24 : r = 24
  · subst h24
    unfold rsOne
    rw [if_neg (by decide), if_pos (.inl rfl)]
    show Calls Try.prog 21 #[.agg #[.string (opS o), .string (strOfNums sq), .slice q n c], .int .i32 24] w (RSt q n c w (⟨0, [], d⟩, [exA 24]))
    have cT : ∀ x W, Calls Try.prog 43 #[.agg #[.string (opS o), .string (strOfNums sq), .slice q n c], .string x] W fun e w' => e = .returned (.agg #[.string x, .string ⟨#[]⟩, .slice q n c]) ∧ Below W.heap.size W w' := fun x W => to_any (opS o) (strOfNums sq) x q n c W
    have cO : ∀ W, Calls Try.prog 44 #[.agg #[.int .i64 2, .int .i32 24, .int .i32 0, .string ⟨#[]⟩, .slice none 0 0, .string ⟨#[]⟩]] W fun e w' => ∃ v, e = .returned v ∧ OwnX w' W.heap.size v [(exA 24, .slice none 0 0)] ∧ Below W.heap.size W w' := fun W => rone_any (exA 24) none 0 0 W.heap.size W (Own.nil _ _ _ _) (Nat.le_refl _) ⟨by simp [exA], by simp [exA]⟩
    clear cR cV
    go_enter Try.func21, Try.ntmps21
    go_upto_region 12 with fail
    refine wp_name (fun Z => Below w.heap.size w Z ∧ Box Z w.heap.size #[.string (opS o), .string (strOfNums sq), .slice q n c] 35 ∧ Box Z (w.heap.size + 1) #[.string ⟨#[]⟩, .string ⟨#[]⟩, .slice none 0 0] 35 ∧ Box Z (w.heap.size + 2) #[.int .i64 5, .int .i32 0, .int .i32 0, .string ⟨#[]⟩, .slice none 0 0, .string (strOfNums sq)] 52 ∧ Box Z (w.heap.size + 3) #[.int .i64 2, .int .i32 24, .int .i32 0, .string ⟨#[]⟩, .slice none 0 0, .string ⟨#[]⟩] 52) ⟨(by repeat (first | with_reducible exact Below.refl _ _ | with_reducible assumption | with_reducible exact GW.grow _ | with_reducible refine bl_alloc ?_ _ | with_reducible refine Below.drew ?_ | (with_reducible refine Below.setCell ?_ ?_ _; rotate_left; focus (simp; first | done | omega)) | with_reducible refine bl_trans ?_ (GW.grow _) | (with_reducible refine bl_trans ?_ (by assumption)))), (by first | with_reducible assumption | (apply Box.as; (focus (repeat (first | with_reducible assumption | (with_reducible apply Box.new; simp; done) | with_reducible apply Box.gw | with_reducible apply Box.drew | with_reducible apply Box.alloc | with_reducible apply Box.set | (with_reducible apply Box.set_other; case hg => omega)))); rfl)), (by first | with_reducible assumption | (apply Box.as; (focus (repeat (first | with_reducible assumption | (with_reducible apply Box.new; simp; done) | with_reducible apply Box.gw | with_reducible apply Box.drew | with_reducible apply Box.alloc | with_reducible apply Box.set | (with_reducible apply Box.set_other; case hg => omega)))); rfl)), (by first | with_reducible assumption | (apply Box.as; (focus (repeat (first | with_reducible assumption | (with_reducible apply Box.new; simp; done) | with_reducible apply Box.gw | with_reducible apply Box.drew | with_reducible apply Box.alloc | with_reducible apply Box.set | (with_reducible apply Box.set_other; case hg => omega)))); rfl)), (by first | with_reducible assumption | (apply Box.as; (focus (repeat (first | with_reducible assumption | (with_reducible apply Box.new; simp; done) | with_reducible apply Box.gw | with_reducible apply Box.drew | with_reducible apply Box.alloc | with_reducible apply Box.set | (with_reducible apply Box.set_other; case hg => omega)))); rfl))⟩ ?_
    rintro W0 ⟨hW0, xA, xR, xG, xH⟩
    refine wp_region_V (fun u1 u2 => Bar (w.heap.size + 1) u1 u2) (by kernel_rfl) ?_
    have hTr : ∀ u1 u2 u3 : World, Bar (w.heap.size + 1) u1 u2 → Bar (w.heap.size + 1) u2 u3 → Bar (w.heap.size + 1) u1 u3 := fun _ _ _ h1 h2 => Bar.trans h1 h2
    have hGr : ∀ u1 u2 : World, Gr u1 u2 → Bar (w.heap.size + 1) u1 u2 := fun _ _ h1 => Below.bar _ h1
    have hcur : Bar (w.heap.size + 1) W0 W0.drew := Bar.drew (Bar.refl _ _)
    have hgw : Below w.heap.size w W0.drew := hW0.drew
    have xR6 : Box W0.drew (w.heap.size + 1) #[.string ⟨#[]⟩, .string ⟨#[]⟩, .slice none 0 0] 35 := xR
    generalize W0.drew = W6 at *
    refine wpAnyV_takeS hTr hGr (A := ?A0a) 0 rfl (by kernel_rfl) (by kernel_rfl) (by kernel_rfl) (fun _ _ _ _ h => h) ?q0a ?r0a
    case q0a =>
      intro W hW
      have hWW := hcur.trans hW; have xa := xA.bar hWW (by omega); have xc := xa.cell; have xl := xa.lt; have xg := xG.bar hWW (by omega); have gc := xg.cell; have gl := xg.lt; have xh := xH.bar hWW (by omega); have hc := xh.cell; have hl := xh.lt
      try simp only [List.getElem_toArray, List.getElem_cons_zero, List.getElem_cons_succ]
      go_big_quiet_step (fail)
      refine wpQuiet_nil ?_
      rfl
    refine wpAnyV_takeS hTr hGr (A := ?A1a) 1 rfl (by kernel_rfl) (by kernel_rfl) (by kernel_rfl) (fun _ _ _ _ h => h) ?q1a ?r1a
    case q1a =>
      intro W hW
      try simp only [List.getElem_toArray, List.getElem_cons_zero, List.getElem_cons_succ]
      go_big_quiet_step ((go_at_call 43; with_reducible exact GW.call (cT _ _)))
      refine wpQuiet_nil ?_
      rfl
    refine wpAnyV_takeS hTr hGr (A := ?A2a) 2 rfl (by kernel_rfl) (by kernel_rfl) (by kernel_rfl) (fun _ _ _ _ h => h) ?q2a ?r2a
    case q2a =>
      intro W hW
      have hWW := hcur.trans hW; have xa := xA.bar hWW (by omega); have xc := xa.cell; have xl := xa.lt; have xg := xG.bar hWW (by omega); have gc := xg.cell; have gl := xg.lt; have xh := xH.bar hWW (by omega); have hc := xh.cell; have hl := xh.lt
      try simp only [List.getElem_toArray, List.getElem_cons_zero, List.getElem_cons_succ]
      go_big_quiet_step (fail)
      refine wpQuiet_nil ?_
      rfl
    refine wpAnyV_one 3 (by kernel_rfl) ?_
    intro W hW
    replace hgw := bl_trans hgw hW
    have xR7 := Box.past hW xR6
    have hRW := xR7.lt
    refine wpOp_step rfl (fun K hK => ?_)
    go_simp
    (with_reducible refine (cO W).mono ?_)
    rintro e wn ⟨v1, rfl, ho1, hbn⟩
    go_simp
    refine hK _ _ ⟨Below.bar _ hbn, ?_⟩
    clear hK K
    try simp only [Act.put, List.getElem_toArray, List.getElem_cons_zero, List.getElem_cons_succ, List.setIfInBounds_toArray, List.set_cons_zero, List.set_cons_succ]
    replace hgw := bl_trans hgw hbn
    have xR8 := Box.past hbn xR7
    refine wpAnyV_one 4 (by kernel_rfl) ?_
    intro W2 hW2
    replace hgw := bl_trans hgw hW2
    have xR9 := Box.past hW2 xR8
    have hc9 := xR9.cell
    have hf9 := xR9.free
    have hl9 := xR9.lt
    refine wpOp_step rfl (fun K hK => ?_)
    go_simp
    refine hK _ _ ⟨Bar3 _ _ _ _ _, ?_⟩
    clear hK K
    try simp only [Act.put, List.getElem_toArray, List.getElem_cons_zero, List.getElem_cons_succ, List.setIfInBounds_toArray, List.set_cons_zero, List.set_cons_succ]
    have yE := set3 xR9 (.string ⟨#[]⟩) (.string ⟨#[]⟩) (.slice q n c)
    have yB := Bar3 (w.heap.size + 1) W2 (.string ⟨#[]⟩) (.string ⟨#[]⟩) (.slice q n c)
    have ho2 := ((ho1.kept hW2).bar yB hRW).weaken (Nat.le_trans (by omega) (Nat.le_of_lt hRW) : w.heap.size ≤ W.heap.size)
    have hgE := Bar.to_below hgw yB (by omega)
    refine wpAnyV_takeS hTr hGr (A := ?A5a) 5 rfl (by kernel_rfl) (by kernel_rfl) (by kernel_rfl) (fun _ _ _ _ h => h) ?q5a ?r5a
    case q5a =>
      intro W hW
      try simp only [List.getElem_toArray, List.getElem_cons_zero, List.getElem_cons_succ]
      go_big_quiet_step (fail)
      refine wpQuiet_nil ?_
      rfl
    refine wpAnyV_done (by kernel_rfl) ?_ _
    intro W3 hW3
    have yE3 := Box.past hW3 yE
    have yEl := yE3.lt
    have ho3 := ho2.kept hW3
    go_wp2_with fail
    refine ret_row_tmp (n := 3) rfl rfl Try.underlying35 rfl (by kernel_rfl) rfl ⟨_, by simp (maxDischargeDepth := 6) [go_sem, Box.row yE3, yEl] <;> rfl, rfl, ?_⟩
    exact ⟨v1, [(exA 24, .slice none 0 0)], rfl, rfl, ho3, bl_trans hgE hW3⟩
  by_cases h26 : r = 26
  · subst h26
    unfold rsOne
    rw [if_neg (by decide), if_pos (.inr rfl)]
    show Calls Try.prog 21 #[.agg #[.string (opS o), .string (strOfNums sq), .slice q n c], .int .i32 26] w (RSt q n c w (⟨0, [], d⟩, [exA 26]))
    have cT : ∀ x W, Calls Try.prog 43 #[.agg #[.string (opS o), .string (strOfNums sq), .slice q n c], .string x] W fun e w' => e = .returned (.agg #[.string x, .string ⟨#[]⟩, .slice q n c]) ∧ Below W.heap.size W w' := fun x W => to_any (opS o) (strOfNums sq) x q n c W
    have cO : ∀ W, Calls Try.prog 44 #[.agg #[.int .i64 2, .int .i32 26, .int .i32 0, .string ⟨#[]⟩, .slice none 0 0, .string ⟨#[]⟩]] W fun e w' => ∃ v, e = .returned v ∧ OwnX w' W.heap.size v [(exA 26, .slice none 0 0)] ∧ Below W.heap.size W w' := fun W => rone_any (exA 26) none 0 0 W.heap.size W (Own.nil _ _ _ _) (Nat.le_refl _) ⟨by simp [exA], by simp [exA]⟩
    clear cR cV
    go_enter Try.func21, Try.ntmps21
    go_upto_region 12 with fail
    refine wp_name (fun Z => Below w.heap.size w Z ∧ Box Z w.heap.size #[.string (opS o), .string (strOfNums sq), .slice q n c] 35 ∧ Box Z (w.heap.size + 1) #[.string ⟨#[]⟩, .string ⟨#[]⟩, .slice none 0 0] 35 ∧ Box Z (w.heap.size + 2) #[.int .i64 5, .int .i32 0, .int .i32 0, .string ⟨#[]⟩, .slice none 0 0, .string (strOfNums sq)] 52 ∧ Box Z (w.heap.size + 3) #[.int .i64 2, .int .i32 26, .int .i32 0, .string ⟨#[]⟩, .slice none 0 0, .string ⟨#[]⟩] 52) ⟨(by repeat (first | with_reducible exact Below.refl _ _ | with_reducible assumption | with_reducible exact GW.grow _ | with_reducible refine bl_alloc ?_ _ | with_reducible refine Below.drew ?_ | (with_reducible refine Below.setCell ?_ ?_ _; rotate_left; focus (simp; first | done | omega)) | with_reducible refine bl_trans ?_ (GW.grow _) | (with_reducible refine bl_trans ?_ (by assumption)))), (by first | with_reducible assumption | (apply Box.as; (focus (repeat (first | with_reducible assumption | (with_reducible apply Box.new; simp; done) | with_reducible apply Box.gw | with_reducible apply Box.drew | with_reducible apply Box.alloc | with_reducible apply Box.set | (with_reducible apply Box.set_other; case hg => omega)))); rfl)), (by first | with_reducible assumption | (apply Box.as; (focus (repeat (first | with_reducible assumption | (with_reducible apply Box.new; simp; done) | with_reducible apply Box.gw | with_reducible apply Box.drew | with_reducible apply Box.alloc | with_reducible apply Box.set | (with_reducible apply Box.set_other; case hg => omega)))); rfl)), (by first | with_reducible assumption | (apply Box.as; (focus (repeat (first | with_reducible assumption | (with_reducible apply Box.new; simp; done) | with_reducible apply Box.gw | with_reducible apply Box.drew | with_reducible apply Box.alloc | with_reducible apply Box.set | (with_reducible apply Box.set_other; case hg => omega)))); rfl)), (by first | with_reducible assumption | (apply Box.as; (focus (repeat (first | with_reducible assumption | (with_reducible apply Box.new; simp; done) | with_reducible apply Box.gw | with_reducible apply Box.drew | with_reducible apply Box.alloc | with_reducible apply Box.set | (with_reducible apply Box.set_other; case hg => omega)))); rfl))⟩ ?_
    rintro W0 ⟨hW0, xA, xR, xG, xH⟩
    refine wp_region_V (fun u1 u2 => Bar (w.heap.size + 1) u1 u2) (by kernel_rfl) ?_
    have hTr : ∀ u1 u2 u3 : World, Bar (w.heap.size + 1) u1 u2 → Bar (w.heap.size + 1) u2 u3 → Bar (w.heap.size + 1) u1 u3 := fun _ _ _ h1 h2 => Bar.trans h1 h2
    have hGr : ∀ u1 u2 : World, Gr u1 u2 → Bar (w.heap.size + 1) u1 u2 := fun _ _ h1 => Below.bar _ h1
    have hcur : Bar (w.heap.size + 1) W0 W0.drew := Bar.drew (Bar.refl _ _)
    have hgw : Below w.heap.size w W0.drew := hW0.drew
    have xR6 : Box W0.drew (w.heap.size + 1) #[.string ⟨#[]⟩, .string ⟨#[]⟩, .slice none 0 0] 35 := xR
    generalize W0.drew = W6 at *
    refine wpAnyV_takeS hTr hGr (A := ?A0b) 0 rfl (by kernel_rfl) (by kernel_rfl) (by kernel_rfl) (fun _ _ _ _ h => h) ?q0b ?r0b
    case q0b =>
      intro W hW
      have hWW := hcur.trans hW; have xa := xA.bar hWW (by omega); have xc := xa.cell; have xl := xa.lt; have xg := xG.bar hWW (by omega); have gc := xg.cell; have gl := xg.lt; have xh := xH.bar hWW (by omega); have hc := xh.cell; have hl := xh.lt
      try simp only [List.getElem_toArray, List.getElem_cons_zero, List.getElem_cons_succ]
      go_big_quiet_step (fail)
      refine wpQuiet_nil ?_
      rfl
    refine wpAnyV_takeS hTr hGr (A := ?A1b) 1 rfl (by kernel_rfl) (by kernel_rfl) (by kernel_rfl) (fun _ _ _ _ h => h) ?q1b ?r1b
    case q1b =>
      intro W hW
      try simp only [List.getElem_toArray, List.getElem_cons_zero, List.getElem_cons_succ]
      go_big_quiet_step ((go_at_call 43; with_reducible exact GW.call (cT _ _)))
      refine wpQuiet_nil ?_
      rfl
    refine wpAnyV_takeS hTr hGr (A := ?A2b) 2 rfl (by kernel_rfl) (by kernel_rfl) (by kernel_rfl) (fun _ _ _ _ h => h) ?q2b ?r2b
    case q2b =>
      intro W hW
      have hWW := hcur.trans hW; have xa := xA.bar hWW (by omega); have xc := xa.cell; have xl := xa.lt; have xg := xG.bar hWW (by omega); have gc := xg.cell; have gl := xg.lt; have xh := xH.bar hWW (by omega); have hc := xh.cell; have hl := xh.lt
      try simp only [List.getElem_toArray, List.getElem_cons_zero, List.getElem_cons_succ]
      go_big_quiet_step (fail)
      refine wpQuiet_nil ?_
      rfl
    refine wpAnyV_one 3 (by kernel_rfl) ?_
    intro W hW
    replace hgw := bl_trans hgw hW
    have xR7 := Box.past hW xR6
    have hRW := xR7.lt
    refine wpOp_step rfl (fun K hK => ?_)
    go_simp
    (with_reducible refine (cO W).mono ?_)
    rintro e wn ⟨v1, rfl, ho1, hbn⟩
    go_simp
    refine hK _ _ ⟨Below.bar _ hbn, ?_⟩
    clear hK K
    try simp only [Act.put, List.getElem_toArray, List.getElem_cons_zero, List.getElem_cons_succ, List.setIfInBounds_toArray, List.set_cons_zero, List.set_cons_succ]
    replace hgw := bl_trans hgw hbn
    have xR8 := Box.past hbn xR7
    refine wpAnyV_one 4 (by kernel_rfl) ?_
    intro W2 hW2
    replace hgw := bl_trans hgw hW2
    have xR9 := Box.past hW2 xR8
    have hc9 := xR9.cell
    have hf9 := xR9.free
    have hl9 := xR9.lt
    refine wpOp_step rfl (fun K hK => ?_)
    go_simp
    refine hK _ _ ⟨Bar3 _ _ _ _ _, ?_⟩
    clear hK K
    try simp only [Act.put, List.getElem_toArray, List.getElem_cons_zero, List.getElem_cons_succ, List.setIfInBounds_toArray, List.set_cons_zero, List.set_cons_succ]
    have yE := set3 xR9 (.string ⟨#[]⟩) (.string ⟨#[]⟩) (.slice q n c)
    have yB := Bar3 (w.heap.size + 1) W2 (.string ⟨#[]⟩) (.string ⟨#[]⟩) (.slice q n c)
    have ho2 := ((ho1.kept hW2).bar yB hRW).weaken (Nat.le_trans (by omega) (Nat.le_of_lt hRW) : w.heap.size ≤ W.heap.size)
    have hgE := Bar.to_below hgw yB (by omega)
    refine wpAnyV_takeS hTr hGr (A := ?A5b) 5 rfl (by kernel_rfl) (by kernel_rfl) (by kernel_rfl) (fun _ _ _ _ h => h) ?q5b ?r5b
    case q5b =>
      intro W hW
      try simp only [List.getElem_toArray, List.getElem_cons_zero, List.getElem_cons_succ]
      go_big_quiet_step (fail)
      refine wpQuiet_nil ?_
      rfl
    refine wpAnyV_done (by kernel_rfl) ?_ _
    intro W3 hW3
    have yE3 := Box.past hW3 yE
    have yEl := yE3.lt
    have ho3 := ho2.kept hW3
    go_wp2_with fail
    refine ret_row_tmp (n := 3) rfl rfl Try.underlying35 rfl (by kernel_rfl) rfl ⟨_, by simp (maxDischargeDepth := 6) [go_sem, Box.row yE3, yEl] <;> rfl, rfl, ?_⟩
    exact ⟨v1, [(exA 26, .slice none 0 0)], rfl, rfl, ho3, bl_trans hgE hW3⟩
  have hr2 : ¬ (128 ≤ r ∧ r < 160) := by omega
  match o, hop with
  | 0, _ => exact rsop0_any sq d q n c r w hby hsz hr2 h24 h26
  | 1, _ => exact rsop1_any sq d q n c r w hby hsz hr2 h24 h26
  | 2, _ => exact rsop2_any sq d q n c r w hby hsz hr2 h24 h26
  | 3, _ => exact rsop3_any sq d q n c r w hby hsz hr2 h24 h26
  | 4, _ => exact rsop4_any sq d q n c r w hby hsz hr2 h24 h26

end Go.Proofs.Ytpkkfcfkhiaggaa
