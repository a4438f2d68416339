/- parser: the reference, a rune of an escape sequence. Printed by mk_q.py. -/
import Derived.Test.YtpkkfcfkhiaggaaNOP
import Derived.Deep.CutBlock
import Derived.Deep.DeepCutAuto
import Derived.Outline
set_option linter.unusedSimpArgs false
set_option linter.unusedVariables false
set_option linter.unnecessarySimpa false
namespace Go.Proofs.Ytpkkfcfkhiaggaa
open Go.RowKit
open Go.Proofs.Ytpkkfcfkhiaggaa.Pm (fineR addB addO bldQ refL bldC BldV bldC_len)

/-- What a step of the reference says. -/
def RSt (q : Option Addr) (n c : Nat) (w : World) (r : Rs × List Ac) (e : Ending) (w' : World) : Prop :=
  ∃ v xs, e = .returned (.tuple #[.agg #[.string (opS r.1.op), .string (strOfNums r.1.sq), .slice q n c], v]) ∧ xs.map Prod.fst = r.2 ∧ OwnX w' w.heap.size v xs ∧ Below w.heap.size w w'
set_option maxHeartbeats 8000000 in
set_option maxRecDepth 100000 in
theorem rescape_any (s : Rs) (q : Option Addr) (n c : Nat) (r : Int) (w : World) (hby : ∀ x ∈ s.sq, Byte x) (hsz : s.sq.length ≤ 100000) : Calls Try.prog 48 #[.agg #[.string (opS s.op), .string (strOfNums s.sq), .slice q n c], .int .i32 r] w (RSt q n c w (escR s r)) := by
  obtain ⟨o, sq, d⟩ := s
  simp only at hby hsz
  have hs : (strOfNums sq).size = sq.length := strOf_size _
  have cA : ∀ W, Calls Try.prog 47 #[.agg #[.string (opS o), .string (strOfNums sq), .slice q n c], .int .i32 r] W fun e w' => e = .returned (.agg #[.string (opS o), .string (strOfNums (sq ++ enc1 r)), .slice q n c]) ∧ Below W.heap.size W w' := fun W => by
    have := and_any (opS o) (strOfNums sq) q n c r W (by omega)
    rw [strOf_app] at this; exact this
  have cT : ∀ x W, Calls Try.prog 43 #[.agg #[.string (opS o), .string (strOfNums sq), .slice q n c], .string x] W fun e w' => e = .returned (.agg #[.string x, .string ⟨#[]⟩, .slice q n c]) ∧ Below W.heap.size W w' := fun x W => to_any (opS o) (strOfNums sq) x q n c W
  unfold escR
  by_cases hin : 32 ≤ r ∧ r < 48
  · rw [if_pos hin]
    show Calls Try.prog 48 _ _ (RSt q n c w (⟨o, sq ++ enc1 r, d⟩, []))
    obtain ⟨hin1, hin2⟩ := hin
    clear cT
    go_enter Try.func48, Try.ntmps48
    go_wp2_with (first | (go_at_call 47; (with_reducible refine (cA _).mono ?_); rintro e w1 ⟨rfl, hb1⟩; obtain ⟨X, rfl⟩ := GW.of hb1; clear hb1))
    refine ret_row_tmp (n := 3) rfl rfl Try.underlying35 rfl (by kernel_rfl) rfl ⟨_, by simp (maxDischargeDepth := 6) [go_sem] <;> rfl, rfl, ?_⟩
    exact ⟨.slice none 0 0, [], rfl, rfl, OwnX.nil _ _, (by repeat (first | with_reducible exact Below.refl _ _ | with_reducible assumption | with_reducible exact GW.grow _ | with_reducible refine bl_alloc ?_ _ | with_reducible refine Below.drew ?_ | (with_reducible refine Below.setCell ?_ ?_ _; rotate_left; focus (simp; first | done | omega)) | with_reducible refine bl_trans ?_ (GW.grow _) | (with_reducible refine bl_trans ?_ (by assumption))))⟩
  rw [if_neg hin]
  have hnin : ¬ (32 ≤ r) ∨ ¬ (r < 48) := by omega
  by_cases hout : r < 48 ∨ 126 < r
  · rw [if_pos hout]
    show Calls Try.prog 48 _ _ (RSt q n c w (⟨0, [], d⟩, []))
    clear cA
    by_cases h48 : r < 48
    · have h32 : ¬ 32 ≤ r := by omega
      clear hin hnin hout
      go_enter Try.func48, Try.ntmps48
      go_wp2_with (first | (go_at_call 43; (with_reducible refine (cT _ _).mono ?_); rintro e w1 ⟨rfl, hb1⟩; obtain ⟨X, rfl⟩ := GW.of hb1; clear hb1))
      refine ret_row_tmp (n := 3) rfl rfl Try.underlying35 rfl (by kernel_rfl) rfl ⟨_, by simp (maxDischargeDepth := 6) [go_sem] <;> rfl, rfl, ?_⟩
      exact ⟨.slice none 0 0, [], rfl, rfl, OwnX.nil _ _, (by repeat (first | with_reducible exact Below.refl _ _ | with_reducible assumption | with_reducible exact GW.grow _ | with_reducible refine bl_alloc ?_ _ | with_reducible refine Below.drew ?_ | (with_reducible refine Below.setCell ?_ ?_ _; rotate_left; focus (simp; first | done | omega)) | with_reducible refine bl_trans ?_ (GW.grow _) | (with_reducible refine bl_trans ?_ (by assumption))))⟩
    · have h126 : 126 < r := by omega
      clear hin hnin hout
      go_enter Try.func48, Try.ntmps48
      go_wp2_with (first | (go_at_call 43; (with_reducible refine (cT _ _).mono ?_); rintro e w1 ⟨rfl, hb1⟩; obtain ⟨X, rfl⟩ := GW.of hb1; clear hb1))
      refine ret_row_tmp (n := 3) rfl rfl Try.underlying35 rfl (by kernel_rfl) rfl ⟨_, by simp (maxDischargeDepth := 6) [go_sem] <;> rfl, rfl, ?_⟩
      exact ⟨.slice none 0 0, [], rfl, rfl, OwnX.nil _ _, (by repeat (first | with_reducible exact Below.refl _ _ | with_reducible assumption | with_reducible exact GW.grow _ | with_reducible refine bl_alloc ?_ _ | with_reducible refine Below.drew ?_ | (with_reducible refine Below.setCell ?_ ?_ _; rotate_left; focus (simp; first | done | omega)) | with_reducible refine bl_trans ?_ (GW.grow _) | (with_reducible refine bl_trans ?_ (by assumption))))⟩
  rw [if_neg hout]
  have h48 : ¬ r < 48 := by omega
  have h126 : ¬ 126 < r := by omega
  clear hin hnin hout cA
  have hact : ∀ B, Own w B 3 .i64 (.slice none 0 0) [] := fun B => Own.nil _ _ _ _
  by_cases hnil : sq = []
  · subst hnil
    simp only [true_and]
    by_cases h91 : r = 91
    · subst h91
      rw [if_pos rfl]
      show Calls Try.prog 48 #[.agg #[.string (opS o), .string ⟨#[]⟩, .slice q n c], .int .i32 91] _ (RSt q n c w (⟨2, [], d⟩, []))
      have cT : ∀ x W, Calls Try.prog 43 #[.agg #[.string (opS o), .string ⟨#[]⟩, .slice q n c], .string x] W fun e w' => e = .returned (.agg #[.string x, .string ⟨#[]⟩, .slice q n c]) ∧ Below W.heap.size W w' := cT
      go_enter Try.func48, Try.ntmps48
      go_wp2_with (first | (go_at_call 43; (with_reducible refine (cT _ _).mono ?_); rintro e w1 ⟨rfl, hb1⟩; obtain ⟨X, rfl⟩ := GW.of hb1; clear hb1))
      refine ret_row_tmp (n := 3) rfl rfl Try.underlying35 rfl (by kernel_rfl) rfl ⟨_, by simp (maxDischargeDepth := 6) [go_sem] <;> rfl, rfl, ?_⟩
      exact ⟨.slice none 0 0, [], rfl, rfl, OwnX.nil _ _, (by repeat (first | with_reducible exact Below.refl _ _ | with_reducible assumption | with_reducible exact GW.grow _ | with_reducible refine bl_alloc ?_ _ | with_reducible refine Below.drew ?_ | (with_reducible refine Below.setCell ?_ ?_ _; rotate_left; focus (simp; first | done | omega)) | with_reducible refine bl_trans ?_ (GW.grow _) | (with_reducible refine bl_trans ?_ (by assumption))))⟩
    rw [if_neg h91]
    by_cases h93 : r = 93
    · subst h93
      rw [if_pos rfl]
      show Calls Try.prog 48 #[.agg #[.string (opS o), .string ⟨#[]⟩, .slice q n c], .int .i32 93] _ (RSt q n c w (⟨3, [], d⟩, []))
      have cT : ∀ x W, Calls Try.prog 43 #[.agg #[.string (opS o), .string ⟨#[]⟩, .slice q n c], .string x] W fun e w' => e = .returned (.agg #[.string x, .string ⟨#[]⟩, .slice q n c]) ∧ Below W.heap.size W w' := cT
      go_enter Try.func48, Try.ntmps48
      go_wp2_with (first | (go_at_call 43; (with_reducible refine (cT _ _).mono ?_); rintro e w1 ⟨rfl, hb1⟩; obtain ⟨X, rfl⟩ := GW.of hb1; clear hb1))
      refine ret_row_tmp (n := 3) rfl rfl Try.underlying35 rfl (by kernel_rfl) rfl ⟨_, by simp (maxDischargeDepth := 6) [go_sem] <;> rfl, rfl, ?_⟩
      exact ⟨.slice none 0 0, [], rfl, rfl, OwnX.nil _ _, (by repeat (first | with_reducible exact Below.refl _ _ | with_reducible assumption | with_reducible exact GW.grow _ | with_reducible refine bl_alloc ?_ _ | with_reducible refine Below.drew ?_ | (with_reducible refine Below.setCell ?_ ?_ _; rotate_left; focus (simp; first | done | omega)) | with_reducible refine bl_trans ?_ (GW.grow _) | (with_reducible refine bl_trans ?_ (by assumption))))⟩
    rw [if_neg h93]
    by_cases hsk : r = 80 ∨ r = 88 ∨ r = 94 ∨ r = 95
    · rw [if_pos hsk]
      have cT : ∀ x W, Calls Try.prog 43 #[.agg #[.string (opS o), .string ⟨#[]⟩, .slice q n c], .string x] W fun e w' => e = .returned (.agg #[.string x, .string ⟨#[]⟩, .slice q n c]) ∧ Below W.heap.size W w' := cT
      rcases hsk with rfl | rfl | rfl | rfl
      · show Calls Try.prog 48 #[.agg #[.string (opS o), .string ⟨#[]⟩, .slice q n c], .int .i32 80] _ (RSt q n c w (⟨4, [], d⟩, []))
        go_enter Try.func48, Try.ntmps48
        go_wp2_with (first | (go_at_call 43; (with_reducible refine (cT _ _).mono ?_); rintro e w1 ⟨rfl, hb1⟩; obtain ⟨X, rfl⟩ := GW.of hb1; clear hb1))
        refine ret_row_tmp (n := 3) rfl rfl Try.underlying35 rfl (by kernel_rfl) rfl ⟨_, by simp (maxDischargeDepth := 6) [go_sem] <;> rfl, rfl, ?_⟩
        exact ⟨.slice none 0 0, [], rfl, rfl, OwnX.nil _ _, (by repeat (first | with_reducible exact Below.refl _ _ | with_reducible assumption | with_reducible exact GW.grow _ | with_reducible refine bl_alloc ?_ _ | with_reducible refine Below.drew ?_ | (with_reducible refine Below.setCell ?_ ?_ _; rotate_left; focus (simp; first | done | omega)) | with_reducible refine bl_trans ?_ (GW.grow _) | (with_reducible refine bl_trans ?_ (by assumption))))⟩
      · show Calls Try.prog 48 #[.agg #[.string (opS o), .string ⟨#[]⟩, .slice q n c], .int .i32 88] _ (RSt q n c w (⟨4, [], d⟩, []))
        go_enter Try.func48, Try.ntmps48
        go_wp2_with (first | (go_at_call 43; (with_reducible refine (cT _ _).mono ?_); rintro e w1 ⟨rfl, hb1⟩; obtain ⟨X, rfl⟩ := GW.of hb1; clear hb1))
        refine ret_row_tmp (n := 3) rfl rfl Try.underlying35 rfl (by kernel_rfl) rfl ⟨_, by simp (maxDischargeDepth := 6) [go_sem] <;> rfl, rfl, ?_⟩
        exact ⟨.slice none 0 0, [], rfl, rfl, OwnX.nil _ _, (by repeat (first | with_reducible exact Below.refl _ _ | with_reducible assumption | with_reducible exact GW.grow _ | with_reducible refine bl_alloc ?_ _ | with_reducible refine Below.drew ?_ | (with_reducible refine Below.setCell ?_ ?_ _; rotate_left; focus (simp; first | done | omega)) | with_reducible refine bl_trans ?_ (GW.grow _) | (with_reducible refine bl_trans ?_ (by assumption))))⟩
      · show Calls Try.prog 48 #[.agg #[.string (opS o), .string ⟨#[]⟩, .slice q n c], .int .i32 94] _ (RSt q n c w (⟨4, [], d⟩, []))
        go_enter Try.func48, Try.ntmps48
        go_wp2_with (first | (go_at_call 43; (with_reducible refine (cT _ _).mono ?_); rintro e w1 ⟨rfl, hb1⟩; obtain ⟨X, rfl⟩ := GW.of hb1; clear hb1))
        refine ret_row_tmp (n := 3) rfl rfl Try.underlying35 rfl (by kernel_rfl) rfl ⟨_, by simp (maxDischargeDepth := 6) [go_sem] <;> rfl, rfl, ?_⟩
        exact ⟨.slice none 0 0, [], rfl, rfl, OwnX.nil _ _, (by repeat (first | with_reducible exact Below.refl _ _ | with_reducible assumption | with_reducible exact GW.grow _ | with_reducible refine bl_alloc ?_ _ | with_reducible refine Below.drew ?_ | (with_reducible refine Below.setCell ?_ ?_ _; rotate_left; focus (simp; first | done | omega)) | with_reducible refine bl_trans ?_ (GW.grow _) | (with_reducible refine bl_trans ?_ (by assumption))))⟩
      · show Calls Try.prog 48 #[.agg #[.string (opS o), .string ⟨#[]⟩, .slice q n c], .int .i32 95] _ (RSt q n c w (⟨4, [], d⟩, []))
        go_enter Try.func48, Try.ntmps48
        go_wp2_with (first | (go_at_call 43; (with_reducible refine (cT _ _).mono ?_); rintro e w1 ⟨rfl, hb1⟩; obtain ⟨X, rfl⟩ := GW.of hb1; clear hb1))
        refine ret_row_tmp (n := 3) rfl rfl Try.underlying35 rfl (by kernel_rfl) rfl ⟨_, by simp (maxDischargeDepth := 6) [go_sem] <;> rfl, rfl, ?_⟩
        exact ⟨.slice none 0 0, [], rfl, rfl, OwnX.nil _ _, (by repeat (first | with_reducible exact Below.refl _ _ | with_reducible assumption | with_reducible exact GW.grow _ | with_reducible refine bl_alloc ?_ _ | with_reducible refine Below.drew ?_ | (with_reducible refine Below.setCell ?_ ?_ _; rotate_left; focus (simp; first | done | omega)) | with_reducible refine bl_trans ?_ (GW.grow _) | (with_reducible refine bl_trans ?_ (by assumption))))⟩
    rw [if_neg hsk]
    have k80 : ¬ r = 80 := fun k => hsk (.inl k)
    have k88 : ¬ r = 88 := fun k => hsk (.inr (.inl k))
    have k94 : ¬ r = 94 := fun k => hsk (.inr (.inr (.inl k)))
    have k95 : ¬ r = 95 := fun k => hsk (.inr (.inr (.inr k)))
    clear hsk
    have b80 : (r == 80) = false := by rw [beq_eq_false_iff_ne]; exact k80
    have b88 : (r == 88) = false := by rw [beq_eq_false_iff_ne]; exact k88
    have b94 : (r == 94) = false := by rw [beq_eq_false_iff_ne]; exact k94
    have b95 : (r == 95) = false := by rw [beq_eq_false_iff_ne]; exact k95
    have cT : ∀ x W, Calls Try.prog 43 #[.agg #[.string (opS o), .string ⟨#[]⟩, .slice q n c], .string x] W fun e w' => e = .returned (.agg #[.string x, .string ⟨#[]⟩, .slice q n c]) ∧ Below W.heap.size W w' := cT
    have hok : okA (esA [] r) := ⟨by simp [esA], by simp [esA]⟩
    show Calls Try.prog 48 #[.agg #[.string (opS o), .string ⟨#[]⟩, .slice q n c], .int .i32 r] _ (RSt q n c w (⟨0, [], d⟩, [esA [] r]))
    have cO : ∀ W, Calls Try.prog 44 #[.agg #[.int .i64 3, .int .i32 r, .int .i32 0, .string ⟨#[]⟩, .slice none 0 0, .string ⟨#[]⟩]] W fun e w' => ∃ v, e = .returned v ∧ OwnX w' W.heap.size v [(esA [] r, .slice none 0 0)] ∧ Below W.heap.size W w' := fun W => rone_any (esA [] r) none 0 0 W.heap.size W (Own.nil _ _ _ _) (Nat.le_refl _) hok
    go_enter Try.func48, Try.ntmps48
    go_upto_region 13 with fail
    refine wp_name (fun Z => Below w.heap.size w Z ∧ Box Z w.heap.size #[.string (opS o), .string ⟨#[]⟩, .slice q n c] 35 ∧ Box Z (w.heap.size + 1) #[.string ⟨#[]⟩, .string ⟨#[]⟩, .slice none 0 0] 35) ⟨(by repeat (first | with_reducible exact Below.refl _ _ | with_reducible assumption | with_reducible exact GW.grow _ | with_reducible refine bl_alloc ?_ _ | with_reducible refine Below.drew ?_ | (with_reducible refine Below.setCell ?_ ?_ _; rotate_left; focus (simp; first | done | omega)) | with_reducible refine bl_trans ?_ (GW.grow _) | (with_reducible refine bl_trans ?_ (by assumption)))), (by first | with_reducible assumption | (apply Box.as; (focus (repeat (first | with_reducible assumption | (with_reducible apply Box.new; simp; done) | with_reducible apply Box.gw | with_reducible apply Box.drew | with_reducible apply Box.alloc | with_reducible apply Box.set | (with_reducible apply Box.set_other; case hg => omega)))); rfl)), (by first | with_reducible assumption | (apply Box.as; (focus (repeat (first | with_reducible assumption | (with_reducible apply Box.new; simp; done) | with_reducible apply Box.gw | with_reducible apply Box.drew | with_reducible apply Box.alloc | with_reducible apply Box.set | (with_reducible apply Box.set_other; case hg => omega)))); rfl))⟩ ?_
    rintro W0 ⟨hW0, xA, xR⟩
    refine wp_region_V (fun u1 u2 => Bar (w.heap.size + 1) u1 u2) (by kernel_rfl) ?_
    have hTr : ∀ u1 u2 u3 : World, Bar (w.heap.size + 1) u1 u2 → Bar (w.heap.size + 1) u2 u3 → Bar (w.heap.size + 1) u1 u3 := fun _ _ _ h1 h2 => Bar.trans h1 h2
    have hGr : ∀ u1 u2 : World, Gr u1 u2 → Bar (w.heap.size + 1) u1 u2 := fun _ _ h1 => Below.bar _ h1
    have hcur : Bar (w.heap.size + 1) W0 W0.drew := Bar.drew (Bar.refl _ _)
    have hgw : Below w.heap.size w W0.drew := hW0.drew
    have xR6 : Box W0.drew (w.heap.size + 1) #[.string ⟨#[]⟩, .string ⟨#[]⟩, .slice none 0 0] 35 := xR
    generalize W0.drew = W6 at *
    refine wpAnyV_takeS hTr hGr (A := ?A0a) 0 rfl (by kernel_rfl) (by kernel_rfl) (by kernel_rfl) (fun _ _ _ _ h => h) ?q0a ?r0a
    case q0a =>
      intro W hW
      have hWW := hcur.trans hW; have xa := xA.bar hWW (by omega); have xc := xa.cell; have xl := xa.lt
      try simp only [List.getElem_toArray, List.getElem_cons_zero, List.getElem_cons_succ]
      go_big_quiet_step (fail)
      refine wpQuiet_nil ?_
      rfl
    refine wpAnyV_takeS hTr hGr (A := ?A1a) 1 rfl (by kernel_rfl) (by kernel_rfl) (by kernel_rfl) (fun _ _ _ _ h => h) ?q1a ?r1a
    case q1a =>
      intro W hW
      try simp only [List.getElem_toArray, List.getElem_cons_zero, List.getElem_cons_succ]
      go_big_quiet_step ((go_at_call 43; with_reducible exact GW.call (cT _ _)))
      refine wpQuiet_nil ?_
      rfl
    refine wpAnyV_takeS hTr hGr (A := ?A2a) 2 rfl (by kernel_rfl) (by kernel_rfl) (by kernel_rfl) (fun _ _ _ _ h => h) ?q2a ?r2a
    case q2a =>
      intro W hW
      try simp only [List.getElem_toArray, List.getElem_cons_zero, List.getElem_cons_succ]
      go_big_quiet_step (fail)
      refine wpQuiet_nil ?_
      rfl
    refine wpAnyV_takeS hTr hGr (A := ?A3a) 3 rfl (by kernel_rfl) (by kernel_rfl) (by kernel_rfl) (fun _ _ _ _ h => h) ?q3a ?r3a
    case q3a =>
      intro W hW
      have hWW := hcur.trans hW; have xa := xA.bar hWW (by omega); have xc := xa.cell; have xl := xa.lt
      try simp only [List.getElem_toArray, List.getElem_cons_zero, List.getElem_cons_succ]
      go_big_quiet_step (fail)
      refine wpQuiet_nil ?_
      rfl
    refine wpAnyV_takeS hTr hGr (A := ?A4a) 4 rfl (by kernel_rfl) (by kernel_rfl) (by kernel_rfl) (fun _ _ _ _ h => h) ?q4a ?r4a
    case q4a =>
      intro W hW
      try simp only [List.getElem_toArray, List.getElem_cons_zero, List.getElem_cons_succ]
      go_big_quiet_step (fail)
      refine wpQuiet_nil ?_
      rfl
    refine wpAnyV_takeS hTr hGr (A := ?A5a) 5 rfl (by kernel_rfl) (by kernel_rfl) (by kernel_rfl) (fun _ _ _ _ h => h) ?q5a ?r5a
    case q5a =>
      intro W hW
      try simp only [List.getElem_toArray, List.getElem_cons_zero, List.getElem_cons_succ]
      go_big_quiet_step (fail)
      refine wpQuiet_nil ?_
      rfl
    refine wpAnyV_one 6 (by kernel_rfl) ?_
    intro W hW
    replace hgw := bl_trans hgw hW
    have xR7 := Box.past hW xR6
    have hRW := xR7.lt
    refine wpOp_step rfl (fun K hK => ?_)
    go_simp
    (with_reducible refine (cO W).mono ?_)
    rintro e wn ⟨v1, rfl, ho1, hbn⟩
    go_simp
    refine hK _ _ ⟨Below.bar _ hbn, ?_⟩
    clear hK K
    try simp only [Act.put, List.getElem_toArray, List.getElem_cons_zero, List.getElem_cons_succ, List.setIfInBounds_toArray, List.set_cons_zero, List.set_cons_succ]
    replace hgw := bl_trans hgw hbn
    have xR8 := Box.past hbn xR7
    refine wpAnyV_one 7 (by kernel_rfl) ?_
    intro W2 hW2
    replace hgw := bl_trans hgw hW2
    have xR9 := Box.past hW2 xR8
    have hc9 := xR9.cell
    have hf9 := xR9.free
    have hl9 := xR9.lt
    refine wpOp_step rfl (fun K hK => ?_)
    go_simp
    refine hK _ _ ⟨Bar3 _ _ _ _ _, ?_⟩
    clear hK K
    try simp only [Act.put, List.getElem_toArray, List.getElem_cons_zero, List.getElem_cons_succ, List.setIfInBounds_toArray, List.set_cons_zero, List.set_cons_succ]
    have yE := set3 xR9 (.string ⟨#[]⟩) (.string ⟨#[]⟩) (.slice q n c)
    have yB := Bar3 (w.heap.size + 1) W2 (.string ⟨#[]⟩) (.string ⟨#[]⟩) (.slice q n c)
    have ho2 := ((ho1.kept hW2).bar yB hRW).weaken (Nat.le_trans (by omega) (Nat.le_of_lt hRW) : w.heap.size ≤ W.heap.size)
    have hgE := Bar.to_below hgw yB (by omega)
    refine wpAnyV_takeS hTr hGr (A := ?A8a) 8 rfl (by kernel_rfl) (by kernel_rfl) (by kernel_rfl) (fun _ _ _ _ h => h) ?q8a ?r8a
    case q8a =>
      intro W hW
      try simp only [List.getElem_toArray, List.getElem_cons_zero, List.getElem_cons_succ]
      go_big_quiet_step (fail)
      refine wpQuiet_nil ?_
      rfl
    refine wpAnyV_done (by kernel_rfl) ?_ _
    intro W3 hW3
    have yE3 := Box.past hW3 yE
    have yEl := yE3.lt
    have ho3 := ho2.kept hW3
    go_wp2_with fail
    refine ret_row_tmp (n := 3) rfl rfl Try.underlying35 rfl (by kernel_rfl) rfl ⟨_, by simp (maxDischargeDepth := 6) [go_sem, Box.row yE3, yEl] <;> rfl, rfl, ?_⟩
    exact ⟨v1, [(esA [] r, .slice none 0 0)], rfl, rfl, ho3, bl_trans hgE hW3⟩
  · simp only [hnil, false_and, if_false]
    by_cases hl : 2 < sq.length
    · rw [if_pos hl]
      show Calls Try.prog 48 _ _ (RSt q n c w (⟨0, [], d⟩, []))
      have z := str_ne sq hnil
      have hlI : (2 : Int) < (sq.length : Int) := by omega
      clear hnil
      go_enter Try.func48, Try.ntmps48
      go_wp2_with (first | (go_at_call 43; (with_reducible refine (cT _ _).mono ?_); rintro e w1 ⟨rfl, hb1⟩; obtain ⟨X, rfl⟩ := GW.of hb1; clear hb1))
      refine ret_row_tmp (n := 3) rfl rfl Try.underlying35 rfl (by kernel_rfl) rfl ⟨_, by simp (maxDischargeDepth := 6) [go_sem] <;> rfl, rfl, ?_⟩
      exact ⟨.slice none 0 0, [], rfl, rfl, OwnX.nil _ _, (by repeat (first | with_reducible exact Below.refl _ _ | with_reducible assumption | with_reducible exact GW.grow _ | with_reducible refine bl_alloc ?_ _ | with_reducible refine Below.drew ?_ | (with_reducible refine Below.setCell ?_ ?_ _; rotate_left; focus (simp; first | done | omega)) | with_reducible refine bl_trans ?_ (GW.grow _) | (with_reducible refine bl_trans ?_ (by assumption))))⟩
    · rw [if_neg hl]
      have z := str_ne sq hnil
      have hlI : ¬ (2 : Int) < (sq.length : Int) := by omega
      have hok : okA (esA sq r) := ⟨hby, by simp [esA]⟩
      show Calls Try.prog 48 _ _ (RSt q n c w (⟨0, [], d⟩, [esA sq r]))
      have cO : ∀ W, Calls Try.prog 44 #[.agg #[.int .i64 3, .int .i32 r, .int .i32 0, .string (strOfNums sq), .slice none 0 0, .string ⟨#[]⟩]] W fun e w' => ∃ v, e = .returned v ∧ OwnX w' W.heap.size v [(esA sq r, .slice none 0 0)] ∧ Below W.heap.size W w' := fun W => rone_any (esA sq r) none 0 0 W.heap.size W (Own.nil _ _ _ _) (Nat.le_refl _) hok
      go_enter Try.func48, Try.ntmps48
      go_upto_region 13 with fail
      refine wp_name (fun Z => Below w.heap.size w Z ∧ Box Z w.heap.size #[.string (opS o), .string (strOfNums sq), .slice q n c] 35 ∧ Box Z (w.heap.size + 1) #[.string ⟨#[]⟩, .string ⟨#[]⟩, .slice none 0 0] 35) ⟨(by repeat (first | with_reducible exact Below.refl _ _ | with_reducible assumption | with_reducible exact GW.grow _ | with_reducible refine bl_alloc ?_ _ | with_reducible refine Below.drew ?_ | (with_reducible refine Below.setCell ?_ ?_ _; rotate_left; focus (simp; first | done | omega)) | with_reducible refine bl_trans ?_ (GW.grow _) | (with_reducible refine bl_trans ?_ (by assumption)))), (by first | with_reducible assumption | (apply Box.as; (focus (repeat (first | with_reducible assumption | (with_reducible apply Box.new; simp; done) | with_reducible apply Box.gw | with_reducible apply Box.drew | with_reducible apply Box.alloc | with_reducible apply Box.set | (with_reducible apply Box.set_other; case hg => omega)))); rfl)), (by first | with_reducible assumption | (apply Box.as; (focus (repeat (first | with_reducible assumption | (with_reducible apply Box.new; simp; done) | with_reducible apply Box.gw | with_reducible apply Box.drew | with_reducible apply Box.alloc | with_reducible apply Box.set | (with_reducible apply Box.set_other; case hg => omega)))); rfl))⟩ ?_
      rintro W0 ⟨hW0, xA, xR⟩
      refine wp_region_V (fun u1 u2 => Bar (w.heap.size + 1) u1 u2) (by kernel_rfl) ?_
      have hTr : ∀ u1 u2 u3 : World, Bar (w.heap.size + 1) u1 u2 → Bar (w.heap.size + 1) u2 u3 → Bar (w.heap.size + 1) u1 u3 := fun _ _ _ h1 h2 => Bar.trans h1 h2
      have hGr : ∀ u1 u2 : World, Gr u1 u2 → Bar (w.heap.size + 1) u1 u2 := fun _ _ h1 => Below.bar _ h1
      have hcur : Bar (w.heap.size + 1) W0 W0.drew := Bar.drew (Bar.refl _ _)
      have hgw : Below w.heap.size w W0.drew := hW0.drew
      have xR6 : Box W0.drew (w.heap.size + 1) #[.string ⟨#[]⟩, .string ⟨#[]⟩, .slice none 0 0] 35 := xR
      generalize W0.drew = W6 at *
      refine wpAnyV_takeS hTr hGr (A := ?A0b) 0 rfl (by kernel_rfl) (by kernel_rfl) (by kernel_rfl) (fun _ _ _ _ h => h) ?q0b ?r0b
      case q0b =>
        intro W hW
        have hWW := hcur.trans hW; have xa := xA.bar hWW (by omega); have xc := xa.cell; have xl := xa.lt
        try simp only [List.getElem_toArray, List.getElem_cons_zero, List.getElem_cons_succ]
        go_big_quiet_step (fail)
        refine wpQuiet_nil ?_
        rfl
      refine wpAnyV_takeS hTr hGr (A := ?A1b) 1 rfl (by kernel_rfl) (by kernel_rfl) (by kernel_rfl) (fun _ _ _ _ h => h) ?q1b ?r1b
      case q1b =>
        intro W hW
        try simp only [List.getElem_toArray, List.getElem_cons_zero, List.getElem_cons_succ]
        go_big_quiet_step ((go_at_call 43; with_reducible exact GW.call (cT _ _)))
        refine wpQuiet_nil ?_
        rfl
      refine wpAnyV_takeS hTr hGr (A := ?A2b) 2 rfl (by kernel_rfl) (by kernel_rfl) (by kernel_rfl) (fun _ _ _ _ h => h) ?q2b ?r2b
      case q2b =>
        intro W hW
        try simp only [List.getElem_toArray, List.getElem_cons_zero, List.getElem_cons_succ]
        go_big_quiet_step (fail)
        refine wpQuiet_nil ?_
        rfl
      refine wpAnyV_takeS hTr hGr (A := ?A3b) 3 rfl (by kernel_rfl) (by kernel_rfl) (by kernel_rfl) (fun _ _ _ _ h => h) ?q3b ?r3b
      case q3b =>
        intro W hW
        have hWW := hcur.trans hW; have xa := xA.bar hWW (by omega); have xc := xa.cell; have xl := xa.lt
        try simp only [List.getElem_toArray, List.getElem_cons_zero, List.getElem_cons_succ]
        go_big_quiet_step (fail)
        refine wpQuiet_nil ?_
        rfl
      refine wpAnyV_takeS hTr hGr (A := ?A4b) 4 rfl (by kernel_rfl) (by kernel_rfl) (by kernel_rfl) (fun _ _ _ _ h => h) ?q4b ?r4b
      case q4b =>
        intro W hW
        try simp only [List.getElem_toArray, List.getElem_cons_zero, List.getElem_cons_succ]
        go_big_quiet_step (fail)
        refine wpQuiet_nil ?_
        rfl
      refine wpAnyV_takeS hTr hGr (A := ?A5b) 5 rfl (by kernel_rfl) (by kernel_rfl) (by kernel_rfl) (fun _ _ _ _ h => h) ?q5b ?r5b
      case q5b =>
        intro W hW
        try simp only [List.getElem_toArray, List.getElem_cons_zero, List.getElem_cons_succ]
        go_big_quiet_step (fail)
        refine wpQuiet_nil ?_
        rfl
      refine wpAnyV_one 6 (by kernel_rfl) ?_
      intro W hW
      replace hgw := bl_trans hgw hW
      have xR7 := Box.past hW xR6
      have hRW := xR7.lt
      refine wpOp_step rfl (fun K hK => ?_)
      go_simp
      (with_reducible refine (cO W).mono ?_)
      rintro e wn ⟨v1, rfl, ho1, hbn⟩
      go_simp
      refine hK _ _ ⟨Below.bar _ hbn, ?_⟩
      clear hK K
      try simp only [Act.put, List.getElem_toArray, List.getElem_cons_zero, List.getElem_cons_succ, List.setIfInBounds_toArray, List.set_cons_zero, List.set_cons_succ]
      replace hgw := bl_trans hgw hbn
      have xR8 := Box.past hbn xR7
      refine wpAnyV_one 7 (by kernel_rfl) ?_
      intro W2 hW2
      replace hgw := bl_trans hgw hW2
      have xR9 := Box.past hW2 xR8
      have hc9 := xR9.cell
      have hf9 := xR9.free
      have hl9 := xR9.lt
      refine wpOp_step rfl (fun K hK => ?_)
      go_simp
      refine hK _ _ ⟨Bar3 _ _ _ _ _, ?_⟩
      clear hK K
      try simp only [Act.put, List.getElem_toArray, List.getElem_cons_zero, List.getElem_cons_succ, List.setIfInBounds_toArray, List.set_cons_zero, List.set_cons_succ]
      have yE := set3 xR9 (.string ⟨#[]⟩) (.string ⟨#[]⟩) (.slice q n c)
      have yB := Bar3 (w.heap.size + 1) W2 (.string ⟨#[]⟩) (.string ⟨#[]⟩) (.slice q n c)
      have ho2 := ((ho1.kept hW2).bar yB hRW).weaken (Nat.le_trans (by omega) (Nat.le_of_lt hRW) : w.heap.size ≤ W.heap.size)
      have hgE := Bar.to_below hgw yB (by omega)
      refine wpAnyV_takeS hTr hGr (A := ?A8b) 8 rfl (by kernel_rfl) (by kernel_rfl) (by kernel_rfl) (fun _ _ _ _ h => h) ?q8b ?r8b
      case q8b =>
        intro W hW
        try simp only [List.getElem_toArray, List.getElem_cons_zero, List.getElem_cons_succ]
        go_big_quiet_step (fail)
        refine wpQuiet_nil ?_
        rfl
      refine wpAnyV_done (by kernel_rfl) ?_ _
      intro W3 hW3
      have yE3 := Box.past hW3 yE
      have yEl := yE3.lt
      have ho3 := ho2.kept hW3
      go_wp2_with fail
      refine ret_row_tmp (n := 3) rfl rfl Try.underlying35 rfl (by kernel_rfl) rfl ⟨_, by simp (maxDischargeDepth := 6) [go_sem, Box.row yE3, yEl] <;> rfl, rfl, ?_⟩
      exact ⟨v1, [(esA sq r, .slice none 0 0)], rfl, rfl, ho3, bl_trans hgE hW3⟩

end Go.Proofs.Ytpkkfcfkhiaggaa
