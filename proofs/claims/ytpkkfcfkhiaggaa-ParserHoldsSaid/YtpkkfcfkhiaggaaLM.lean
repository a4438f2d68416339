/- parser: the reference, its small functions. Printed by mk_l.py. parser: the reference, one more rune. Printed by mk_m.py. -/
import Derived.Test.YtpkkfcfkhiaggaaJK
import Derived.Test.YtpkkfcfkhiaggaaUX
import Derived.Test.YtpkkfcfkhiaggaaLate3
import Derived.Test.YtpkkfcfkhiaggaaMB
import Derived.Deep.CutBlock
import Derived.Deep.DeepCutAuto
import Derived.Outline
import Derived.Test.YtpkkfcfkhiaggaaLate
set_option linter.unusedSimpArgs false
set_option linter.unusedVariables false
set_option linter.unnecessarySimpa false
namespace Go.Proofs.Ytpkkfcfkhiaggaa
open Go.RowKit
open Go.Proofs.Ytpkkfcfkhiaggaa.Pm (fineR addB addO bldQ refL bldC BldV bldC_len)

theorem Below.bar {w w' : World} (D : Nat) (h : Below w.heap.size w w') : Bar D w w' := (Bar.refl D w).below h
theorem Box.past {w w' : World} {b : Nat} {cs : Array Value} {t : TypeId} (hb : Below w.heap.size w w') (h : Box w b cs t) : Box w' b cs t := (hb.block _ (Box.lt h)).trans h
theorem Box.bar {w w' : World} {b D : Nat} {cs : Array Value} {t : TypeId} (h : Box w b cs t) (hb : Bar D w w') (hne : b ≠ D) : Box w' b cs t := (hb.block b hne h.lt).trans h
theorem Bar3 (D : Nat) (w : World) (a b c : Value) : Bar D w (((w.setCell ⟨D, 0, none⟩ a).setCell ⟨D, 1, none⟩ b).setCell ⟨D, 2, none⟩ c) := (((Bar.refl D w).set 0 _).set 1 _).set 2 _
theorem set3 {w : World} {D : Nat} {v0 v1 v2 : Value} {t : TypeId} (h : Box w D #[v0, v1, v2] t) (a b c : Value) : Box (((w.setCell ⟨D, 0, none⟩ a).setCell ⟨D, 1, none⟩ b).setCell ⟨D, 2, none⟩ c) D #[a, b, c] t := ((h.set 0 a).set 1 b).set 2 c
set_option maxHeartbeats 1000000 in
theorem to_any (a b x : ByteArray) (q : Option Addr) (n c : Nat) (w : World) : Calls Try.prog 43 #[.agg #[.string a, .string b, .slice q n c], .string x] w fun e w' => e = .returned (.agg #[.string x, .string ⟨#[]⟩, .slice q n c]) ∧ Below w.heap.size w w' := by
  go_enter Try.func43, Try.ntmps43
  go_wp2_with fail
  refine ret_row (n := 3) rfl rfl Try.underlying35 rfl (by kernel_rfl) rfl ⟨_, by simp (maxDischargeDepth := 6) [go_sem] <;> rfl, rfl, ?_⟩
  exact ⟨rfl, (by repeat (first | with_reducible exact Below.refl _ _ | with_reducible assumption | with_reducible exact GW.grow _ | with_reducible refine bl_alloc ?_ _ | with_reducible refine Below.drew ?_ | (with_reducible refine Below.setCell ?_ ?_ _; rotate_left; focus (simp; first | done | omega)) | with_reducible refine bl_trans ?_ (GW.grow _) | (with_reducible refine bl_trans ?_ (by assumption))))⟩
theorem rone_any (a : Ac) (q : Option Addr) (n c B : Nat) (w : World) (ho : Own w B 3 .i64 (.slice q n c) a.l) (hB : B ≤ w.heap.size) (ha : okA a) : Calls Try.prog 44 #[.agg #[.int .i64 a.k, .int .i32 a.r, .int .i32 a.p, .string (strOfNums a.i), .slice q n c, .string (strOfNums a.t)]] w fun e w' => ∃ v, e = .returned v ∧ OwnX w' B v [(a, .slice q n c)] ∧ Below w.heap.size w w' := by
  have hb0 : Below w.heap.size w (w.alloc (.cells #[.int .i64 a.k, .int .i32 a.r, .int .i32 a.p, .string (strOfNums a.i), .slice q n c, .string (strOfNums a.t)] 52)) := (Below.refl _ _).alloc (Nat.le_refl _) _
  have hl := OwnX.lit (w.alloc (.cells #[.int .i64 a.k, .int .i32 a.r, .int .i32 a.p, .string (strOfNums a.i), .slice q n c, .string (strOfNums a.t)] 52)) a (.slice q n c) B (w.heap.size + 1) (by simp) (Nat.le_trans hB hb0.size) (ho.kept hb0) ha
  go_enter Try.func44, Try.ntmps44
  go_wp2_with fail
  go_ret
  exact ⟨_, rfl, hl, bl_alloc hb0 _⟩
theorem inter_any (x : Int) (w : World) (hx : Byte x) : Calls Try.prog 75 #[.int .u8 x] w fun e w' => e = .returned (.bool (isI x)) ∧ w = w' := by
  obtain ⟨hx0, hx1⟩ := hx
  go_enter Try.func75, Try.ntmps75
  go_wp2_with fail
  all_goals
    go_ret
    exact ⟨ret_bool (by rw [Bool.eq_iff_iff, isI_iff]; simp; try omega), rfl⟩

end Go.Proofs.Ytpkkfcfkhiaggaa
namespace Go.Proofs.Ytpkkfcfkhiaggaa
open Go.RowKit
open Go.Proofs.Ytpkkfcfkhiaggaa.Pm (fineR addB addO bldQ refL bldC BldV bldC_len)

set_option maxHeartbeats 4000000 in
set_option maxRecDepth 100000 in
theorem and_any (a b : ByteArray) (q : Option Addr) (n c : Nat) (r : Int) (w : World) (hs : b.size ≤ 1000000) : Calls Try.prog 47 #[.agg #[.string a, .string b, .slice q n c], .int .i32 r] w fun e w' => e = .returned (.agg #[.string a, .string (b ++ strOfNums (enc1 r)), .slice q n c]) ∧ Below w.heap.size w w' := by
  have cB := fun W => bytes_any r W
  have hes : (strOfNums (enc1 r)).size ≤ 4 := by rw [strOf_size]; exact enc1_len r
  go_enter Try.func47, Try.ntmps47
  go_upto_region 1 with fail
  refine wp_name (fun Z => Below w.heap.size w Z ∧ Box Z w.heap.size #[.string a, .string b, .slice q n c] 35 ∧ Box Z (w.heap.size + 1) #[.string ⟨#[]⟩, .string ⟨#[]⟩, .slice none 0 0] 35) ⟨(by repeat (first | with_reducible exact Below.refl _ _ | with_reducible assumption | with_reducible exact GW.grow _ | with_reducible refine bl_alloc ?_ _ | with_reducible refine Below.drew ?_ | (with_reducible refine Below.setCell ?_ ?_ _; rotate_left; focus (simp; first | done | omega)) | with_reducible refine bl_trans ?_ (GW.grow _) | (with_reducible refine bl_trans ?_ (by assumption)))), (by first | with_reducible assumption | (apply Box.as; (focus (repeat (first | with_reducible assumption | (with_reducible apply Box.new; simp; done) | with_reducible apply Box.gw | with_reducible apply Box.drew | with_reducible apply Box.alloc | with_reducible apply Box.set | (with_reducible apply Box.set_other; case hg => omega)))); rfl)), (by first | with_reducible assumption | (apply Box.as; (focus (repeat (first | with_reducible assumption | (with_reducible apply Box.new; simp; done) | with_reducible apply Box.gw | with_reducible apply Box.drew | with_reducible apply Box.alloc | with_reducible apply Box.set | (with_reducible apply Box.set_other; case hg => omega)))); rfl))⟩ ?_
  rintro W0 ⟨hW0, xA, xR⟩
  have xc := xA.cell
  have xl := xA.lt
  have rc := xR.cell
  have rl := xR.lt
  have hS : Below W0.heap.size W0 W0.drew := (Below.refl _ _).drew
  refine wp_region_late (fun Z => Below W0.heap.size W0 Z) [11] (by kernel_rfl) ?_
  refine wpAnyG_pure (v := ?v0) 0 rfl (by kernel_rfl) (by kernel_rfl) (by kernel_rfl) (by kernel_rfl) (fun _ _ _ h => h) (Or.inl ⟨by rfl, ?h0⟩) (fun _ => hS) (fun _ => ?r0)
  case h0 => (intro w _; go_simp; try with_reducible rfl)
  try simp only [Act.put, List.getElem_toArray, List.getElem_cons_zero, List.getElem_cons_succ, List.setIfInBounds_toArray, List.set_cons_zero, List.set_cons_succ]
  refine wpAnyG_load (v := ?v1) 1 rfl (by kernel_rfl) (by kernel_rfl) (by kernel_rfl) (by kernel_rfl) (fun _ _ _ h => h) (Or.inl ⟨by rfl, ?h1⟩) hS (fun _ => ?r1)
  case h1 => (intro Z hZ; obtain ⟨z1, z2⟩ := bcell hZ; go_simp; try with_reducible rfl)
  try simp only [Act.put, List.getElem_toArray, List.getElem_cons_zero, List.getElem_cons_succ, List.setIfInBounds_toArray, List.set_cons_zero, List.set_cons_succ]
  refine wpAnyG_pure (v := ?v2) 2 rfl (by kernel_rfl) (by kernel_rfl) (by kernel_rfl) (by kernel_rfl) (fun _ _ _ h => h) (Or.inl ⟨by rfl, ?h2⟩) (fun _ => hS) (fun _ => ?r2)
  case h2 => (intro w _; go_simp; try with_reducible rfl)
  try simp only [Act.put, List.getElem_toArray, List.getElem_cons_zero, List.getElem_cons_succ, List.setIfInBounds_toArray, List.set_cons_zero, List.set_cons_succ]
  refine wpAnyG_load (v := ?v3) 3 rfl (by kernel_rfl) (by kernel_rfl) (by kernel_rfl) (by kernel_rfl) (fun _ _ _ h => h) (Or.inl ⟨by rfl, ?h3⟩) hS (fun _ => ?r3)
  case h3 => (intro Z hZ; obtain ⟨z1, z2⟩ := bcell hZ; go_simp; try with_reducible rfl)
  try simp only [Act.put, List.getElem_toArray, List.getElem_cons_zero, List.getElem_cons_succ, List.setIfInBounds_toArray, List.set_cons_zero, List.set_cons_succ]
  refine wpAnyG_pure (v := ?v4) 4 rfl (by kernel_rfl) (by kernel_rfl) (by kernel_rfl) (by kernel_rfl) (fun _ _ _ h => h) (Or.inl ⟨by rfl, ?h4⟩) (fun _ => hS) (fun _ => ?r4)
  case h4 => (intro w _; go_simp; try with_reducible rfl)
  try simp only [Act.put, List.getElem_toArray, List.getElem_cons_zero, List.getElem_cons_succ, List.setIfInBounds_toArray, List.set_cons_zero, List.set_cons_succ]
  refine wpAnyG_pure (v := ?v8) 8 rfl (by kernel_rfl) (by kernel_rfl) (by kernel_rfl) (by kernel_rfl) (fun _ _ _ h => h) (Or.inl ⟨by rfl, ?h8⟩) (fun _ => hS) (fun _ => ?r8)
  case h8 => (intro w _; go_simp; try with_reducible rfl)
  try simp only [Act.put, List.getElem_toArray, List.getElem_cons_zero, List.getElem_cons_succ, List.setIfInBounds_toArray, List.set_cons_zero, List.set_cons_succ]
  refine wpAnyG_load (v := ?v9) 9 rfl (by kernel_rfl) (by kernel_rfl) (by kernel_rfl) (by kernel_rfl) (fun _ _ _ h => h) (Or.inl ⟨by rfl, ?h9⟩) hS (fun _ => ?r9)
  case h9 => (intro Z hZ; obtain ⟨z1, z2⟩ := bcell hZ; go_simp; try with_reducible rfl)
  try simp only [Act.put, List.getElem_toArray, List.getElem_cons_zero, List.getElem_cons_succ, List.setIfInBounds_toArray, List.set_cons_zero, List.set_cons_succ]
  refine wpAnyG_one 5 rfl (by kernel_rfl) ?_
  refine wpOp_step rfl (fun K hK => ?_)
  go_simp
  with_reducible refine (cB _).mono ?_
  rintro e w2 ⟨vb, rfl, hob, hbb⟩
  have hcur : Below W0.heap.size W0 w2 := bl_trans hS hbb
  have ks := run_str (P := Try.prog) 22 9 5 Try.underlying22 Try.underlying5 Try.underlying9 hob.rd
  obtain ⟨qb, nb, hvb⟩ := Rd.lits hob.rd
  subst hvb
  go_simp
  refine hK _ _ ⟨fun _ => hcur, ?_⟩
  clear hK K
  try simp only [Act.put, List.getElem_toArray, List.getElem_cons_zero, List.getElem_cons_succ, List.setIfInBounds_toArray, List.set_cons_zero, List.set_cons_succ]
  refine wpAnyG_one 6 rfl (by kernel_rfl) ?_
  refine wpOp_step rfl (fun K hK => ?_)
  go_simp
  refine hK _ _ ⟨fun _ => hcur, ?_⟩
  clear hK K
  try simp only [Act.put, List.getElem_toArray, List.getElem_cons_zero, List.getElem_cons_succ, List.setIfInBounds_toArray, List.set_cons_zero, List.set_cons_succ]
  have hcat : ¬ 9223372036854775807 < b.size + (strOfNums (enc1 r)).size := by omega
  refine wpAnyG_pure (v := .string (b ++ strOfNums (enc1 r))) 7 rfl (by kernel_rfl) (by kernel_rfl) (by kernel_rfl) (by kernel_rfl) (fun _ _ _ h => h) (Or.inl ⟨by rfl, ?h7⟩) (fun _ => hcur) (fun _ => ?r7)
  case h7 => (intro w _; go_simp; try simp only [hcat, if_false]; try with_reducible rfl)
  try simp only [Act.put, List.getElem_toArray, List.getElem_cons_zero, List.getElem_cons_succ, List.setIfInBounds_toArray, List.set_cons_zero, List.set_cons_succ]
  clear hcat
  refine wpAnyG_pure (v := ?v10) 10 rfl (by kernel_rfl) (by kernel_rfl) (by kernel_rfl) (by kernel_rfl) (fun _ _ _ h => h) (Or.inl ⟨by rfl, ?h10⟩) (fun _ => hcur) (fun _ => ?r10)
  case h10 => (intro w _; go_simp; try with_reducible rfl)
  try simp only [Act.put, List.getElem_toArray, List.getElem_cons_zero, List.getElem_cons_succ, List.setIfInBounds_toArray, List.set_cons_zero, List.set_cons_succ]
  have yA := Box.past hcur xA
  have yR := Box.past hcur xR
  have yc := yR.cell
  have yl := yR.lt
  have yf := yR.free
  refine wpAnyG_one 11 rfl (by kernel_rfl) ?_
  refine wpOp_step rfl (fun K hK => ?_)
  go_simp
  refine hK _ _ ⟨fun h => absurd (h 11 (by simp)) (by simp), ?_⟩
  clear hK K
  try simp only [Act.put, List.getElem_toArray, List.getElem_cons_zero, List.getElem_cons_succ, List.setIfInBounds_toArray, List.set_cons_zero, List.set_cons_succ]
  refine wpAnyG_done (by kernel_rfl) ?_ _
  have yE := set3 yR (.string a) (.string (b ++ strOfNums (enc1 r))) (.slice q n c)
  have yB := Bar3 (w.heap.size + 1) w2 (.string a) (.string (b ++ strOfNums (enc1 r))) (.slice q n c)
  have yEl := yE.lt
  go_wp2_with fail
  refine ret_row (n := 3) rfl rfl Try.underlying35 rfl (by kernel_rfl) rfl ⟨_, by simp (maxDischargeDepth := 6) [go_sem, Box.row yE, yEl] <;> rfl, rfl, ?_⟩
  exact ⟨rfl, Bar.to_below (bl_trans hW0 hcur) yB (by omega)⟩

end Go.Proofs.Ytpkkfcfkhiaggaa
