/- utf: the decoder's Step: the last byte of a rune. -/
import Derived.Test.YtpkkfcfkhiaggaaUE
import Derived.Test.YtpkkfcfkhiaggaaLate
set_option linter.unusedSimpArgs false
set_option linter.unusedVariables false
set_option linter.unnecessarySimpa false
namespace Go.Proofs.Ytpkkfcfkhiaggaa
open Go.RowKit
attribute [local go_sem ↓] Go.wp_at_zero Go.wp_at_succ

set_option maxRecDepth 100000 in
set_option maxHeartbeats 4000000 in
theorem step_whole (D : Nat) (t : TypeId) (rest : List Value) (b off cap : Nat) (bs : List Int) (m lo hi c : Int) (w : World) (hx : Box w D ([Value.slice (some ⟨b, off, none⟩) bs.length cap, .int .i64 m, .int .u8 lo, .int .u8 hi] ++ rest).toArray t) (hc : lo ≤ c ∧ c ≤ hi) (hb : b ≠ D) (hlb : b < w.heap.size)
    (hcap : bs.length ≤ cap) (hmax : cap ≤ maxLen) (hl : 0 < bs.length ∧ bs.length ≤ 3) (hcell : ∀ i y, bs[i]? = some y → w.cell? ⟨b, off + i, none⟩ = some (.int .u8 y)) (hm : m = 1) (hby : ∀ x ∈ bs ++ [c], 0 ≤ x ∧ x < 256) :
    Calls Try.prog 57 #[.pointer (some ⟨D, 0, none⟩), .int .u8 c] w (Stepped D t rest w [runeOf (bs ++ [c])] []) := by
  subst hm
  have x1 := hx.cell
  have x2 := hx.free
  have x3 := hx.lt
  simp only [List.cons_append, List.nil_append] at x1
  have hne : w.heap.size ≠ D := by omega
  unfold maxLen at hmax
  have z1 : (0 : Int) ≤ (bs.length : Int) := by omega
  have z2 : (bs.length : Int) ≤ (cap : Int) := by omega
  have z3 : (bs.length : Int) ≠ 0 := by omega
  go_enter Try.func57, Try.ntmps57
  go_wp2_with fail
  have hrd : Rd w .u8 (.slice (some ⟨b, off, none⟩) bs.length cap) bs := ⟨_, _, rfl, hcap, by unfold maxLen; omega, .inr ⟨b, off, rfl, hlb, hcell⟩⟩
  have hS := Box.drew hx
  refine wp_region_late (fun w' => Box w' D ([Value.slice (some ⟨b, off, none⟩) bs.length cap, .int .i64 1, .int .u8 lo, .int .u8 hi] ++ rest).toArray t) [23, 26, 29] (by kernel_rfl) ?_
  refine wpAnyG_pure (v := ?v0) 0 rfl (by kernel_rfl) (by kernel_rfl) (by kernel_rfl) (by kernel_rfl) (fun _ _ _ h => h) (Or.inl ⟨by rfl, ?h0⟩) (fun _ => hS) (fun _ => ?r0)
  case h0 => (intro w _; go_simp; try with_reducible rfl)
  try simp only [Act.put, List.setIfInBounds_toArray, List.set_cons_zero, List.set_cons_succ]
  refine wpAnyG_pure (v := ?v1) 1 rfl (by kernel_rfl) (by kernel_rfl) (by kernel_rfl) (by kernel_rfl) (fun _ _ _ h => h) (Or.inl ⟨by rfl, ?h1⟩) (fun _ => hS) (fun _ => ?r1)
  case h1 => (intro w _; go_simp; try with_reducible rfl)
  try simp only [Act.put, List.setIfInBounds_toArray, List.set_cons_zero, List.set_cons_succ]
  refine wpAnyG_pure (v := ?v2) 2 rfl (by kernel_rfl) (by kernel_rfl) (by kernel_rfl) (by kernel_rfl) (fun _ _ _ h => h) (Or.inl ⟨by rfl, ?h2⟩) (fun _ => hS) (fun _ => ?r2)
  case h2 => (intro w _; go_simp; try with_reducible rfl)
  try simp only [Act.put, List.setIfInBounds_toArray, List.set_cons_zero, List.set_cons_succ]
  refine wpAnyG_pure (v := ?v3) 3 rfl (by kernel_rfl) (by kernel_rfl) (by kernel_rfl) (by kernel_rfl) (fun _ _ _ h => h) (Or.inl ⟨by rfl, ?h3⟩) (fun _ => hS) (fun _ => ?r3)
  case h3 => (intro w _; go_simp; try with_reducible rfl)
  try simp only [Act.put, List.setIfInBounds_toArray, List.set_cons_zero, List.set_cons_succ]
  refine wpAnyG_pure (v := ?v4) 4 rfl (by kernel_rfl) (by kernel_rfl) (by kernel_rfl) (by kernel_rfl) (fun _ _ _ h => h) (Or.inl ⟨by rfl, ?h4⟩) (fun _ => hS) (fun _ => ?r4)
  case h4 => (intro w _; go_simp; try with_reducible rfl)
  try simp only [Act.put, List.setIfInBounds_toArray, List.set_cons_zero, List.set_cons_succ]
  refine wpAnyG_pure (v := ?v5) 5 rfl (by kernel_rfl) (by kernel_rfl) (by kernel_rfl) (by kernel_rfl) (fun _ _ _ h => h) (Or.inl ⟨by rfl, ?h5⟩) (fun _ => hS) (fun _ => ?r5)
  case h5 => (intro w _; go_simp; try with_reducible rfl)
  try simp only [Act.put, List.setIfInBounds_toArray, List.set_cons_zero, List.set_cons_succ]
  refine wpAnyG_load (v := ?v6) 6 rfl (by kernel_rfl) (by kernel_rfl) (by kernel_rfl) (by kernel_rfl) (fun _ _ _ h => h) (Or.inl ⟨by rfl, ?h6⟩) hS (fun _ => ?r6)
  case h6 => (intro w hSw; have q1 := hSw.cell; simp only [List.cons_append, List.nil_append] at q1; go_simp; try with_reducible rfl)
  try simp only [Act.put, List.setIfInBounds_toArray, List.set_cons_zero, List.set_cons_succ]
  refine wpAnyG_pure (v := ?v7) 7 rfl (by kernel_rfl) (by kernel_rfl) (by kernel_rfl) (by kernel_rfl) (fun _ _ _ h => h) (Or.inl ⟨by rfl, ?h7⟩) (fun _ => hS) (fun _ => ?r7)
  case h7 => (intro w _; go_simp; try with_reducible rfl)
  try simp only [Act.put, List.setIfInBounds_toArray, List.set_cons_zero, List.set_cons_succ]
  refine wpAnyG_pure (v := ?v8) 8 rfl (by kernel_rfl) (by kernel_rfl) (by kernel_rfl) (by kernel_rfl) (fun _ _ _ h => h) (Or.inl ⟨by rfl, ?h8⟩) (fun _ => hS) (fun _ => ?r8)
  case h8 => (intro w _; go_simp; try with_reducible rfl)
  try simp only [Act.put, List.setIfInBounds_toArray, List.set_cons_zero, List.set_cons_succ]
  refine wpAnyG_pure (v := ?v9) 9 rfl (by kernel_rfl) (by kernel_rfl) (by kernel_rfl) (by kernel_rfl) (fun _ _ _ h => h) (Or.inl ⟨by rfl, ?h9⟩) (fun _ => hS) (fun _ => ?r9)
  case h9 => (intro w _; go_simp; try with_reducible rfl)
  try simp only [Act.put, List.setIfInBounds_toArray, List.set_cons_zero, List.set_cons_succ]
  refine wpAnyG_load (v := ?v10) 10 rfl (by kernel_rfl) (by kernel_rfl) (by kernel_rfl) (by kernel_rfl) (fun _ _ _ h => h) (Or.inl ⟨by rfl, ?h10⟩) hS (fun _ => ?r10)
  case h10 => (intro w hSw; have q1 := hSw.cell; simp only [List.cons_append, List.nil_append] at q1; go_simp; try with_reducible rfl)
  try simp only [Act.put, List.setIfInBounds_toArray, List.set_cons_zero, List.set_cons_succ]
  refine wpAnyG_pure (v := ?v11) 11 rfl (by kernel_rfl) (by kernel_rfl) (by kernel_rfl) (by kernel_rfl) (fun _ _ _ h => h) (Or.inl ⟨by rfl, ?h11⟩) (fun _ => hS) (fun _ => ?r11)
  case h11 => (intro w _; go_simp; try with_reducible rfl)
  try simp only [Act.put, List.setIfInBounds_toArray, List.set_cons_zero, List.set_cons_succ]
  refine wpAnyG_pure (v := ?v12) 12 rfl (by kernel_rfl) (by kernel_rfl) (by kernel_rfl) (by kernel_rfl) (fun _ _ _ h => h) (Or.inl ⟨by rfl, ?h12⟩) (fun _ => hS) (fun _ => ?r12)
  case h12 => (intro w _; go_simp; try with_reducible rfl)
  try simp only [Act.put, List.setIfInBounds_toArray, List.set_cons_zero, List.set_cons_succ]
  refine wpAnyG_pure (v := ?v13) 13 rfl (by kernel_rfl) (by kernel_rfl) (by kernel_rfl) (by kernel_rfl) (fun _ _ _ h => h) (Or.inl ⟨by rfl, ?h13⟩) (fun _ => hS) (fun _ => ?r13)
  case h13 => (intro w _; go_simp; try with_reducible rfl)
  try simp only [Act.put, List.setIfInBounds_toArray, List.set_cons_zero, List.set_cons_succ]
  refine wpAnyG_pure (v := ?v14) 14 rfl (by kernel_rfl) (by kernel_rfl) (by kernel_rfl) (by kernel_rfl) (fun _ _ _ h => h) (Or.inl ⟨by rfl, ?h14⟩) (fun _ => hS) (fun _ => ?r14)
  case h14 => (intro w _; go_simp; try with_reducible rfl)
  try simp only [Act.put, List.setIfInBounds_toArray, List.set_cons_zero, List.set_cons_succ]
  refine wpAnyG_load (v := ?v15) 15 rfl (by kernel_rfl) (by kernel_rfl) (by kernel_rfl) (by kernel_rfl) (fun _ _ _ h => h) (Or.inl ⟨by rfl, ?h15⟩) hS (fun _ => ?r15)
  case h15 => (intro w hSw; have q1 := hSw.cell; simp only [List.cons_append, List.nil_append] at q1; go_simp; try with_reducible rfl)
  try simp only [Act.put, List.setIfInBounds_toArray, List.set_cons_zero, List.set_cons_succ]
  refine wpAnyG_pure (v := ?v16) 16 rfl (by kernel_rfl) (by kernel_rfl) (by kernel_rfl) (by kernel_rfl) (fun _ _ _ h => h) (Or.inl ⟨by rfl, ?h16⟩) (fun _ => hS) (fun _ => ?r16)
  case h16 => (intro w _; go_simp; try with_reducible rfl)
  try simp only [Act.put, List.setIfInBounds_toArray, List.set_cons_zero, List.set_cons_succ]
  refine wpAnyG_pure (v := ?v17) 17 rfl (by kernel_rfl) (by kernel_rfl) (by kernel_rfl) (by kernel_rfl) (fun _ _ _ h => h) (Or.inl ⟨by rfl, ?h17⟩) (fun _ => hS) (fun _ => ?r17)
  case h17 => (intro w _; go_simp; try with_reducible rfl)
  try simp only [Act.put, List.setIfInBounds_toArray, List.set_cons_zero, List.set_cons_succ]
  refine wpAnyG_pure (v := ?v18) 18 rfl (by kernel_rfl) (by kernel_rfl) (by kernel_rfl) (by kernel_rfl) (fun _ _ _ h => h) (Or.inl ⟨by rfl, ?h18⟩) (fun _ => hS) (fun _ => ?r18)
  case h18 => (intro w _; go_simp; try with_reducible rfl)
  try simp only [Act.put, List.setIfInBounds_toArray, List.set_cons_zero, List.set_cons_succ]
  refine wpAnyG_one 19 rfl (by kernel_rfl) ?_
  refine wpOp_step rfl (fun K hK => ?_)
  go_simp
  refine hK _ _ ⟨fun _ => Box.drew (Box.alloc hx _), ?_⟩
  clear hK K
  try simp only [Act.put, List.setIfInBounds_toArray, List.set_cons_zero, List.set_cons_succ]
  refine wpAnyG_one 20 rfl (by kernel_rfl) ?_
  refine wpOp_step rfl (fun K hK => ?_)
  refine step_app_full (by rfl) (.tmp 57) (.tmp 59) 22 5 .u8 1 (by rfl) Try.underlying22 el8 b off cap bs _ c (by rfl) (hrd.below (((Below.refl _ _).alloc (Nat.le_refl _) _).drew)) (by rfl) w.heap.size (by rfl) (by simp) (by unfold maxLen; omega) (by omega) ?_
  intro g cap' w1 hown hg hbel
  have hbx : Box w1 D ([Value.slice (some ⟨b, off, none⟩) bs.length cap, .int .i64 1, .int .u8 lo, .int .u8 hi] ++ rest).toArray t := (hbel.block D (by simp; omega)).trans (Box.drew (Box.alloc hx _))
  have y1 := hbx.cell
  have y2 := hbx.free
  have y3 := hbx.lt
  simp only [List.cons_append, List.nil_append] at y1
  refine hK _ _ ⟨fun _ => hbx, ?_⟩
  clear hK K
  try simp only [Act.put, List.setIfInBounds_toArray, List.set_cons_zero, List.set_cons_succ]
  refine wpAnyG_pure (v := ?v21) 21 rfl (by kernel_rfl) (by kernel_rfl) (by kernel_rfl) (by kernel_rfl) (fun _ _ _ h => h) (Or.inl ⟨by rfl, ?h21⟩) (fun _ => hbx) (fun _ => ?r21)
  case h21 => (intro w _; go_simp; try with_reducible rfl)
  try simp only [Act.put, List.setIfInBounds_toArray, List.set_cons_zero, List.set_cons_succ]
  refine wpAnyG_pure (v := ?v22) 22 rfl (by kernel_rfl) (by kernel_rfl) (by kernel_rfl) (by kernel_rfl) (fun _ _ _ h => h) (Or.inl ⟨by rfl, ?h22⟩) (fun _ => hbx) (fun _ => ?r22)
  case h22 => (intro w _; go_simp; try with_reducible rfl)
  try simp only [Act.put, List.setIfInBounds_toArray, List.set_cons_zero, List.set_cons_succ]
  refine wpAnyG_one 23 rfl (by kernel_rfl) ?_
  refine wpOp_step rfl (fun K hK => ?_)
  go_simp
  refine hK _ _ ⟨(fun h => absurd (h 23 (by simp)) (of_decide_eq_true (by kernel_rfl))), ?_⟩
  clear hK K
  try simp only [Act.put, List.setIfInBounds_toArray, List.set_cons_zero, List.set_cons_succ]
  refine wpAnyG_pure (v := ?v24) 24 rfl (by kernel_rfl) (by kernel_rfl) (by kernel_rfl) (by kernel_rfl) (fun _ _ _ h => h) (Or.inl ⟨by rfl, ?h24⟩) (fun h => absurd (h 23 (by simp)) (of_decide_eq_true (by kernel_rfl))) (fun _ => ?r24)
  case h24 => (intro w _; go_simp; try with_reducible rfl)
  try simp only [Act.put, List.setIfInBounds_toArray, List.set_cons_zero, List.set_cons_succ]
  refine wpAnyG_pure (v := ?v25) 25 rfl (by kernel_rfl) (by kernel_rfl) (by kernel_rfl) (by kernel_rfl) (fun _ _ _ h => h) (Or.inl ⟨by rfl, ?h25⟩) (fun h => absurd (h 23 (by simp)) (of_decide_eq_true (by kernel_rfl))) (fun _ => ?r25)
  case h25 => (intro w _; go_simp; try with_reducible rfl)
  try simp only [Act.put, List.setIfInBounds_toArray, List.set_cons_zero, List.set_cons_succ]
  refine wpAnyG_one 26 rfl (by kernel_rfl) ?_
  refine wpOp_step rfl (fun K hK => ?_)
  go_simp
  refine hK _ _ ⟨(fun h => absurd (h 23 (by simp)) (of_decide_eq_true (by kernel_rfl))), ?_⟩
  clear hK K
  try simp only [Act.put, List.setIfInBounds_toArray, List.set_cons_zero, List.set_cons_succ]
  refine wpAnyG_pure (v := ?v27) 27 rfl (by kernel_rfl) (by kernel_rfl) (by kernel_rfl) (by kernel_rfl) (fun _ _ _ h => h) (Or.inl ⟨by rfl, ?h27⟩) (fun h => absurd (h 23 (by simp)) (of_decide_eq_true (by kernel_rfl))) (fun _ => ?r27)
  case h27 => (intro w _; go_simp; try with_reducible rfl)
  try simp only [Act.put, List.setIfInBounds_toArray, List.set_cons_zero, List.set_cons_succ]
  refine wpAnyG_pure (v := ?v28) 28 rfl (by kernel_rfl) (by kernel_rfl) (by kernel_rfl) (by kernel_rfl) (fun _ _ _ h => h) (Or.inl ⟨by rfl, ?h28⟩) (fun h => absurd (h 23 (by simp)) (of_decide_eq_true (by kernel_rfl))) (fun _ => ?r28)
  case h28 => (intro w _; go_simp; try with_reducible rfl)
  try simp only [Act.put, List.setIfInBounds_toArray, List.set_cons_zero, List.set_cons_succ]
  refine wpAnyG_one 29 rfl (by kernel_rfl) ?_
  refine wpOp_step rfl (fun K hK => ?_)
  go_simp
  refine hK _ _ ⟨(fun h => absurd (h 23 (by simp)) (of_decide_eq_true (by kernel_rfl))), ?_⟩
  clear hK K
  try simp only [Act.put, List.setIfInBounds_toArray, List.set_cons_zero, List.set_cons_succ]
  refine wpAnyG_done (by kernel_rfl) ?_ _
  have hg1 : w.heap.size ≤ g := by
    have h := hg
    simp at h
    omega
  have hap : Apart (.slice (some ⟨g, 0, none⟩) (bs.length + 1) cap') D := Apart.at (by omega)
  have hbar1 : Bar D w w1 := Bar.below (Bar.drew (Bar.alloc (Bar.refl D w) _)) hbel
  have hrd1 : Rd w1 .u8 (.slice (some ⟨g, 0, none⟩) (bs.length + 1) cap') (bs ++ [c]) := by simpa using Own.rd hown
  go_wp2_with fail
  refine wp_name (fun W => Box W D ([Value.slice (some ⟨g, 0, none⟩) (bs.length + 1) cap', .int .i64 0, .int .u8 128, .int .u8 191] ++ rest).toArray t ∧ Rd W .u8 (.slice (some ⟨g, 0, none⟩) (bs.length + 1) cap') (bs ++ [c]) ∧ Bar D w W) ⟨?_, ?_, ?_⟩ ?_
  · (apply Box.as; (focus (repeat (first | with_reducible exact hbx | with_reducible apply Box.set))); simp)
  · exact Rd.bar hrd1 hap (by repeat (first | exact Bar.refl _ _ | apply Bar.set))
  · repeat (first | exact hbar1 | apply Bar.set)
  clear y1 y2 y3 hbx hbar1 hrd1 hbel hown hS hrd
  clear x1 x2 hx hcell
  intro W ⟨hB, hR, hbar⟩
  have y1 := hB.cell
  have y2 := hB.free
  have y3 := hB.lt
  simp only [List.cons_append, List.nil_append] at y1
  obtain ⟨-, q1, q2, q4, q5⟩ := Rd.cells hR
  simp only [Nat.zero_add] at q5
  unfold maxLen at q2
  obtain ⟨a, rfl⟩ | ⟨a, b1, rfl⟩ | ⟨a, b1, b2, rfl⟩ : (∃ a, bs = [a]) ∨ (∃ a b, bs = [a, b]) ∨ (∃ a b c, bs = [a, b, c]) := by
    match bs, hl with
    | [a], _ => exact .inl ⟨a, rfl⟩
    | [a, b], _ => exact .inr (.inl ⟨a, b, rfl⟩)
    | [a, b, c], _ => exact .inr (.inr ⟨a, b, c, rfl⟩)
    | _ :: _ :: _ :: _ :: _, h => simp at h
  · have c0 := q5 0 a rfl
    have q6 : ∀ k x, [c][k]? = some x → W.cell? ⟨g, 1 + k, none⟩ = some (.int .u8 x) := fun k x h => by rw [Nat.add_comm 1 k]; exact q5 (k + 1) x (by simpa using h)
    clear q5
    simp at q1
    have ba := hby a (by simp)
    have bt : ∀ (k : Nat) (x : Int), [c][k]? = some x → 0 ≤ x ∧ x < 256 := fun k x h => hby x (by have h := List.mem_of_getElem? h; simp only [List.mem_cons, List.not_mem_nil, or_false] at h; simp only [List.cons_append, List.nil_append, List.mem_cons, List.not_mem_nil, or_false]; omega)
    clear hby
    simp only [List.length_cons, List.length_nil, Nat.zero_add]
    simp only [Nat.reduceAdd]
    first | refine wp_grow2 (by kernel_rfl) (by kernel_rfl) ?_ | refine wp_grow (by kernel_rfl) (by kernel_rfl) ?_
    repeat (go_big_quiet_step (fail))
    refine wpQuiet_nil ?_
    rintro _ ⟨X, rfl⟩
    go_wp2_with fail
    go_loopw [5, 101] (fun r i wr => ∃ k : Nat, k ≤ 1 ∧ i = .int .i64 k ∧ r = .int .i32 (partR (a % 32) [c] k) ∧ Below W.heap.size W wr) (fun _ i _ => 1 - (intOf i).toNat)
    case atStart => exact ⟨0, by omega, rfl, congrArg (Value.int .i32) (i32_mask32 (by omega) (by omega)), (by repeat (first | with_reducible exact Below.refl _ _ | with_reducible assumption | with_reducible exact GW.grow _ | with_reducible refine bl_alloc ?_ _ | with_reducible refine Below.drew ?_ | (with_reducible refine Below.setCell ?_ ?_ _; rotate_left; focus (simp; first | done | omega)) | with_reducible refine bl_trans ?_ (GW.grow _) | (with_reducible refine bl_trans ?_ (by assumption))))⟩
    case round =>
      obtain ⟨k, hk, rfl, rfl, hbl⟩ := hrel
      by_cases hlt : k < 1
      · have q7 : ∃ x, [c][k]? = some x := ⟨_, List.getElem?_eq_getElem (by simpa using hlt)⟩
        obtain ⟨x, hx⟩ := q7
        have q8 : wr.cell? ⟨g, 1 + k, none⟩ = some (.int .u8 x) := by rw [hbl.cell (p := ⟨g, _, none⟩) q4]; exact q6 k x hx
        have r1 := partR_bd (a % 32) [c] k (by omega) (by omega)
        have r2 := bt k x hx
        have T := Lib.hid (partR_succ (a % 32) [c] k x hx)
        clear q6 c0 bt hx
        go_wp2_with fail
        go_roundw
        case rel => first | exact ⟨k + 1, by omega, by go_num, by rw [T.out], hbl⟩ | ((repeat apply Exists.intro); exact ⟨⟨k + 1, by omega, by go_num, by rw [T.out], hbl⟩, rfl⟩)
        case measure => simp [intOf]; omega
      · have hBr : Box wr D ([Value.slice (some ⟨g, 0, none⟩) 2 cap', .int .i64 0, .int .u8 128, .int .u8 191] ++ rest).toArray t := (hbl.block D y3).trans hB
        have w1 := hBr.cell
        have w2 := hBr.free
        have w3 := hBr.lt
        simp only [List.cons_append, List.nil_append] at w1
        clear y1 y2 bt q6
        go_wp2_with fail
        go_ret
        obtain rfl : k = 1 := by omega
        have e : runeOf ([a] ++ [c]) = partR (a % 32) [c] 1 := by simp [runeOf, maskOf, partR]
        rw [e]
        exact ⟨.slice (some ⟨wr.heap.size, 0, none⟩) 1 1, .slice none 0 0, rfl, Rd.lit1 _ _ _ _ _ (by simp), Fresh.at (Nat.le_trans hbar.size hbl.size), by repeat (first | exact Bar.below hbar hbl | apply Bar.set | apply Bar.alloc), ⟨0, 128, 191, by apply Box.as; (focus (repeat (first | exact hBr | apply Box.alloc | apply Box.set))); simp, Rd.nil _ _, Apart.nil _ _ _, fun h => absurd rfl h⟩, Fresh.nil _ _ _⟩
  · have c0 := q5 0 a rfl
    have q6 : ∀ k x, [b1, c][k]? = some x → W.cell? ⟨g, 1 + k, none⟩ = some (.int .u8 x) := fun k x h => by rw [Nat.add_comm 1 k]; exact q5 (k + 1) x (by simpa using h)
    clear q5
    simp at q1
    have ba := hby a (by simp)
    have bt : ∀ (k : Nat) (x : Int), [b1, c][k]? = some x → 0 ≤ x ∧ x < 256 := fun k x h => hby x (by have h := List.mem_of_getElem? h; simp only [List.mem_cons, List.not_mem_nil, or_false] at h; simp only [List.cons_append, List.nil_append, List.mem_cons, List.not_mem_nil, or_false]; omega)
    clear hby
    simp only [List.length_cons, List.length_nil, Nat.zero_add]
    simp only [Nat.reduceAdd]
    first | refine wp_grow2 (by kernel_rfl) (by kernel_rfl) ?_ | refine wp_grow (by kernel_rfl) (by kernel_rfl) ?_
    repeat (go_big_quiet_step (fail))
    refine wpQuiet_nil ?_
    rintro _ ⟨X, rfl⟩
    go_wp2_with fail
    go_loopw [5, 101] (fun r i wr => ∃ k : Nat, k ≤ 2 ∧ i = .int .i64 k ∧ r = .int .i32 (partR (a % 16) [b1, c] k) ∧ Below W.heap.size W wr) (fun _ i _ => 2 - (intOf i).toNat)
    case atStart => exact ⟨0, by omega, rfl, congrArg (Value.int .i32) (i32_mask16 (by omega) (by omega)), (by repeat (first | with_reducible exact Below.refl _ _ | with_reducible assumption | with_reducible exact GW.grow _ | with_reducible refine bl_alloc ?_ _ | with_reducible refine Below.drew ?_ | (with_reducible refine Below.setCell ?_ ?_ _; rotate_left; focus (simp; first | done | omega)) | with_reducible refine bl_trans ?_ (GW.grow _) | (with_reducible refine bl_trans ?_ (by assumption))))⟩
    case round =>
      obtain ⟨k, hk, rfl, rfl, hbl⟩ := hrel
      by_cases hlt : k < 2
      · have q7 : ∃ x, [b1, c][k]? = some x := ⟨_, List.getElem?_eq_getElem (by simpa using hlt)⟩
        obtain ⟨x, hx⟩ := q7
        have q8 : wr.cell? ⟨g, 1 + k, none⟩ = some (.int .u8 x) := by rw [hbl.cell (p := ⟨g, _, none⟩) q4]; exact q6 k x hx
        have r1 := partR_bd (a % 16) [b1, c] k (by omega) (by omega)
        have r2 := bt k x hx
        have T := Lib.hid (partR_succ (a % 16) [b1, c] k x hx)
        clear q6 c0 bt hx
        go_wp2_with fail
        go_roundw
        case rel => first | exact ⟨k + 1, by omega, by go_num, by rw [T.out], hbl⟩ | ((repeat apply Exists.intro); exact ⟨⟨k + 1, by omega, by go_num, by rw [T.out], hbl⟩, rfl⟩)
        case measure => simp [intOf]; omega
      · have hBr : Box wr D ([Value.slice (some ⟨g, 0, none⟩) 3 cap', .int .i64 0, .int .u8 128, .int .u8 191] ++ rest).toArray t := (hbl.block D y3).trans hB
        have w1 := hBr.cell
        have w2 := hBr.free
        have w3 := hBr.lt
        simp only [List.cons_append, List.nil_append] at w1
        clear y1 y2 bt q6
        go_wp2_with fail
        go_ret
        obtain rfl : k = 2 := by omega
        have e : runeOf ([a, b1] ++ [c]) = partR (a % 16) [b1, c] 2 := by simp [runeOf, maskOf, partR]
        rw [e]
        exact ⟨.slice (some ⟨wr.heap.size, 0, none⟩) 1 1, .slice none 0 0, rfl, Rd.lit1 _ _ _ _ _ (by simp), Fresh.at (Nat.le_trans hbar.size hbl.size), by repeat (first | exact Bar.below hbar hbl | apply Bar.set | apply Bar.alloc), ⟨0, 128, 191, by apply Box.as; (focus (repeat (first | exact hBr | apply Box.alloc | apply Box.set))); simp, Rd.nil _ _, Apart.nil _ _ _, fun h => absurd rfl h⟩, Fresh.nil _ _ _⟩
  · have c0 := q5 0 a rfl
    have q6 : ∀ k x, [b1, b2, c][k]? = some x → W.cell? ⟨g, 1 + k, none⟩ = some (.int .u8 x) := fun k x h => by rw [Nat.add_comm 1 k]; exact q5 (k + 1) x (by simpa using h)
    clear q5
    simp at q1
    have ba := hby a (by simp)
    have bt : ∀ (k : Nat) (x : Int), [b1, b2, c][k]? = some x → 0 ≤ x ∧ x < 256 := fun k x h => hby x (by have h := List.mem_of_getElem? h; simp only [List.mem_cons, List.not_mem_nil, or_false] at h; simp only [List.cons_append, List.nil_append, List.mem_cons, List.not_mem_nil, or_false]; omega)
    clear hby
    simp only [List.length_cons, List.length_nil, Nat.zero_add]
    simp only [Nat.reduceAdd]
    first | refine wp_grow2 (by kernel_rfl) (by kernel_rfl) ?_ | refine wp_grow (by kernel_rfl) (by kernel_rfl) ?_
    repeat (go_big_quiet_step (fail))
    refine wpQuiet_nil ?_
    rintro _ ⟨X, rfl⟩
    go_wp2_with fail
    go_loopw [5, 101] (fun r i wr => ∃ k : Nat, k ≤ 3 ∧ i = .int .i64 k ∧ r = .int .i32 (partR (a % 8) [b1, b2, c] k) ∧ Below W.heap.size W wr) (fun _ i _ => 3 - (intOf i).toNat)
    case atStart => exact ⟨0, by omega, rfl, congrArg (Value.int .i32) (i32_mask8 (by omega) (by omega)), (by repeat (first | with_reducible exact Below.refl _ _ | with_reducible assumption | with_reducible exact GW.grow _ | with_reducible refine bl_alloc ?_ _ | with_reducible refine Below.drew ?_ | (with_reducible refine Below.setCell ?_ ?_ _; rotate_left; focus (simp; first | done | omega)) | with_reducible refine bl_trans ?_ (GW.grow _) | (with_reducible refine bl_trans ?_ (by assumption))))⟩
    case round =>
      obtain ⟨k, hk, rfl, rfl, hbl⟩ := hrel
      by_cases hlt : k < 3
      · have q7 : ∃ x, [b1, b2, c][k]? = some x := ⟨_, List.getElem?_eq_getElem (by simpa using hlt)⟩
        obtain ⟨x, hx⟩ := q7
        have q8 : wr.cell? ⟨g, 1 + k, none⟩ = some (.int .u8 x) := by rw [hbl.cell (p := ⟨g, _, none⟩) q4]; exact q6 k x hx
        have r1 := partR_bd (a % 8) [b1, b2, c] k (by omega) (by omega)
        have r2 := bt k x hx
        have T := Lib.hid (partR_succ (a % 8) [b1, b2, c] k x hx)
        clear q6 c0 bt hx
        go_wp2_with fail
        go_roundw
        case rel => first | exact ⟨k + 1, by omega, by go_num, by rw [T.out], hbl⟩ | ((repeat apply Exists.intro); exact ⟨⟨k + 1, by omega, by go_num, by rw [T.out], hbl⟩, rfl⟩)
        case measure => simp [intOf]; omega
      · have hBr : Box wr D ([Value.slice (some ⟨g, 0, none⟩) 4 cap', .int .i64 0, .int .u8 128, .int .u8 191] ++ rest).toArray t := (hbl.block D y3).trans hB
        have w1 := hBr.cell
        have w2 := hBr.free
        have w3 := hBr.lt
        simp only [List.cons_append, List.nil_append] at w1
        clear y1 y2 bt q6
        go_wp2_with fail
        go_ret
        obtain rfl : k = 3 := by omega
        have e : runeOf ([a, b1, b2] ++ [c]) = partR (a % 8) [b1, b2, c] 3 := by simp [runeOf, maskOf, partR]
        rw [e]
        exact ⟨.slice (some ⟨wr.heap.size, 0, none⟩) 1 1, .slice none 0 0, rfl, Rd.lit1 _ _ _ _ _ (by simp), Fresh.at (Nat.le_trans hbar.size hbl.size), by repeat (first | exact Bar.below hbar hbl | apply Bar.set | apply Bar.alloc), ⟨0, 128, 191, by apply Box.as; (focus (repeat (first | exact hBr | apply Box.alloc | apply Box.set))); simp, Rd.nil _ _, Apart.nil _ _ _, fun h => absurd rfl h⟩, Fresh.nil _ _ _⟩

end Go.Proofs.Ytpkkfcfkhiaggaa
