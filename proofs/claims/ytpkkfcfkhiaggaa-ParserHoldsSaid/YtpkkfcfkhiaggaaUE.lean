/- utf: the decoder's Step. -/
import Derived.Test.YtpkkfcfkhiaggaaUD
import Derived.Test.YtpkkfcfkhiaggaaLate
import Derived.Deep.RegionHeld3
import Derived.Deep.RegionLawGrows
import Derived.Deep.DrawnRows
import Derived.Outline
import Derived.Lib.Hide
set_option linter.unusedSimpArgs false
set_option linter.unusedVariables false
set_option linter.unnecessarySimpa false
namespace Go.Proofs.Ytpkkfcfkhiaggaa
open Go.RowKit
attribute [local go_sem ↓] Go.wp_at_zero Go.wp_at_succ


/-- The number that so many further bytes say behind a first one. -/
def partR (h : Int) (l : List Int) (k : Nat) : Int := (l.take k).foldl (fun r x => r * 64 + x % 64) h
theorem partR_succ (h : Int) (l : List Int) (k : Nat) (x : Int) (hx : l[k]? = some x) : partR h l (k + 1) = partR h l k * 64 + x % 64 := by
  unfold partR
  rw [List.take_add_one, hx, List.foldl_append]
  rfl
theorem partR_bd (h : Int) (l : List Int) (k : Nat) (hk : k ≤ 2) (hh : 0 ≤ h ∧ h < 32) : 0 ≤ partR h l k ∧ partR h l k < 131072 := by
  have key : ∀ (l : List Int) (h b : Int), 0 ≤ h → h < b → l.length ≤ 2 → 0 ≤ l.foldl (fun r x => r * 64 + x % 64) h ∧ l.foldl (fun r x => r * 64 + x % 64) h < b * 4096 := by
    intro l h b h0 h1 hl
    match l, hl with
    | [], _ => simp only [List.foldl_nil]; omega
    | [x], _ => simp only [List.foldl_cons, List.foldl_nil]; omega
    | [x, y], _ => simp only [List.foldl_cons, List.foldl_nil]; omega
    | _ :: _ :: _ :: _, h => simp at h
  have := key (l.take k) h 32 hh.1 hh.2 (by rw [List.length_take]; omega)
  unfold partR
  omega
theorem i32_mask32 {x : Int} (h0 : 0 ≤ x) (h1 : x < 2147483648) : bits .and .i32 x 31 = x % 32 := bits_mask .i32 31 (by decide) wraps_i32 5 (by decide) x h0 h1
theorem i32_mask16 {x : Int} (h0 : 0 ≤ x) (h1 : x < 2147483648) : bits .and .i32 x 15 = x % 16 := bits_mask .i32 31 (by decide) wraps_i32 4 (by decide) x h0 h1
theorem i32_mask8 {x : Int} (h0 : 0 ≤ x) (h1 : x < 2147483648) : bits .and .i32 x 7 = x % 8 := bits_mask .i32 31 (by decide) wraps_i32 3 (by decide) x h0 h1
/-- append onto a full slice, as a step of a drawn region: a new row. -/
theorem step_app_full {P : Program} {ops : Array Oper} {o : Oper} {a : Act} {w : World} {K : Act → World → Prop} {Q : Exit → Act → World → Prop} {E' : Prop} (hg : o.guard = none) (s x : Operand) (t E : TypeId) (k : IntKind) (bytes : Nat)
    (ho : o.op = .call { callee := .builtin .append, args := #[s, x], argTypes := #[t, t] }) (ht : P.underlying t = some (.slice E)) (hi : (P.info? E).map (fun i => (i.zero, i.size, i.bytes)) = some (some (.int k 0), 1, bytes))
    (b off cap : Nat) (bs : List Int) (y : Value) (c : Int) (hs : a.eval s = .slice (some ⟨b, off, none⟩) bs.length bs.length) (hrd : Rd w k (.slice (some ⟨b, off, none⟩) bs.length cap) bs)
    (hx : a.eval x = y) (n : Nat) (hy : y = .slice (some ⟨n, 0, none⟩) 1 1) (hyc : w.cell? ⟨n, 0, none⟩ = some (.int k c)) (h63 : bs.length + 1 ≤ maxLen) (hbytes : (bs.length + 1) * bytes ≤ 140737488355328)
    (hK : ∀ g cap' w', Own w' w.heap.size E k (.slice (some ⟨g, 0, none⟩) (bs.length + 1) cap') (bs ++ [c]) → w.heap.size ≤ g → Below w.heap.size w w' → K (a.put o.dst (.slice (some ⟨g, 0, none⟩) (bs.length + 1) cap')) w') :
    if Region.wanted o (yielded ops a.tmps) = true then Oper.wp P o a w K Q else E' := by
  obtain ⟨i0, hi, hz0, hz1, hz2⟩ := info_parts hi
  obtain ⟨p, cap0, hp, l1, m1, c1⟩ := hrd
  cases hp
  rcases c1 with ⟨h, _⟩ | ⟨b', off', hp, hlt, hcell⟩
  · cases h
  · cases hp
    refine step_append_grows hg s x t ho E i0 (.int k 0) 1 bytes ht hi hz0 hz1 hz2 rfl (by decide) (some ⟨b, off, none⟩) bs.length bs.length (bs.map (.int k)) hs (fun h => by cases h) (by simp) (fun b' hb' j u hu => ?_) ⟨n, 0, none⟩ 1 1 [.int k c] (hx.trans hy) (by simp) (fun j u hu => ?_) (fun u hu => ?_) (by omega) h63 hbytes (fun v' w' h1 h2 => ?_)
    · cases hb'
      simp only [List.getElem?_map, Option.map_eq_some_iff] at hu
      obtain ⟨z, hz, rfl⟩ := hu
      rw [Addr.add_lit]; exact hcell j z hz
    · cases j with
      | zero => simp at hu; subst hu; rw [Addr.add_lit]; exact hyc
      | succ j => simp at hu
    · simp only [List.mem_singleton] at hu; subst hu; rfl
    · have hown : Own w' w.heap.size E k v' (bs ++ [c]) := by unfold Own; rw [List.length_append, List.map_append]; exact h1
      have hb := grown_below h2 (fun k hk => by cases hk) (Nat.le_refl _)
      rcases h1.2 with ⟨_, h0⟩ | ⟨g, cap', cur, rfl, hg', r⟩
      · simp at h0
      · exact hK g cap' w' hown hg' hb


set_option maxRecDepth 100000 in
set_option maxHeartbeats 4000000 in
theorem step_more (D : Nat) (t : TypeId) (rest : List Value) (b off cap : Nat) (bs : List Int) (m lo hi c : Int) (w : World) (hx : Box w D ([Value.slice (some ⟨b, off, none⟩) bs.length cap, .int .i64 m, .int .u8 lo, .int .u8 hi] ++ rest).toArray t) (hc : lo ≤ c ∧ c ≤ hi) (hb : b ≠ D) (hlb : b < w.heap.size)
    (hcap : bs.length ≤ cap) (hmax : cap ≤ maxLen) (hl : 0 < bs.length ∧ bs.length ≤ 3) (hcell : ∀ i y, bs[i]? = some y → w.cell? ⟨b, off + i, none⟩ = some (.int .u8 y)) (hm : 1 < m ∧ m ≤ 3) (hmo : m = moreOf bs) :
    Calls Try.prog 57 #[.pointer (some ⟨D, 0, none⟩), .int .u8 c] w (Stepped D t rest w [] (bs ++ [c])) := by
  have x1 := hx.cell
  have x2 := hx.free
  have x3 := hx.lt
  simp only [List.cons_append, List.nil_append] at x1
  have hne : w.heap.size ≠ D := by omega
  unfold maxLen at hmax
  have z1 : (0 : Int) ≤ (bs.length : Int) := by omega
  have z2 : (bs.length : Int) ≤ (cap : Int) := by omega
  have z3 : (bs.length : Int) ≠ 0 := by omega
  go_enter Try.func57, Try.ntmps57
  go_wp2_with fail
  have hrd : Rd w .u8 (.slice (some ⟨b, off, none⟩) bs.length cap) bs := ⟨_, _, rfl, hcap, by unfold maxLen; omega, .inr ⟨b, off, rfl, hlb, hcell⟩⟩
  have hS := Box.drew hx
  refine wp_region_late (fun w' => Box w' D ([Value.slice (some ⟨b, off, none⟩) bs.length cap, .int .i64 m, .int .u8 lo, .int .u8 hi] ++ rest).toArray t) [23, 26, 29] (by kernel_rfl) ?_
  refine wpAnyG_pure (v := ?v0) 0 rfl (by kernel_rfl) (by kernel_rfl) (by kernel_rfl) (by kernel_rfl) (fun _ _ _ h => h) (Or.inl ⟨by rfl, ?h0⟩) (fun _ => hS) (fun _ => ?r0)
  case h0 => (intro w _; go_simp; try with_reducible rfl)
  try simp only [Act.put, List.setIfInBounds_toArray, List.set_cons_zero, List.set_cons_succ]
  refine wpAnyG_pure (v := ?v1) 1 rfl (by kernel_rfl) (by kernel_rfl) (by kernel_rfl) (by kernel_rfl) (fun _ _ _ h => h) (Or.inl ⟨by rfl, ?h1⟩) (fun _ => hS) (fun _ => ?r1)
  case h1 => (intro w _; go_simp; try with_reducible rfl)
  try simp only [Act.put, List.setIfInBounds_toArray, List.set_cons_zero, List.set_cons_succ]
  refine wpAnyG_pure (v := ?v2) 2 rfl (by kernel_rfl) (by kernel_rfl) (by kernel_rfl) (by kernel_rfl) (fun _ _ _ h => h) (Or.inl ⟨by rfl, ?h2⟩) (fun _ => hS) (fun _ => ?r2)
  case h2 => (intro w _; go_simp; try with_reducible rfl)
  try simp only [Act.put, List.setIfInBounds_toArray, List.set_cons_zero, List.set_cons_succ]
  refine wpAnyG_pure (v := ?v3) 3 rfl (by kernel_rfl) (by kernel_rfl) (by kernel_rfl) (by kernel_rfl) (fun _ _ _ h => h) (Or.inl ⟨by rfl, ?h3⟩) (fun _ => hS) (fun _ => ?r3)
  case h3 => (intro w _; go_simp; try with_reducible rfl)
  try simp only [Act.put, List.setIfInBounds_toArray, List.set_cons_zero, List.set_cons_succ]
  refine wpAnyG_pure (v := ?v4) 4 rfl (by kernel_rfl) (by kernel_rfl) (by kernel_rfl) (by kernel_rfl) (fun _ _ _ h => h) (Or.inl ⟨by rfl, ?h4⟩) (fun _ => hS) (fun _ => ?r4)
  case h4 => (intro w _; go_simp; try with_reducible rfl)
  try simp only [Act.put, List.setIfInBounds_toArray, List.set_cons_zero, List.set_cons_succ]
  refine wpAnyG_pure (v := ?v5) 5 rfl (by kernel_rfl) (by kernel_rfl) (by kernel_rfl) (by kernel_rfl) (fun _ _ _ h => h) (Or.inl ⟨by rfl, ?h5⟩) (fun _ => hS) (fun _ => ?r5)
  case h5 => (intro w _; go_simp; try with_reducible rfl)
  try simp only [Act.put, List.setIfInBounds_toArray, List.set_cons_zero, List.set_cons_succ]
  refine wpAnyG_load (v := ?v6) 6 rfl (by kernel_rfl) (by kernel_rfl) (by kernel_rfl) (by kernel_rfl) (fun _ _ _ h => h) (Or.inl ⟨by rfl, ?h6⟩) hS (fun _ => ?r6)
  case h6 => (intro w hSw; have q1 := hSw.cell; simp only [List.cons_append, List.nil_append] at q1; go_simp; try with_reducible rfl)
  try simp only [Act.put, List.setIfInBounds_toArray, List.set_cons_zero, List.set_cons_succ]
  refine wpAnyG_pure (v := ?v7) 7 rfl (by kernel_rfl) (by kernel_rfl) (by kernel_rfl) (by kernel_rfl) (fun _ _ _ h => h) (Or.inl ⟨by rfl, ?h7⟩) (fun _ => hS) (fun _ => ?r7)
  case h7 => (intro w _; go_simp; try with_reducible rfl)
  try simp only [Act.put, List.setIfInBounds_toArray, List.set_cons_zero, List.set_cons_succ]
  refine wpAnyG_pure (v := ?v8) 8 rfl (by kernel_rfl) (by kernel_rfl) (by kernel_rfl) (by kernel_rfl) (fun _ _ _ h => h) (Or.inl ⟨by rfl, ?h8⟩) (fun _ => hS) (fun _ => ?r8)
  case h8 => (intro w _; go_simp; try with_reducible rfl)
  try simp only [Act.put, List.setIfInBounds_toArray, List.set_cons_zero, List.set_cons_succ]
  refine wpAnyG_pure (v := ?v9) 9 rfl (by kernel_rfl) (by kernel_rfl) (by kernel_rfl) (by kernel_rfl) (fun _ _ _ h => h) (Or.inl ⟨by rfl, ?h9⟩) (fun _ => hS) (fun _ => ?r9)
  case h9 => (intro w _; go_simp; try with_reducible rfl)
  try simp only [Act.put, List.setIfInBounds_toArray, List.set_cons_zero, List.set_cons_succ]
  refine wpAnyG_load (v := ?v10) 10 rfl (by kernel_rfl) (by kernel_rfl) (by kernel_rfl) (by kernel_rfl) (fun _ _ _ h => h) (Or.inl ⟨by rfl, ?h10⟩) hS (fun _ => ?r10)
  case h10 => (intro w hSw; have q1 := hSw.cell; simp only [List.cons_append, List.nil_append] at q1; go_simp; try with_reducible rfl)
  try simp only [Act.put, List.setIfInBounds_toArray, List.set_cons_zero, List.set_cons_succ]
  refine wpAnyG_pure (v := ?v11) 11 rfl (by kernel_rfl) (by kernel_rfl) (by kernel_rfl) (by kernel_rfl) (fun _ _ _ h => h) (Or.inl ⟨by rfl, ?h11⟩) (fun _ => hS) (fun _ => ?r11)
  case h11 => (intro w _; go_simp; try with_reducible rfl)
  try simp only [Act.put, List.setIfInBounds_toArray, List.set_cons_zero, List.set_cons_succ]
  refine wpAnyG_pure (v := ?v12) 12 rfl (by kernel_rfl) (by kernel_rfl) (by kernel_rfl) (by kernel_rfl) (fun _ _ _ h => h) (Or.inl ⟨by rfl, ?h12⟩) (fun _ => hS) (fun _ => ?r12)
  case h12 => (intro w _; go_simp; try with_reducible rfl)
  try simp only [Act.put, List.setIfInBounds_toArray, List.set_cons_zero, List.set_cons_succ]
  refine wpAnyG_pure (v := ?v13) 13 rfl (by kernel_rfl) (by kernel_rfl) (by kernel_rfl) (by kernel_rfl) (fun _ _ _ h => h) (Or.inl ⟨by rfl, ?h13⟩) (fun _ => hS) (fun _ => ?r13)
  case h13 => (intro w _; go_simp; try with_reducible rfl)
  try simp only [Act.put, List.setIfInBounds_toArray, List.set_cons_zero, List.set_cons_succ]
  refine wpAnyG_pure (v := ?v14) 14 rfl (by kernel_rfl) (by kernel_rfl) (by kernel_rfl) (by kernel_rfl) (fun _ _ _ h => h) (Or.inl ⟨by rfl, ?h14⟩) (fun _ => hS) (fun _ => ?r14)
  case h14 => (intro w _; go_simp; try with_reducible rfl)
  try simp only [Act.put, List.setIfInBounds_toArray, List.set_cons_zero, List.set_cons_succ]
  refine wpAnyG_load (v := ?v15) 15 rfl (by kernel_rfl) (by kernel_rfl) (by kernel_rfl) (by kernel_rfl) (fun _ _ _ h => h) (Or.inl ⟨by rfl, ?h15⟩) hS (fun _ => ?r15)
  case h15 => (intro w hSw; have q1 := hSw.cell; simp only [List.cons_append, List.nil_append] at q1; go_simp; try with_reducible rfl)
  try simp only [Act.put, List.setIfInBounds_toArray, List.set_cons_zero, List.set_cons_succ]
  refine wpAnyG_pure (v := ?v16) 16 rfl (by kernel_rfl) (by kernel_rfl) (by kernel_rfl) (by kernel_rfl) (fun _ _ _ h => h) (Or.inl ⟨by rfl, ?h16⟩) (fun _ => hS) (fun _ => ?r16)
  case h16 => (intro w _; go_simp; try with_reducible rfl)
  try simp only [Act.put, List.setIfInBounds_toArray, List.set_cons_zero, List.set_cons_succ]
  refine wpAnyG_pure (v := ?v17) 17 rfl (by kernel_rfl) (by kernel_rfl) (by kernel_rfl) (by kernel_rfl) (fun _ _ _ h => h) (Or.inl ⟨by rfl, ?h17⟩) (fun _ => hS) (fun _ => ?r17)
  case h17 => (intro w _; go_simp; try with_reducible rfl)
  try simp only [Act.put, List.setIfInBounds_toArray, List.set_cons_zero, List.set_cons_succ]
  refine wpAnyG_pure (v := ?v18) 18 rfl (by kernel_rfl) (by kernel_rfl) (by kernel_rfl) (by kernel_rfl) (fun _ _ _ h => h) (Or.inl ⟨by rfl, ?h18⟩) (fun _ => hS) (fun _ => ?r18)
  case h18 => (intro w _; go_simp; try with_reducible rfl)
  try simp only [Act.put, List.setIfInBounds_toArray, List.set_cons_zero, List.set_cons_succ]
  refine wpAnyG_one 19 rfl (by kernel_rfl) ?_
  refine wpOp_step rfl (fun K hK => ?_)
  go_simp
  refine hK _ _ ⟨fun _ => Box.drew (Box.alloc hx _), ?_⟩
  clear hK K
  try simp only [Act.put, List.setIfInBounds_toArray, List.set_cons_zero, List.set_cons_succ]
  refine wpAnyG_one 20 rfl (by kernel_rfl) ?_
  refine wpOp_step rfl (fun K hK => ?_)
  refine step_app_full (by rfl) (.tmp 57) (.tmp 59) 22 5 .u8 1 (by rfl) Try.underlying22 el8 b off cap bs _ c (by rfl) (hrd.below (((Below.refl _ _).alloc (Nat.le_refl _) _).drew)) (by rfl) w.heap.size (by rfl) (by simp) (by unfold maxLen; omega) (by omega) ?_
  intro g cap' w1 hown hg hbel
  have hbx : Box w1 D ([Value.slice (some ⟨b, off, none⟩) bs.length cap, .int .i64 m, .int .u8 lo, .int .u8 hi] ++ rest).toArray t := (hbel.block D (by simp; omega)).trans (Box.drew (Box.alloc hx _))
  have y1 := hbx.cell
  have y2 := hbx.free
  have y3 := hbx.lt
  simp only [List.cons_append, List.nil_append] at y1
  refine hK _ _ ⟨fun _ => hbx, ?_⟩
  clear hK K
  try simp only [Act.put, List.setIfInBounds_toArray, List.set_cons_zero, List.set_cons_succ]
  refine wpAnyG_pure (v := ?v21) 21 rfl (by kernel_rfl) (by kernel_rfl) (by kernel_rfl) (by kernel_rfl) (fun _ _ _ h => h) (Or.inl ⟨by rfl, ?h21⟩) (fun _ => hbx) (fun _ => ?r21)
  case h21 => (intro w _; go_simp; try with_reducible rfl)
  try simp only [Act.put, List.setIfInBounds_toArray, List.set_cons_zero, List.set_cons_succ]
  refine wpAnyG_pure (v := ?v22) 22 rfl (by kernel_rfl) (by kernel_rfl) (by kernel_rfl) (by kernel_rfl) (fun _ _ _ h => h) (Or.inl ⟨by rfl, ?h22⟩) (fun _ => hbx) (fun _ => ?r22)
  case h22 => (intro w _; go_simp; try with_reducible rfl)
  try simp only [Act.put, List.setIfInBounds_toArray, List.set_cons_zero, List.set_cons_succ]
  refine wpAnyG_one 23 rfl (by kernel_rfl) ?_
  refine wpOp_step rfl (fun K hK => ?_)
  go_simp
  refine hK _ _ ⟨(fun h => absurd (h 23 (by simp)) (of_decide_eq_true (by kernel_rfl))), ?_⟩
  clear hK K
  try simp only [Act.put, List.setIfInBounds_toArray, List.set_cons_zero, List.set_cons_succ]
  refine wpAnyG_pure (v := ?v24) 24 rfl (by kernel_rfl) (by kernel_rfl) (by kernel_rfl) (by kernel_rfl) (fun _ _ _ h => h) (Or.inl ⟨by rfl, ?h24⟩) (fun h => absurd (h 23 (by simp)) (of_decide_eq_true (by kernel_rfl))) (fun _ => ?r24)
  case h24 => (intro w _; go_simp; try with_reducible rfl)
  try simp only [Act.put, List.setIfInBounds_toArray, List.set_cons_zero, List.set_cons_succ]
  refine wpAnyG_pure (v := ?v25) 25 rfl (by kernel_rfl) (by kernel_rfl) (by kernel_rfl) (by kernel_rfl) (fun _ _ _ h => h) (Or.inl ⟨by rfl, ?h25⟩) (fun h => absurd (h 23 (by simp)) (of_decide_eq_true (by kernel_rfl))) (fun _ => ?r25)
  case h25 => (intro w _; go_simp; try with_reducible rfl)
  try simp only [Act.put, List.setIfInBounds_toArray, List.set_cons_zero, List.set_cons_succ]
  refine wpAnyG_one 26 rfl (by kernel_rfl) ?_
  refine wpOp_step rfl (fun K hK => ?_)
  go_simp
  refine hK _ _ ⟨(fun h => absurd (h 23 (by simp)) (of_decide_eq_true (by kernel_rfl))), ?_⟩
  clear hK K
  try simp only [Act.put, List.setIfInBounds_toArray, List.set_cons_zero, List.set_cons_succ]
  refine wpAnyG_pure (v := ?v27) 27 rfl (by kernel_rfl) (by kernel_rfl) (by kernel_rfl) (by kernel_rfl) (fun _ _ _ h => h) (Or.inl ⟨by rfl, ?h27⟩) (fun h => absurd (h 23 (by simp)) (of_decide_eq_true (by kernel_rfl))) (fun _ => ?r27)
  case h27 => (intro w _; go_simp; try with_reducible rfl)
  try simp only [Act.put, List.setIfInBounds_toArray, List.set_cons_zero, List.set_cons_succ]
  refine wpAnyG_pure (v := ?v28) 28 rfl (by kernel_rfl) (by kernel_rfl) (by kernel_rfl) (by kernel_rfl) (fun _ _ _ h => h) (Or.inl ⟨by rfl, ?h28⟩) (fun h => absurd (h 23 (by simp)) (of_decide_eq_true (by kernel_rfl))) (fun _ => ?r28)
  case h28 => (intro w _; go_simp; try with_reducible rfl)
  try simp only [Act.put, List.setIfInBounds_toArray, List.set_cons_zero, List.set_cons_succ]
  refine wpAnyG_one 29 rfl (by kernel_rfl) ?_
  refine wpOp_step rfl (fun K hK => ?_)
  go_simp
  refine hK _ _ ⟨(fun h => absurd (h 23 (by simp)) (of_decide_eq_true (by kernel_rfl))), ?_⟩
  clear hK K
  try simp only [Act.put, List.setIfInBounds_toArray, List.set_cons_zero, List.set_cons_succ]
  refine wpAnyG_done (by kernel_rfl) ?_ _
  have hg1 : w.heap.size ≤ g := by
    have h := hg
    simp at h
    omega
  have hap : Apart (.slice (some ⟨g, 0, none⟩) (bs.length + 1) cap') D := Apart.at (by omega)
  have hbar1 : Bar D w w1 := Bar.below (Bar.drew (Bar.alloc (Bar.refl D w) _)) hbel
  have hrd1 : Rd w1 .u8 (.slice (some ⟨g, 0, none⟩) (bs.length + 1) cap') (bs ++ [c]) := by simpa using Own.rd hown
  go_wp2_with fail
  go_ret
  refine ⟨_, .slice (some ⟨g, 0, none⟩) (bs.length + 1) cap', rfl, Rd.nil _ _, Fresh.nil _ _ _, by repeat (first | exact hbar1 | apply Bar.set), ⟨m - 1, 128, 191, ?_, ?_, hap, ?_⟩, Fresh.at hg1⟩
  · (apply Box.as; (focus (repeat (first | with_reducible exact hbx | with_reducible apply Box.set))); first | (simp; done) | (simp; exact hmo.symm))
  · exact Rd.bar hrd1 hap (by repeat (first | exact Bar.refl _ _ | apply Bar.set))
  · intro _
    have hne0 : bs ≠ [] := by rintro rfl; simp at hl
    obtain ⟨x, xs, rfl⟩ : ∃ x xs, bs = x :: xs := by cases bs with | nil => exact absurd rfl hne0 | cons x xs => exact ⟨x, xs, rfl⟩
    refine ⟨by rw [hmo]; simp [moreOf]; omega, by simp [loOf], by simp [hiOf]⟩

end Go.Proofs.Ytpkkfcfkhiaggaa
