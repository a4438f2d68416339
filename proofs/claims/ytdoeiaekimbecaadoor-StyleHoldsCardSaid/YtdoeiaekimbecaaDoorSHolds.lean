/- style: StyleHolds returns true for every input. No condition. -/
import Derived.Test.YtdoeiaekimbecaaDoorW
import Derived.Test.YtdoeiaekimbecaaDoorCards
import Derived.Test.YtdoeiaekimbecaaDoorTie
import Derived.SevenTiedAt
import Derived.Test.YtdoeiaekimbecaaDoorY
import Derived.Test.YtdoeiaekimbecaaDoorLate3
import Derived.Deep.CutBlock
import Derived.Deep.DeepCutAuto
import Derived.Outline
set_option linter.unusedSimpArgs false
set_option linter.unusedVariables false
set_option linter.unnecessarySimpa false
namespace Go.Proofs.YtdoeiaekimbecaaDoor
open Go.ChangeShapes Go.WideShapes Go.ChangeAt Go.RowKit

/-- append, as one step of a region whose order is drawn, of an operation that is wanted. -/
theorem step_appg {P : Program} {ops : Array Oper} {o : Oper} {a : Act} {w : World} {K : Act → World → Prop} {Q : Exit → Act → World → Prop} {E' : Prop} (hg : Region.wanted o (yielded ops a.tmps) = true) (s x : Operand) (t E : TypeId) (k : IntKind) (bytes : Nat)
    (ho : o.op = .call { callee := .builtin .append, args := #[s, x], argTypes := #[t, t] }) (ht : P.underlying t = some (.slice E)) (hi : (P.info? E).map (fun i => (i.zero, i.size, i.bytes)) = some (some (.int k 0), 1, bytes))
    (B : Nat) (v y : Value) (xs ys : List Int) (hown : Own w B E k v xs) (hrd : Rd w k y ys) (hs : a.eval s = v) (hx : a.eval x = y) (h63 : xs.length + ys.length ≤ maxLen) (hbytes : (xs.length + ys.length) * bytes ≤ 140737488355328) (hbase : B ≤ w.heap.size)
    (hK : ∀ v' w', Own w' B E k v' (xs ++ ys) → w.grownBy w' v.ownBlock → (v'.ownBlock = v.ownBlock ∨ v'.ownBlock = some w.heap.size) → K (a.put o.dst v') w') :
    if Region.wanted o (yielded ops a.tmps) = true then Oper.wp P o a w K Q else E' := by
  rw [if_pos hg]
  have h0 := step_appw (P := P) (ops := ops) (o := { o with guard := none }) (a := a) (w := w) (K := K) (Q := Q) (E' := E') rfl s x t E k bytes ho ht hi B v y xs ys hown hrd hs hx h63 hbytes hbase hK
  rw [if_pos (by simp [Region.wanted])] at h0
  exact h0
/-- All blocks below B stay, once there are so many. -/
def SB (B : Nat) (u v : World) : Prop := B ≤ u.heap.size → Below B u v
theorem SB.trans (B : Nat) : ∀ u1 u2 u3 : World, SB B u1 u2 → SB B u2 u3 → SB B u1 u3 := fun u1 u2 u3 h k hb => by
  have h1 := h hb
  exact h1.trans (k (Nat.le_trans hb h1.size))
theorem SB.gr (B : Nat) : ∀ u1 u2 : World, Gr u1 u2 → SB B u1 u2 := fun u1 u2 h hb => h.mono hb
theorem bl_trans2 {B : Nat} {u v x : World} (h : Below B u v) (k : Below B v x) : Below B u x := Below.trans h k
theorem Rd.lits {w : World} {k : IntKind} {v : Value} {xs : List Int} (h : Rd w k v xs) : ∃ q c, v = .slice q xs.length c := by
  obtain ⟨q, c, hv, _⟩ := h
  exact ⟨q, c, hv⟩
set_option maxHeartbeats 16000000 in
set_option maxRecDepth 100000 in
theorem styleHolds_any (a b : Pn) (v u : Value) (l m : List Int) (w : World) (hg : Gl w) (ha : wfP a) (hb : wfP b) (h : Rd w .i64 v l) (k : Rd w .i64 u m) : Calls Tryd.prog 7 #[.agg a.a, .agg b.a, v, u] w fun e w' => e = .returned (.bool true) ∧ Below w.heap.size w w' := by
  have hb0 : Below w.heap.size w ((w.alloc (.cells a.a 27)).alloc (.cells b.a 27)) := bl_alloc (bl_alloc (Below.refl _ _) _) _
  have x0 : Box ((w.alloc (.cells a.a 27)).alloc (.cells b.a 27)) w.heap.size a.a 27 := Box.alloc (Box.new _ _ _ rfl) _
  have x1 : Box ((w.alloc (.cells a.a 27)).alloc (.cells b.a 27)) (w.heap.size + 1) b.a 27 := Box.new _ _ _ (by simp)
  have c0 := x0.cell
  have l0 := x0.lt
  have c1 := x1.cell
  have l1 := x1.lt
  have hG := hg.below hb0
  have hr1 := h.below hb0
  have hk1 := k.below hb0
  have cK : ∀ W, Below ((w.alloc (.cells a.a 27)).alloc (.cells b.a 27)).heap.size ((w.alloc (.cells a.a 27)).alloc (.cells b.a 27)) W → Calls Tryd.prog 8 #[] W fun e w' => e = .returned (.bool true) ∧ Below W.heap.size W w' := fun W hW => known_any W (hG.m.below hW) (hG.t.below hW)
  have cV := fun W => valid_any a W
  have cVb := fun W => valid_any b W
  have cR : ∀ W, Below ((w.alloc (.cells a.a 27)).alloc (.cells b.a 27)).heap.size ((w.alloc (.cells a.a 27)).alloc (.cells b.a 27)) W → Calls Tryd.prog 10 #[v] W fun e w' => e = .returned (.bool (rightN l)) ∧ Below W.heap.size W w' := fun W hW => right_any v l W (hr1.below hW)
  have cRm : ∀ W, Below ((w.alloc (.cells a.a 27)).alloc (.cells b.a 27)).heap.size ((w.alloc (.cells a.a 27)).alloc (.cells b.a 27)) W → Calls Tryd.prog 10 #[u] W fun e w' => e = .returned (.bool (rightN m)) ∧ Below W.heap.size W w' := fun W hW => right_any u m W (hk1.below hW)
  obtain ⟨pv, nv, hvs⟩ : ∃ q c, v = .slice q l.length c := by
    obtain ⟨q, c, hv, _⟩ := h
    exact ⟨q, c, hv⟩
  obtain ⟨pu, nu, hus⟩ : ∃ q c, u = .slice q m.length c := by
    obtain ⟨q, c, hv, _⟩ := k
    exact ⟨q, c, hv⟩
  subst hvs hus
  cases hva : validP a
  · rw [hva] at cV
    clear hva
    go_enter Tryd.func7, Tryd.ntmps7
    go_wp2_with (first | (go_at_call 9; (with_reducible refine (cV _).mono ?_); rintro e w2 ⟨rfl, hb⟩; (first | obtain ⟨X, rfl⟩ := GW.of2 hb | obtain ⟨X, rfl⟩ := GW.of hb); clear hb) | (go_at_call 9; (with_reducible refine (cVb _).mono ?_); rintro e w3 ⟨rfl, hb⟩; (first | obtain ⟨X, rfl⟩ := GW.of2 hb | obtain ⟨X, rfl⟩ := GW.of hb); clear hb) | (go_at_call 10; (with_reducible refine (cR _ (GW.grow _)).mono ?_); rintro e w4 ⟨rfl, hb⟩; (first | obtain ⟨X, rfl⟩ := GW.of2 hb | obtain ⟨X, rfl⟩ := GW.of hb); clear hb) | (go_at_call 10; (with_reducible refine (cRm _ (GW.grow _)).mono ?_); rintro e w5 ⟨rfl, hb⟩; (first | obtain ⟨X, rfl⟩ := GW.of2 hb | obtain ⟨X, rfl⟩ := GW.of hb); clear hb) | (go_at_call 8; (with_reducible refine (cK _ (GW.grow _)).mono ?_); rintro e w9 ⟨rfl, hb⟩; (first | obtain ⟨X, rfl⟩ := GW.of2 hb | obtain ⟨X, rfl⟩ := GW.of hb); clear hb))
    go_ret
    exact ⟨rfl, bl_trans hb0 (GW.grow _)⟩
  cases hvb : validP b
  · rw [hva] at cV
    rw [hvb] at cVb
    clear hva hvb
    go_enter Tryd.func7, Tryd.ntmps7
    go_wp2_with (first | (go_at_call 9; (with_reducible refine (cV _).mono ?_); rintro e w2 ⟨rfl, hb⟩; (first | obtain ⟨X, rfl⟩ := GW.of2 hb | obtain ⟨X, rfl⟩ := GW.of hb); clear hb) | (go_at_call 9; (with_reducible refine (cVb _).mono ?_); rintro e w3 ⟨rfl, hb⟩; (first | obtain ⟨X, rfl⟩ := GW.of2 hb | obtain ⟨X, rfl⟩ := GW.of hb); clear hb) | (go_at_call 10; (with_reducible refine (cR _ (GW.grow _)).mono ?_); rintro e w4 ⟨rfl, hb⟩; (first | obtain ⟨X, rfl⟩ := GW.of2 hb | obtain ⟨X, rfl⟩ := GW.of hb); clear hb) | (go_at_call 10; (with_reducible refine (cRm _ (GW.grow _)).mono ?_); rintro e w5 ⟨rfl, hb⟩; (first | obtain ⟨X, rfl⟩ := GW.of2 hb | obtain ⟨X, rfl⟩ := GW.of hb); clear hb) | (go_at_call 8; (with_reducible refine (cK _ (GW.grow _)).mono ?_); rintro e w9 ⟨rfl, hb⟩; (first | obtain ⟨X, rfl⟩ := GW.of2 hb | obtain ⟨X, rfl⟩ := GW.of hb); clear hb))
    go_ret
    exact ⟨rfl, bl_trans hb0 (GW.grow _)⟩
  rw [hva] at cV
  rw [hvb] at cVb
  by_cases hl : 20 < l.length
  · clear hva hvb
    go_enter Tryd.func7, Tryd.ntmps7
    go_wp2_with (first | (go_at_call 9; (with_reducible refine (cV _).mono ?_); rintro e w2 ⟨rfl, hb⟩; (first | obtain ⟨X, rfl⟩ := GW.of2 hb | obtain ⟨X, rfl⟩ := GW.of hb); clear hb) | (go_at_call 9; (with_reducible refine (cVb _).mono ?_); rintro e w3 ⟨rfl, hb⟩; (first | obtain ⟨X, rfl⟩ := GW.of2 hb | obtain ⟨X, rfl⟩ := GW.of hb); clear hb) | (go_at_call 10; (with_reducible refine (cR _ (GW.grow _)).mono ?_); rintro e w4 ⟨rfl, hb⟩; (first | obtain ⟨X, rfl⟩ := GW.of2 hb | obtain ⟨X, rfl⟩ := GW.of hb); clear hb) | (go_at_call 10; (with_reducible refine (cRm _ (GW.grow _)).mono ?_); rintro e w5 ⟨rfl, hb⟩; (first | obtain ⟨X, rfl⟩ := GW.of2 hb | obtain ⟨X, rfl⟩ := GW.of hb); clear hb) | (go_at_call 8; (with_reducible refine (cK _ (GW.grow _)).mono ?_); rintro e w9 ⟨rfl, hb⟩; (first | obtain ⟨X, rfl⟩ := GW.of2 hb | obtain ⟨X, rfl⟩ := GW.of hb); clear hb))
    go_ret
    exact ⟨rfl, bl_trans hb0 (GW.grow _)⟩
  by_cases hm : 20 < m.length
  · clear hva hvb
    go_enter Tryd.func7, Tryd.ntmps7
    go_wp2_with (first | (go_at_call 9; (with_reducible refine (cV _).mono ?_); rintro e w2 ⟨rfl, hb⟩; (first | obtain ⟨X, rfl⟩ := GW.of2 hb | obtain ⟨X, rfl⟩ := GW.of hb); clear hb) | (go_at_call 9; (with_reducible refine (cVb _).mono ?_); rintro e w3 ⟨rfl, hb⟩; (first | obtain ⟨X, rfl⟩ := GW.of2 hb | obtain ⟨X, rfl⟩ := GW.of hb); clear hb) | (go_at_call 10; (with_reducible refine (cR _ (GW.grow _)).mono ?_); rintro e w4 ⟨rfl, hb⟩; (first | obtain ⟨X, rfl⟩ := GW.of2 hb | obtain ⟨X, rfl⟩ := GW.of hb); clear hb) | (go_at_call 10; (with_reducible refine (cRm _ (GW.grow _)).mono ?_); rintro e w5 ⟨rfl, hb⟩; (first | obtain ⟨X, rfl⟩ := GW.of2 hb | obtain ⟨X, rfl⟩ := GW.of hb); clear hb) | (go_at_call 8; (with_reducible refine (cK _ (GW.grow _)).mono ?_); rintro e w9 ⟨rfl, hb⟩; (first | obtain ⟨X, rfl⟩ := GW.of2 hb | obtain ⟨X, rfl⟩ := GW.of hb); clear hb))
    go_ret
    exact ⟨rfl, bl_trans hb0 (GW.grow _)⟩
  cases hrl : rightN l
  · rw [hrl] at cR
    clear hva hvb hrl
    go_enter Tryd.func7, Tryd.ntmps7
    go_wp2_with (first | (go_at_call 9; (with_reducible refine (cV _).mono ?_); rintro e w2 ⟨rfl, hb⟩; (first | obtain ⟨X, rfl⟩ := GW.of2 hb | obtain ⟨X, rfl⟩ := GW.of hb); clear hb) | (go_at_call 9; (with_reducible refine (cVb _).mono ?_); rintro e w3 ⟨rfl, hb⟩; (first | obtain ⟨X, rfl⟩ := GW.of2 hb | obtain ⟨X, rfl⟩ := GW.of hb); clear hb) | (go_at_call 10; (with_reducible refine (cR _ (GW.grow _)).mono ?_); rintro e w4 ⟨rfl, hb⟩; (first | obtain ⟨X, rfl⟩ := GW.of2 hb | obtain ⟨X, rfl⟩ := GW.of hb); clear hb) | (go_at_call 10; (with_reducible refine (cRm _ (GW.grow _)).mono ?_); rintro e w5 ⟨rfl, hb⟩; (first | obtain ⟨X, rfl⟩ := GW.of2 hb | obtain ⟨X, rfl⟩ := GW.of hb); clear hb) | (go_at_call 8; (with_reducible refine (cK _ (GW.grow _)).mono ?_); rintro e w9 ⟨rfl, hb⟩; (first | obtain ⟨X, rfl⟩ := GW.of2 hb | obtain ⟨X, rfl⟩ := GW.of hb); clear hb))
    go_ret
    exact ⟨rfl, bl_trans hb0 (GW.grow _)⟩
  rw [hrl] at cR
  cases hrm : rightN m
  · rw [hrm] at cRm
    clear hva hvb hrl hrm
    go_enter Tryd.func7, Tryd.ntmps7
    go_wp2_with (first | (go_at_call 9; (with_reducible refine (cV _).mono ?_); rintro e w2 ⟨rfl, hb⟩; (first | obtain ⟨X, rfl⟩ := GW.of2 hb | obtain ⟨X, rfl⟩ := GW.of hb); clear hb) | (go_at_call 9; (with_reducible refine (cVb _).mono ?_); rintro e w3 ⟨rfl, hb⟩; (first | obtain ⟨X, rfl⟩ := GW.of2 hb | obtain ⟨X, rfl⟩ := GW.of hb); clear hb) | (go_at_call 10; (with_reducible refine (cR _ (GW.grow _)).mono ?_); rintro e w4 ⟨rfl, hb⟩; (first | obtain ⟨X, rfl⟩ := GW.of2 hb | obtain ⟨X, rfl⟩ := GW.of hb); clear hb) | (go_at_call 10; (with_reducible refine (cRm _ (GW.grow _)).mono ?_); rintro e w5 ⟨rfl, hb⟩; (first | obtain ⟨X, rfl⟩ := GW.of2 hb | obtain ⟨X, rfl⟩ := GW.of hb); clear hb) | (go_at_call 8; (with_reducible refine (cK _ (GW.grow _)).mono ?_); rintro e w9 ⟨rfl, hb⟩; (first | obtain ⟨X, rfl⟩ := GW.of2 hb | obtain ⟨X, rfl⟩ := GW.of hb); clear hb))
    go_ret
    exact ⟨rfl, bl_trans hb0 (GW.grow _)⟩
  rw [hrm] at cRm
  have hc1 := codes_apply a b hb hvb
  have hc2 := between_apply a b ha hb hvb
  have hc3 := right_codes b hb
  have hc4 := right_between a b hb
  have hc5 := between_len a b
  have hc6 := codesN_len b
  have cC : ∀ W, Below ((w.alloc (.cells a.a 27)).alloc (.cells b.a 27)).heap.size ((w.alloc (.cells a.a 27)).alloc (.cells b.a 27)) W → Calls Tryd.prog 14 #[.agg b.a] W (RetOwn W 3 .i64 (codesN b)) := fun W hW => codes_ok b W (hG.m.below hW) hb hvb
  have cX : ∀ W, Below ((w.alloc (.cells a.a 27)).alloc (.cells b.a 27)).heap.size ((w.alloc (.cells a.a 27)).alloc (.cells b.a 27)) W → Calls Tryd.prog 16 #[.agg a.a, .agg b.a] W (RetOwn W 3 .i64 (betweenN a b)) := fun W hW => between_ok a b W (hG.m.below hW) ha hb hva hvb
  have cA : ∀ W v l q, Below ((w.alloc (.cells a.a 27)).alloc (.cells b.a 27)).heap.size ((w.alloc (.cells a.a 27)).alloc (.cells b.a 27)) W → Rd W .i64 v l → l.length ≤ 1000 → rightN l = true → applyN a l = q → Calls Tryd.prog 11 #[.agg a.a, v, .agg q.a, .int .i64 0] W fun e w' => e = .returned (.bool true) ∧ Below W.heap.size W w' := fun W v l q hW h hl hr hq => applies_ok a v l W (hG.m.below hW) h hl hva hr q hq
  have cP : ∀ W, Below ((w.alloc (.cells a.a 27)).alloc (.cells b.a 27)).heap.size ((w.alloc (.cells a.a 27)).alloc (.cells b.a 27)) W → Calls Tryd.prog 20 #[.agg a.a, .slice pv l.length nv] W fun e w' => e = .returned (.tuple #[.agg (applyN a l).a, .int .i64 0]) ∧ Below W.heap.size W w' := fun W hW => apply_ok a _ l W (hG.m.below hW) (hr1.below hW) hva hrl
  obtain ⟨hv1, hw1⟩ := apply_okay a l hva ha
  have cV1 : ∀ W, Calls Tryd.prog 9 #[.agg (applyN a l).a] W fun e w' => e = .returned (.bool true) ∧ Below W.heap.size W w' := by have := fun W => valid_any (applyN a l) W; rw [hv1] at this; exact this
  have cM : ∀ W, Below ((w.alloc (.cells a.a 27)).alloc (.cells b.a 27)).heap.size ((w.alloc (.cells a.a 27)).alloc (.cells b.a 27)) W → Calls Tryd.prog 20 #[.agg (applyN a l).a, .slice pu m.length nu] W fun e w' => e = .returned (.tuple #[.agg (applyN (applyN a l) m).a, .int .i64 0]) ∧ Below W.heap.size W w' := fun W hW => apply_ok (applyN a l) _ m W (hG.m.below hW) (hk1.below hW) hv1 hrm
  have cG : ∀ W v xs, Rd W .i64 v xs → 0 < xs.length → Calls Tryd.prog 21 #[v] W fun e w' => e = .returned (.int .i64 (groupN xs)) ∧ Below W.heap.size W w' := fun W v xs h h0 => rgroup_any v xs W h h0
  have HRL := Lib.hid (show rightN (l ++ m) = true by rw [right_app, hrl, hrm]; rfl)
  have hlm : (l ++ m).length ≤ 40 := by rw [List.length_append]; omega
  generalize codesN b = q1 at *
  generalize betweenN a b = q2 at *
  have HP := Lib.hid (rfl : applyN (applyN a l) m = applyN (applyN a l) m)
  clear hv1 hw1 hvb hrl hrm
  go_enter Tryd.func7, Tryd.ntmps7
  go_upto_region 3 with (first | (go_at_call 9; (with_reducible refine (cV _).mono ?_); rintro e w2 ⟨rfl, hb⟩; (first | obtain ⟨X, rfl⟩ := GW.of2 hb | obtain ⟨X, rfl⟩ := GW.of hb); clear hb) | (go_at_call 9; (with_reducible refine (cVb _).mono ?_); rintro e w3 ⟨rfl, hb⟩; (first | obtain ⟨X, rfl⟩ := GW.of2 hb | obtain ⟨X, rfl⟩ := GW.of hb); clear hb) | (go_at_call 10; (with_reducible refine (cR _ (GW.grow _)).mono ?_); rintro e w4 ⟨rfl, hb⟩; (first | obtain ⟨X, rfl⟩ := GW.of2 hb | obtain ⟨X, rfl⟩ := GW.of hb); clear hb) | (go_at_call 10; (with_reducible refine (cRm _ (GW.grow _)).mono ?_); rintro e w5 ⟨rfl, hb⟩; (first | obtain ⟨X, rfl⟩ := GW.of2 hb | obtain ⟨X, rfl⟩ := GW.of hb); clear hb) | (go_at_call 8; (with_reducible refine (cK _ (GW.grow _)).mono ?_); rintro e w9 ⟨rfl, hb⟩; (first | obtain ⟨X, rfl⟩ := GW.of2 hb | obtain ⟨X, rfl⟩ := GW.of hb); clear hb))
  have hB := X.grow
  generalize X.world = W5 at *
  clear c0 l0 c1 l1
  replace hB := hB.drew
  refine wp_region_V Gr (by kernel_rfl) ?_
  generalize W5.drew = W6 at *
  have c0 := (Box.past hB x0).cell
  have l0 := (Box.past hB x0).lt
  have c1 := (Box.past hB x1).cell
  have l1 := (Box.past hB x1).lt
  refine wpAnyV_takeG (A := ?A0) 0 rfl (by kernel_rfl) (by kernel_rfl) (by kernel_rfl) (fun _ _ _ _ h => h) ?q0 ?r0
  case q0 =>
    intro Y
    try simp only [List.getElem_toArray, List.getElem_cons_zero, List.getElem_cons_succ]
    go_big_quiet_step (fail)
    refine wpQuiet_nil ?_
    rfl
  refine wpAnyV_takeG (A := ?A2) 2 rfl (by kernel_rfl) (by kernel_rfl) (by kernel_rfl) (fun _ _ _ _ h => h) ?q2 ?r2
  case q2 =>
    intro Y
    try simp only [List.getElem_toArray, List.getElem_cons_zero, List.getElem_cons_succ]
    go_big_quiet_step (fail)
    refine wpQuiet_nil ?_
    rfl
  refine wpAnyV_takeG (A := ?A3) 3 rfl (by kernel_rfl) (by kernel_rfl) (by kernel_rfl) (fun _ _ _ _ h => h) ?q3 ?r3
  case q3 =>
    intro Y
    try simp only [List.getElem_toArray, List.getElem_cons_zero, List.getElem_cons_succ]
    go_big_quiet_step (fail)
    refine wpQuiet_nil ?_
    rfl
  refine wpAnyV_one 1 (by kernel_rfl) ?_
  intro W hW
  replace hB := bl_trans hB hW
  refine wpOp_step rfl (fun K hK => ?_)
  go_simp
  (with_reducible refine (cC _ hB).mono ?_)
  rintro e wn ⟨vc, rfl, hoc, hbn⟩
  go_simp
  refine hK _ _ ⟨hbn, ?_⟩
  clear hK K
  try simp only [Act.put, List.getElem_toArray, List.getElem_cons_zero, List.getElem_cons_succ, List.setIfInBounds_toArray, List.set_cons_zero, List.set_cons_succ]
  obtain ⟨pc, nc, rfl⟩ := (Own.rd hoc).lits
  replace hB := bl_trans hB hbn
  clear c0 l0
  have c0 := (Box.past hB x0).cell
  have l0 := (Box.past hB x0).lt
  clear c1 l1
  have c1 := (Box.past hB x1).cell
  have l1 := (Box.past hB x1).lt
  refine wpAnyV_one 4 (by kernel_rfl) ?_
  intro W hW
  replace hB := bl_trans hB hW
  refine wpOp_step rfl (fun K hK => ?_)
  go_simp
  (with_reducible refine (cX _ hB).mono ?_)
  rintro e wn ⟨vd, rfl, hod, hbn⟩
  go_simp
  refine hK _ _ ⟨hbn, ?_⟩
  clear hK K
  try simp only [Act.put, List.getElem_toArray, List.getElem_cons_zero, List.getElem_cons_succ, List.setIfInBounds_toArray, List.set_cons_zero, List.set_cons_succ]
  obtain ⟨pd, nd, rfl⟩ := (Own.rd hod).lits
  replace hoc := (hoc.kept hW).kept hbn
  replace hB := bl_trans hB hbn
  clear c0 l0
  have c0 := (Box.past hB x0).cell
  have l0 := (Box.past hB x0).lt
  clear c1 l1
  have c1 := (Box.past hB x1).cell
  have l1 := (Box.past hB x1).lt
  refine wpAnyV_takeG (A := ?A5) 5 rfl (by kernel_rfl) (by kernel_rfl) (by kernel_rfl) (fun _ _ _ _ h => h) ?q5 ?r5
  case q5 =>
    intro Y
    try simp only [List.getElem_toArray, List.getElem_cons_zero, List.getElem_cons_succ]
    go_big_quiet_step (fail)
    refine wpQuiet_nil ?_
    rfl
  refine wpAnyV_takeG (A := ?A6) 6 rfl (by kernel_rfl) (by kernel_rfl) (by kernel_rfl) (fun _ _ _ _ h => h) ?q6 ?r6
  case q6 =>
    intro Y
    try simp only [List.getElem_toArray, List.getElem_cons_zero, List.getElem_cons_succ]
    go_big_quiet_step (fail)
    refine wpQuiet_nil ?_
    rfl
  refine wpAnyV_done (by kernel_rfl) ?_ _
  intro W hW
  replace hB := bl_trans hB hW
  have hq1 := ((hoc.kept hW).rd)
  have hq2 := ((hod.kept hW).rd)
  clear hoc hod hW
  clear c0 l0 c1 l1
  have c0 := (Box.past hB x0).cell
  have l0 := (Box.past hB x0).lt
  have c1 := (Box.past hB x1).cell
  have l1 := (Box.past hB x1).lt
  have cA1 : ∀ Z, Below W.heap.size W Z → Calls Tryd.prog 11 #[.agg a.a, .slice pc q1.length nc, .agg b.a, .int .i64 0] Z fun e w' => e = .returned (.bool true) ∧ Below Z.heap.size Z w' := fun Z hZ => cA Z _ _ _ (bl_trans hB hZ) (hq1.below hZ) (by omega) hc3 hc1
  have cA2 : ∀ Z, Below W.heap.size W Z → Calls Tryd.prog 11 #[.agg a.a, .slice pd q2.length nd, .agg b.a, .int .i64 0] Z fun e w' => e = .returned (.bool true) ∧ Below Z.heap.size Z w' := fun Z hZ => cA Z _ _ _ (bl_trans hB hZ) (hq2.below hZ) (by omega) hc4 hc2
  have hl1 : (q1.length : Int) ≤ 20 := by omega
  have hl2 : (q2.length : Int) ≤ (q1.length : Int) := by omega
  clear hc1 hc2 hc3 hc4 hq1 hq2 cC cX hc5 hc6
  go_upto_region 6 with (first | (go_at_call 11; (first | (with_reducible refine (cA1 _ (Below.refl _ _)).mono ?_) | (with_reducible refine (cA1 _ (GW.grow _)).mono ?_)); rintro e w2 ⟨rfl, hb⟩; (first | obtain ⟨X, rfl⟩ := GW.of2 hb | obtain ⟨X, rfl⟩ := GW.of hb); clear hb) | (go_at_call 11; (first | (with_reducible refine (cA2 _ (Below.refl _ _)).mono ?_) | (with_reducible refine (cA2 _ (GW.grow _)).mono ?_)); rintro e w3 ⟨rfl, hb⟩; (first | obtain ⟨X, rfl⟩ := GW.of2 hb | obtain ⟨X, rfl⟩ := GW.of hb); clear hb))
  replace hB := bl_trans hB X.grow
  clear cA1 cA2 hl1 hl2 cV cVb cR cRm
  generalize X.world = V at *
  clear c0 l0 c1 l1
  have c0 := (Box.past hB x0).cell
  have l0 := (Box.past hB x0).lt
  have HO := Lib.hid (apply_okay a l hva ha)
  have cPv : ∀ Z, Below V.heap.size V Z → Calls Tryd.prog 20 #[.agg a.a, .slice pv l.length nv] Z fun e w' => e = .returned (.tuple #[.agg (applyN a l).a, .int .i64 0]) ∧ Below Z.heap.size Z w' := fun Z hZ => cP Z (bl_trans hB hZ)
  generalize hp1 : applyN a l = p1 at *
  have HP1 := Lib.hid hp1
  clear cP hp1
  go_upto_region 9 with (first | (go_at_call 20; (first | (with_reducible refine (cPv _ (Below.refl _ _)).mono ?_) | (with_reducible refine (cPv _ (GW.grow _)).mono ?_) | (with_reducible refine (cPv _).mono ?_)); rintro e w2 ⟨rfl, hb⟩; obtain ⟨XP, rfl⟩ := GW.of hb; clear hb) | (go_at_call 9; (first | (with_reducible refine (cV1 _ (Below.refl _ _)).mono ?_) | (with_reducible refine (cV1 _ (GW.grow _)).mono ?_) | (with_reducible refine (cV1 _).mono ?_)); rintro e w3 ⟨rfl, hb⟩; obtain ⟨XV, rfl⟩ := GW.of hb; clear hb))
  have yT : Box (XP.world.alloc (.cells #[.int .i64 p1.f.k, .int .u8 p1.f.i, .int .u8 p1.f.r, .int .u8 p1.f.g, .int .u8 p1.f.b, .int .i64 p1.b.k, .int .u8 p1.b.i, .int .u8 p1.b.r, .int .u8 p1.b.g, .int .u8 p1.b.b, .int .u8 p1.x] 27)) XP.world.heap.size #[.int .i64 p1.f.k, .int .u8 p1.f.i, .int .u8 p1.f.r, .int .u8 p1.f.g, .int .u8 p1.f.b, .int .i64 p1.b.k, .int .u8 p1.b.i, .int .u8 p1.b.r, .int .u8 p1.b.g, .int .u8 p1.b.b, .int .u8 p1.x] 27 := Box.new _ _ _ rfl
  have yC := bl_alloc XP.grow (.cells #[.int .i64 p1.f.k, .int .u8 p1.f.i, .int .u8 p1.f.r, .int .u8 p1.f.g, .int .u8 p1.f.b, .int .i64 p1.b.k, .int .u8 p1.b.i, .int .u8 p1.b.r, .int .u8 p1.b.g, .int .u8 p1.b.b, .int .u8 p1.x] 27)
  have yT2 := Box.gw (X := XV) yT
  have yC2 := bl_trans hB (bl_trans yC XV.grow)
  refine wp_name (fun Z => Below ((w.alloc (.cells a.a 27)).alloc (.cells b.a 27)).heap.size ((w.alloc (.cells a.a 27)).alloc (.cells b.a 27)) Z ∧ Box Z XP.world.heap.size #[.int .i64 p1.f.k, .int .u8 p1.f.i, .int .u8 p1.f.r, .int .u8 p1.f.g, .int .u8 p1.f.b, .int .i64 p1.b.k, .int .u8 p1.b.i, .int .u8 p1.b.r, .int .u8 p1.b.g, .int .u8 p1.b.b, .int .u8 p1.x] 27) ⟨by with_reducible exact yC2, by with_reducible exact yT2⟩ ?_
  clear yT yC yT2 yC2
  rintro V2 ⟨hB2, zP⟩
  clear c0 l0 cPv cV1 hB
  generalize XP.world.heap.size = BP at *
  go_wp2_with fail
  go_loopw [13] (fun i wr => ∃ (r : List Int) (q : Pn), Rd wr .i64 i r ∧ Hid (r.length ≤ l.length) ∧ Hid (applyN a (l ++ m) = applyN q (r ++ m) ∧ p1 = applyN q r) ∧ Below V2.heap.size V2 wr) (fun i _ => match i with | .slice _ n _ => n | _ => 0)
  case atStart => exact ⟨l, a, hr1.below hB2, Nat.le_refl _, Lib.hid ⟨rfl, HP1.out.symm⟩, Below.refl _ _⟩
  case round =>
    obtain ⟨r, q, hrd, hrl, HA, hbel⟩ := hrel
    have hBw := bl_trans hB2 hbel
    have zw := Box.past hbel zP
    have HRD := hrd
    obtain ⟨pr, cr, rfl, hcr, hcm, hcell⟩ := hrd
    clear hcell
    have hrl2 := hrl.out
    by_cases hnil : r = []
    · subst hnil
      have HQ : Hid (applyN a (l ++ m) = applyN p1 m) := Lib.hid (by have := HA.out; rw [this.1, this.2]; rfl)
      have cMv : ∀ Z, Below wr.heap.size wr Z → Calls Tryd.prog 20 #[.agg p1.a, .slice pu m.length nu] Z fun e w' => e = .returned (.tuple #[.agg (applyN p1 m).a, .int .i64 0]) ∧ Below Z.heap.size Z w' := fun Z hZ => cM Z (bl_trans hBw hZ)
      generalize applyN p1 m = q2 at *
      have zc := zw.cell
      have zl := zw.lt
      clear HA HP1 HP HO
      go_upto_region 16 with (first | (go_at_call 20; (first | (with_reducible refine (cMv _ (Below.refl _ _)).mono ?_) | (with_reducible refine (cMv _ (GW.grow _)).mono ?_) | (with_reducible refine (cMv _).mono ?_)); rintro e w2 ⟨rfl, hb⟩; obtain ⟨XM, rfl⟩ := GW.of hb; clear hb))
      have hXM : Below wr.heap.size wr XM.world := XM.grow
      have yT : Box (XM.world.alloc (.cells #[.int .i64 q2.f.k, .int .u8 q2.f.i, .int .u8 q2.f.r, .int .u8 q2.f.g, .int .u8 q2.f.b, .int .i64 q2.b.k, .int .u8 q2.b.i, .int .u8 q2.b.r, .int .u8 q2.b.g, .int .u8 q2.b.b, .int .u8 q2.x] 27)) XM.world.heap.size #[.int .i64 q2.f.k, .int .u8 q2.f.i, .int .u8 q2.f.r, .int .u8 q2.f.g, .int .u8 q2.f.b, .int .i64 q2.b.k, .int .u8 q2.b.i, .int .u8 q2.b.r, .int .u8 q2.b.g, .int .u8 q2.b.b, .int .u8 q2.x] 27 := Box.new _ _ _ rfl
      have yC := bl_alloc XM.grow (.cells #[.int .i64 q2.f.k, .int .u8 q2.f.i, .int .u8 q2.f.r, .int .u8 q2.f.g, .int .u8 q2.f.b, .int .i64 q2.b.k, .int .u8 q2.b.i, .int .u8 q2.b.r, .int .u8 q2.b.g, .int .u8 q2.b.b, .int .u8 q2.x] 27)
      refine wp_name (fun Z => Below ((w.alloc (.cells a.a 27)).alloc (.cells b.a 27)).heap.size ((w.alloc (.cells a.a 27)).alloc (.cells b.a 27)) Z ∧ Box Z XM.world.heap.size #[.int .i64 q2.f.k, .int .u8 q2.f.i, .int .u8 q2.f.r, .int .u8 q2.f.g, .int .u8 q2.f.b, .int .i64 q2.b.k, .int .u8 q2.b.i, .int .u8 q2.b.r, .int .u8 q2.b.g, .int .u8 q2.b.b, .int .u8 q2.x] 27) ⟨by with_reducible exact bl_trans hBw yC, by with_reducible exact yT⟩ ?_
      clear yT yC
      rintro V3 ⟨hB3, aQ⟩
      have aA := Box.past hB3 x0
      have hlm4 := hlm
      generalize XM.world.heap.size = BQ at *
      clear hXM zc zl zw hBw hbel cMv cM
      refine wp_region_V (fun u1 u2 => SB V3.heap.size u1 u2) (by kernel_rfl) ?_
      have hTr := SB.trans V3.heap.size
      have hGr := SB.gr V3.heap.size
      have hcur : Below V3.heap.size V3 V3.drew := (Below.refl _ _).drew
      generalize V3.drew = V6 at *
      refine wpAnyV_takeS hTr hGr (A := ?A0k) 0 rfl (by kernel_rfl) (by kernel_rfl) (by kernel_rfl) (fun _ _ _ _ h => h) ?q0k ?r0k
      case q0k =>
        intro W hW
        try simp only [List.getElem_toArray, List.getElem_cons_zero, List.getElem_cons_succ]
        go_big_quiet_step (fail)
        refine wpQuiet_nil ?_
        rfl
      refine wpAnyV_takeS hTr hGr (A := ?A1k) 1 rfl (by kernel_rfl) (by kernel_rfl) (by kernel_rfl) (fun _ _ _ _ h => h) ?q1k ?r1k
      case q1k =>
        intro W hW
        try simp only [List.getElem_toArray, List.getElem_cons_zero, List.getElem_cons_succ]
        go_big_quiet_step (fail)
        refine wpQuiet_nil ?_
        rfl
      refine wpAnyV_takeS hTr hGr (A := ?A2k) 2 rfl (by kernel_rfl) (by kernel_rfl) (by kernel_rfl) (fun _ _ _ _ h => h) ?q2k ?r2k
      case q2k =>
        intro W hW
        try simp only [List.getElem_toArray, List.getElem_cons_zero, List.getElem_cons_succ]
        go_big_quiet_step (fail)
        refine wpQuiet_nil ?_
        rfl
      refine wpAnyV_takeS hTr hGr (A := ?A3k) 3 rfl (by kernel_rfl) (by kernel_rfl) (by kernel_rfl) (fun _ _ _ _ h => h) ?q3k ?r3k
      case q3k =>
        intro W hW
        have hW1 : Below V3.heap.size V3 W := Below.trans hcur (hW hcur.size); have cA3 := (Box.past hW1 aA).cell; have lA3 := (Box.past hW1 aA).lt; have cQ3 := (Box.past hW1 aQ).cell; have lQ3 := (Box.past hW1 aQ).lt
        try simp only [List.getElem_toArray, List.getElem_cons_zero, List.getElem_cons_succ]
        go_big_quiet_step (fail)
        refine wpQuiet_nil ?_
        rfl
      refine wpAnyV_takeS hTr hGr (A := ?A4k) 4 rfl (by kernel_rfl) (by kernel_rfl) (by kernel_rfl) (fun _ _ _ _ h => h) ?q4k ?r4k
      case q4k =>
        intro W hW
        try simp only [List.getElem_toArray, List.getElem_cons_zero, List.getElem_cons_succ]
        go_big_quiet_step (fail)
        refine wpQuiet_nil ?_
        rfl
      refine wpAnyV_takeS hTr hGr (A := ?A6k) 6 rfl (by kernel_rfl) (by kernel_rfl) (by kernel_rfl) (fun _ _ _ _ h => h) ?q6k ?r6k
      case q6k =>
        intro W hW
        try simp only [List.getElem_toArray, List.getElem_cons_zero, List.getElem_cons_succ]
        go_big_quiet_step (fail)
        refine wpQuiet_nil ?_
        rfl
      refine wpAnyV_takeS hTr hGr (A := ?A8k) 8 rfl (by kernel_rfl) (by kernel_rfl) (by kernel_rfl) (fun _ _ _ _ h => h) ?q8k ?r8k
      case q8k =>
        intro W hW
        have hW1 : Below V3.heap.size V3 W := Below.trans hcur (hW hcur.size); have cA3 := (Box.past hW1 aA).cell; have lA3 := (Box.past hW1 aA).lt; have cQ3 := (Box.past hW1 aQ).cell; have lQ3 := (Box.past hW1 aQ).lt
        try simp only [List.getElem_toArray, List.getElem_cons_zero, List.getElem_cons_succ]
        go_big_quiet_step (fail)
        refine wpQuiet_nil ?_
        rfl
      refine wpAnyV_one 5 (by kernel_rfl) ?_
      intro W hW
      replace hcur : Below V3.heap.size V3 W := Below.trans hcur (hW.mono hcur.size)
      have ow := (Own.nil W V3.heap.size 3 .i64)
      refine wpOp_step rfl (fun K hK => ?_)
      refine step_appg (by rfl) _ _ 28 3 .i64 8 rfl Tryd.underlying28 elI V3.heap.size _ _ ([] : List Int) l ow (hr1.below (bl_trans hB3 hcur)) rfl rfl (by simp only [maxLen, List.length_append, List.length_nil]; omega) (by simp only [List.length_append, List.length_nil]; omega) hcur.size ?_
      intro v1 wn ho1 hgr hwh
      have hbn : Below V3.heap.size W wn := grown_below hgr (fun g e => (ow.block g e).1) hcur.size
      refine hK _ _ ⟨fun _ => hbn, ?_⟩
      clear hK K
      try simp only [Act.put, List.getElem_toArray, List.getElem_cons_zero, List.getElem_cons_succ, List.setIfInBounds_toArray, List.set_cons_zero, List.set_cons_succ]
      replace hcur := Below.trans hcur hbn
      refine wpAnyV_one 7 (by kernel_rfl) ?_
      intro W hW
      replace hcur : Below V3.heap.size V3 W := Below.trans hcur (hW.mono hcur.size)
      have ow := (ho1.kept hW)
      refine wpOp_step rfl (fun K hK => ?_)
      refine step_appg (by rfl) _ _ 28 3 .i64 8 rfl Tryd.underlying28 elI V3.heap.size _ _ ([] ++ l) m ow (hk1.below (bl_trans hB3 hcur)) rfl rfl (by simp only [maxLen, List.length_append, List.length_nil]; omega) (by simp only [List.length_append, List.length_nil]; omega) hcur.size ?_
      intro v2 wn ho2 hgr hwh
      have hbn : Below V3.heap.size W wn := grown_below hgr (fun g e => (ow.block g e).1) hcur.size
      refine hK _ _ ⟨fun _ => hbn, ?_⟩
      clear hK K
      try simp only [Act.put, List.getElem_toArray, List.getElem_cons_zero, List.getElem_cons_succ, List.setIfInBounds_toArray, List.set_cons_zero, List.set_cons_succ]
      replace hcur := Below.trans hcur hbn
      refine wpAnyV_one 9 (by kernel_rfl) ?_
      intro W hW
      replace hcur : Below V3.heap.size V3 W := Below.trans hcur (hW.mono hcur.size)
      have hq3 := (ho2.kept hW).rd
      refine wpOp_step rfl (fun K hK => ?_)
      go_simp
      (with_reducible refine (cA _ _ _ q2 (bl_trans hB3 hcur) hq3 (by have h40 := hlm4; rw [List.length_append] at h40; simp; omega) (by simpa using HRL.out) (by simpa using HQ.out)).mono ?_)
      rintro e wn ⟨rfl, hbn⟩
      go_simp
      refine hK _ _ ⟨SB.gr _ _ _ hbn, ?_⟩
      clear hK K
      try simp only [Act.put, List.getElem_toArray, List.getElem_cons_zero, List.getElem_cons_succ, List.setIfInBounds_toArray, List.set_cons_zero, List.set_cons_succ]
      replace hcur := Below.trans hcur (hbn.mono hcur.size)
      refine wpAnyV_takeS hTr hGr (A := ?A10k) 10 rfl (by kernel_rfl) (by kernel_rfl) (by kernel_rfl) (fun _ _ _ _ h => h) ?q10k ?r10k
      case q10k =>
        intro W hW
        try simp only [List.getElem_toArray, List.getElem_cons_zero, List.getElem_cons_succ]
        go_big_quiet_step (fail)
        refine wpQuiet_nil ?_
        rfl
      refine wpAnyV_takeS hTr hGr (A := ?A11k) 11 rfl (by kernel_rfl) (by kernel_rfl) (by kernel_rfl) (fun _ _ _ _ h => h) ?q11k ?r11k
      case q11k =>
        intro W hW
        try simp only [List.getElem_toArray, List.getElem_cons_zero, List.getElem_cons_succ]
        go_big_quiet_step (fail)
        refine wpQuiet_nil ?_
        rfl
      refine wpAnyV_one 12 (by kernel_rfl) ?_
      intro W hW
      replace hcur : Below V3.heap.size V3 W := Below.trans hcur (hW.mono hcur.size)
      refine wpOp_step rfl (fun K hK => ?_)
      go_simp
      (with_reducible refine (cK _ (bl_trans hB3 hcur)).mono ?_)
      rintro e wn ⟨rfl, hbn⟩
      go_simp
      refine hK _ _ ⟨SB.gr _ _ _ hbn, ?_⟩
      clear hK K
      try simp only [Act.put, List.getElem_toArray, List.getElem_cons_zero, List.getElem_cons_succ, List.setIfInBounds_toArray, List.set_cons_zero, List.set_cons_succ]
      replace hcur := Below.trans hcur (hbn.mono hcur.size)
      refine wpAnyV_takeS hTr hGr (A := ?A13k) 13 rfl (by kernel_rfl) (by kernel_rfl) (by kernel_rfl) (fun _ _ _ _ h => h) ?q13k ?r13k
      case q13k =>
        intro W hW
        try simp only [List.getElem_toArray, List.getElem_cons_zero, List.getElem_cons_succ]
        go_big_quiet_step (fail)
        refine wpQuiet_nil ?_
        rfl
      refine wpAnyV_takeS hTr hGr (A := ?A14k) 14 rfl (by kernel_rfl) (by kernel_rfl) (by kernel_rfl) (fun _ _ _ _ h => h) ?q14k ?r14k
      case q14k =>
        intro W hW
        try simp only [List.getElem_toArray, List.getElem_cons_zero, List.getElem_cons_succ]
        go_big_quiet_step (fail)
        refine wpQuiet_nil ?_
        rfl
      refine wpAnyV_done (by kernel_rfl) ?_ _
      intro W hW
      replace hcur : Below V3.heap.size V3 W := Below.trans hcur (hW.mono hcur.size)
      go_wp2_with fail
      go_ret
      exact ⟨rfl, bl_trans hb0 (bl_trans hB3 hcur)⟩
    · have hp := List.length_pos_iff.2 hnil
      have hpI : (0 : Int) < (r.length : Int) := by omega
      have cGv : ∀ W v, Rd W .i64 v ([] ++ r ++ m) → Calls Tryd.prog 21 #[v] W fun e w' => e = .returned (.int .i64 (groupN (r ++ m))) ∧ Below W.heap.size W w' := fun W v h => cG W v (r ++ m) (by simpa using h) (by rw [List.length_append]; omega)
      have hst := part_step q r m hnil
      have hgp := (group_pos (r ++ m) (by simp [hnil])).1
      have HST := Lib.hid hst
      clear hst
      have HNIL := Lib.hid hnil
      clear hnil zP zw
      generalize hg0 : groupN (r ++ m) = g at *
      have HG0 := Lib.hid hg0
      clear hg0
      by_cases hgt : r.length < g
      · have hgI : ((r.length : Int) < (g : Int)) := by omega
        go_wp2_with (first | (at_builtin; refine wpList_app rfl _ _ 28 3 .i64 8 rfl Tryd.underlying28 elI wr.heap.size _ _ ([] : List Int) r (Own.nil _ _ _ _) HRD rfl rfl (by simp only [maxLen, List.length_append, List.length_nil]; omega) (by simp only [List.length_append, List.length_nil]; omega) (Nat.le_refl _) ?_; intro v1 u1 hown1 hb1 hgr1; have hs1 := hb1.size) | (at_builtin; refine wpList_app rfl _ _ 28 3 .i64 8 rfl Tryd.underlying28 elI wr.heap.size _ _ ([] ++ r) m (hown1) (hk1.below (bl_trans hBw hb1)) rfl rfl (by simp only [maxLen, List.length_append, List.length_nil]; omega) (by simp only [List.length_append, List.length_nil]; omega) (hs1) ?_; intro v2 u2 hown2 hb2 hgr2; have hb12 := bl_trans2 hb1 hb2) | (go_at_call 21; (with_reducible refine (cGv _ _ (Own.rd hown2)).mono ?_); rintro e u3 ⟨rfl, hb3⟩; have hb13 := bl_trans hb12 hb3) | (go_at_call 8; (with_reducible refine (cK _ (bl_trans hBw hb13)).mono ?_); rintro e u4 ⟨rfl, hb4⟩))
        go_ret
        exact ⟨rfl, bl_trans hb0 (bl_trans hBw (bl_trans hb13 hb4))⟩
      · have hgI : ¬ ((r.length : Int) < (g : Int)) := by omega
        go_wp2_with (first | (at_builtin; refine wpList_app rfl _ _ 28 3 .i64 8 rfl Tryd.underlying28 elI wr.heap.size _ _ ([] : List Int) r (Own.nil _ _ _ _) HRD rfl rfl (by simp only [maxLen, List.length_append, List.length_nil]; omega) (by simp only [List.length_append, List.length_nil]; omega) (Nat.le_refl _) ?_; intro v1 u1 hown1 hb1 hgr1; have hs1 := hb1.size) | (at_builtin; refine wpList_app rfl _ _ 28 3 .i64 8 rfl Tryd.underlying28 elI wr.heap.size _ _ ([] ++ r) m (hown1) (hk1.below (bl_trans hBw hb1)) rfl rfl (by simp only [maxLen, List.length_append, List.length_nil]; omega) (by simp only [List.length_append, List.length_nil]; omega) (hs1) ?_; intro v2 u2 hown2 hb2 hgr2; have hb12 := bl_trans2 hb1 hb2) | (go_at_call 21; (with_reducible refine (cGv _ _ (Own.rd hown2)).mono ?_); rintro e u3 ⟨rfl, hb3⟩; have hb13 := bl_trans hb12 hb3) | (refine wpList_part rfl 28 .i64 Tryd.underlying28 Tryd.sizeOf3 (.tmp 96) (some (.tmp 97)) none rfl pr cr r rfl (HRD.below hb13) g r.length (.inr rfl) (.inl ⟨rfl, rfl⟩) (by omega) (by omega) ?_; intro v9 hv9 hvb9; rw [List.take_length] at hv9; obtain ⟨p9, c9, hv9e⟩ := Rd.lits hv9; subst hv9e; rw [List.length_drop] at hv9))
        go_roundw
        case rel => exact ⟨r.drop g, oneG q (r.take g), hv9, Lib.hid (by rw [List.length_drop]; omega), Lib.hid (by have h1 := HST.out (by omega); have h2 := HA.out; rw [h2.1, h1.1, h2.2, h1.2]; exact ⟨rfl, rfl⟩), bl_trans hbel hb13⟩
        case measure => simp; omega

set_option maxRecDepth 100000 in
theorem styleHolds_lifted (os : Os) (started : os.Started) (H : Type) (enc : TypeId × Value → H) :
    ReturnsInHanded {} Tryd.checked os 7 .any (fun w args => (Rows.styleHoldsSpec.pre enc Tryd.prog Tryd.f7 [] false w args ∧ laidMetH Tryd.prog laid4 w) ∧ sizedMet enc Tryd.prog Tryd.f7 (OpenSpec.ofChange Rows.styleHoldsSpec) false w args)
      (Rows.styleHoldsSpec.post enc Tryd.prog Tryd.f7 false true false false) := by
  refine returnsInHanded_of_change_and (C := Tryd.checked) (X := fun w _ => laidMetH Tryd.prog laid4 w) (fun _ _ _ hh h => h.of_heap hh) Tryd.own started (by kernel_rfl) Tryd.func7
    (ChangeSpec.witness_shaped (enc := enc) (C := Tryd.checked) (os := os) (X := fun w _ => laidMetH Tryd.prog laid4 w) false (World.doorLaid Tryd.prog 400 os) #[.agg #[.int .i64 0, .int .u8 0, .int .u8 0, .int .u8 0, .int .u8 0, .int .i64 0, .int .u8 0, .int .u8 0, .int .u8 0, .int .u8 0, .int .u8 0], .agg #[.int .i64 0, .int .u8 0, .int .u8 0, .int .u8 0, .int .u8 0, .int .i64 0, .int .u8 0, .int .u8 0, .int .u8 0, .int .u8 0, .int .u8 0], .slice none 0 0, .slice none 0 0] 8 rfl (World.shaped_of_RefB (by kernel_rfl) (by kernel_rfl)) (by kernel_rfl) (by kernel_rfl) (by kernel_rfl) (door_met os _)) ?_
  intro W base args ds gs before hval0 hW _ _ hL _
  have hval : ∀ (j : Nat) t v, Tryd.f7.params[j]? = some t → args[j]? = some v → Value.okWide Tryd.prog W .any base t v := hval0
  have hW' := hW
  obtain ⟨p, q, hA0, hV, rfl, hfz, hnd⟩ := hW
  have hA : DataW.TrodAll enc Tryd.prog W 0 (fun _ => true) true Tryd.f7.params.toList args.toList ds p := hA0
  rw [Tryd.params7] at hA hval
  obtain ⟨v0, v1, v2, v3, d0, d1, d2, d3, p0, p1, p2, p3, rfl, rfl, rfl, h0, h1, h2, h3⟩ := trodAll_four hA
  obtain ⟨rfl, rfl⟩ := trodVars_none hV
  obtain ⟨pn0, rfl, hp0⟩ := open_pen (hval 0 27 v0 rfl rfl) h0
  obtain ⟨pn1, rfl, hp1⟩ := open_pen (hval 1 27 v1 rfl rfl) h1
  obtain ⟨xs2, hrd2, hwf2⟩ := open_rd Tryd.underlying28 Tryd.underlying3 (by kernel_rfl) (hval 2 28 v2 rfl rfl) h2
  obtain ⟨xs3, hrd3, hwf3⟩ := open_rd Tryd.underlying28 Tryd.underlying3 (by kernel_rfl) (hval 3 28 v3 rfl rfl) h3
  clear hA0 hval0
  have hT := gl_of_laid hL
  refine (styleHolds_any pn0 pn1 _ _ xs2 xs3 W hT hp0 hp1 hrd2 hrd3).mono fun e W' ⟨he, hw⟩ => ?_
  exact ⟨_, he, post_law Tryd.laidOut rfl hW' (by kernel_rfl) rfl Tryd.underlying4 rfl hw⟩

theorem styleHolds_row : Rows.StyleHoldsSaid :=
  OpenClaim.holds_of_wide 7 Tryd.f7 rfl rfl rfl rfl rfl rfl rfl ⟨rfl, rfl, rfl, rfl, rfl⟩ rfl rfl rfl rfl rfl (by kernel_rfl) Tryd.func7 (by kernel_rfl)
    (of_decide_eq_true (by kernel_rfl)) (by unfold Func.isWrapper; first | (rw [if_pos (by decide +kernel)]; kernel_rfl) | (rw [if_neg (by decide +kernel)]; exact ⟨rfl, rfl⟩))
    (fun os started H enc _ => styleHolds_lifted os started H enc)

set_option maxHeartbeats 8000000 in
set_option maxRecDepth 100000 in
/-- THE TIED CARD. -/
theorem styleHolds_holds : Rows.StyleHoldsCardSaid :=
  Claim7.holds_tied_plain_at .later [] [.data, .data, .data, .data] true (true, "a3470dac668e4131d9f8441a592fc5b44021ebc5f310932b83913053633c592d") false
    styleHolds_row (fun _ h => by cases h) (by kernel_rfl) (fun _ h => by cases h) styleHolds_row_tie rfl ⟨rfl, rfl⟩ (by kernel_rfl) rfl
    (fun f fn hf hfn => by
      obtain rfl : f = 7 := Option.some.inj ((show Tryd.prog.funcNamed "scrollback/scrollbacklaw21.StyleHolds" = some 7 by kernel_rfl).symm.trans hf) |>.symm
      obtain rfl : fn = Tryd.f7 := (Option.some.inj (Tryd.func7.symm.trans hfn)).symm
      exact ⟨by kernel_rfl, fun j t ht => by
        rw [Tryd.params7] at ht
        have hm : t ∈ [27, 27, 28, 28] := by simpa using Array.mem_of_getElem? ht
        have hall : ([27, 27, 28, 28].all fun u => !Tryd.prog.wantsStandIn u) = true := by kernel_rfl
        exact (show Tryd.prog.wantsStandIn t = false by simpa using List.all_eq_true.1 hall t hm)⟩)
    (by kernel_rfl)

end Go.Proofs.YtdoeiaekimbecaaDoor
