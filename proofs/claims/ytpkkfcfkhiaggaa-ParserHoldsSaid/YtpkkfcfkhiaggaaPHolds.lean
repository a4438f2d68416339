/- parser: ParserHolds returns true for every input. No condition. Printed by mk_ph.py. -/
import Derived.Test.YtpkkfcfkhiaggaaXM
import Derived.Test.YtpkkfcfkhiaggaaOpen
import Derived.Test.YtpkkfcfkhiaggaaLift
import Derived.ChangeSlices
import Derived.Deep.LoopGhost
import Derived.Deep.CutBlock
import Derived.Deep.DeepCutAuto
import Derived.Outline
set_option linter.unusedSimpArgs false
set_option linter.unusedVariables false
set_option linter.unnecessarySimpa false
namespace Go.Proofs.Ytpkkfcfkhiaggaa
open Go.ChangeShapes Go.WideShapes Go.ChangeAt Go.RowKit

/-- Two lists of actions, one behind the other. -/
theorem two_parts {D : Nat} {X : Nat → Prop} {w w1 w2 w3 : World} {v1 v2 v' : Value} {xs1 xs2 : List AV} {q : Ps} (k2 : OwnX w1 w.heap.size v1 xs1) (k3 : Bar D w w1) (m2 : OwnX w2 w1.heap.size v2 xs2) (m3 : Bar D w1 w2) (m4 : PV w2 D (fun g => (X g ∨ XB v1 xs1 g) ∨ XB v2 xs2 g) q)
    (hD : D < w.heap.size) (hg : w2.grownBy w3 v1.ownBlock) (hw : v'.ownBlock = v1.ownBlock ∨ v'.ownBlock = some w2.heap.size) : Bar D w w3 ∧ PV w3 D (fun g => X g ∨ XB v' (xs1 ++ xs2) g) q := by
  have h1 := m4.add (Y := fun g => g = w2.heap.size) (fun g e => by omega)
  have h2 := h1.grown hg (fun g e => ⟨fun e2 => by have := (k2.lt g e).1; omega, .inl (.inl (.inr (.inr e)))⟩)
  refine ⟨(k3.trans m3).app hg (fun g e => (k2.lt g e).1), h2.mono (fun g h => ?_)⟩
  rcases h with h | h | h
  · exact .inl (.inl (.inl h))
  · rcases pb_app.1 h with h | h
    · exact .inl (.inl (.inr (.inl h)))
    · exact .inl (.inr (.inl h))
  · rcases hw with e | e
    · exact .inl (.inl (.inr (.inr (by rw [← e]; exact h))))
    · rw [e] at h; injection h with h; exact .inr h.symm
theorem PV.above {w : World} {D : Nat} {X : Nat → Prop} {p : Ps} (h : PV w D X p) : PV w D (fun g => X g ∨ w.heap.size ≤ g) p := h.add (fun _ h => h)
theorem three (p : Ps) : (psRun p [24, 27, 91]).1 = (ent ps0 3).feed p.bs := rfl
theorem OutX.past {X : Nat → Prop} {w w1 w2 : World} (h : OutX X w w1) (hb : Below w1.heap.size w1 w2) : OutX X w w2 := ⟨hb.os.trans h.os, hb.tape.trans h.tape, hb.output.trans h.output, Nat.le_trans h.size hb.size, fun k hk hl => (hb.block k (Nat.lt_of_lt_of_le hl h.size)).trans (h.block k hk hl)⟩
theorem xb_lt {w : World} {B : Nat} {v : Value} {xs : List AV} (h : OwnX w B v xs) : ∀ g, XB v xs g → g < w.heap.size := fun g k => k.elim (fun k => (h.plt g k).2) (fun k => (h.lt g k).2)
theorem pwrite_lim (l : List Int) : ∀ a ∈ (psWrite ps0 l).2, limA a := (run_lim _ _ ⟨Nat.zero_le _, Nat.zero_le _⟩).2
theorem own_lits {w : World} {B : Nat} {v : Value} {xs : List AV} (h : OwnX w B v xs) : ∃ q c, v = .slice q xs.length c := by
  obtain ⟨q, c, e, _⟩ := h.rdx
  exact ⟨q, c, e⟩
theorem pwrite_few (l : List Int) (hl : ∀ x ∈ l, Byte x) : (psWrite ps0 l).2.length ≤ 2 * l.length := by
  rw [(pwrite_sim l).2]; exact (rwrite_ok l hl).2

set_option maxRecDepth 100000 in
set_option maxHeartbeats 8000000 in
theorem parserHolds_any (v v3 : Value) (xs ys : List Int) (f s : Int) (w : World) (h : Rd w .u8 v xs) (h3 : Rd w .u8 v3 ys) (hb : ∀ x ∈ xs, Byte x) (hby : ∀ x ∈ ys, Byte x) (hf : Byte f) (hs : Byte s) : Calls Try.prog 5 #[v, .int .u8 f, .int .u8 s, v3] w fun e w' => e = .returned (.bool true) ∧ Below w.heap.size w w' := by
  obtain ⟨p, cap, hv⟩ := Rd.lits h
  subst hv
  obtain ⟨p3, cap3, hv3⟩ := Rd.lits h3
  subst hv3
  by_cases hl : 200 < xs.length
  · go_enter Try.func5, Try.ntmps5
    go_wp2_with (go_at_call 9; (with_reducible refine (known_any _).mono ?_); rintro e w1 ⟨rfl, hb1⟩)
    go_ret
    exact ⟨rfl, hb1⟩
  by_cases hl3 : 20 < ys.length
  · go_enter Try.func5, Try.ntmps5
    go_wp2_with (go_at_call 9; (with_reducible refine (known_any _).mono ?_); rintro e w1 ⟨rfl, hb1⟩)
    go_ret
    exact ⟨rfl, hb1⟩
  obtain ⟨i, hi⟩ : ∃ i : Nat, f % ((xs.length : Int) + 1) = i := ⟨(f % ((xs.length : Int) + 1)).toNat, by have := hf; unfold Byte at this; have := Int.emod_nonneg f (show ((xs.length : Int) + 1) ≠ 0 by omega); omega⟩
  obtain ⟨k, hk⟩ : ∃ k : Nat, s % ((xs.length : Int) + 1) = k := ⟨(s % ((xs.length : Int) + 1)).toNat, by have := hs; unfold Byte at this; have := Int.emod_nonneg s (show ((xs.length : Int) + 1) ≠ 0 by omega); omega⟩
  have hi2 : i ≤ xs.length := by have := Int.emod_lt_of_pos f (show (0 : Int) < (xs.length : Int) + 1 by omega); omega
  have hk2 : k ≤ xs.length := by have := Int.emod_lt_of_pos s (show (0 : Int) < (xs.length : Int) + 1 by omega); omega
  unfold Byte at hf hs
  go_enter Try.func5, Try.ntmps5
  go_wp2_with fail
  first | refine wp_grow2 (by kernel_rfl) (by kernel_rfl) ?_ | refine wp_grow (by kernel_rfl) (by kernel_rfl) ?_
  repeat (go_big_quiet_step (fail))
  refine wpQuiet_nil ?_
  rintro _ ⟨X, rfl⟩
  go_upto_region 5 with fail
  obtain ⟨I, hI⟩ : ∃ I : Nat, (if k < i then (k : Int) else i) = I := (by split; exact ⟨_, rfl⟩; exact ⟨_, rfl⟩)
  obtain ⟨K, hK⟩ : ∃ K : Nat, (if i < k then (k : Int) else i) = K := (by split; exact ⟨_, rfl⟩; exact ⟨_, rfl⟩)
  simp only [hI, hK]
  have hIK : I ≤ K ∧ K ≤ xs.length := by
    split at hI <;> split at hK <;> omega
  obtain ⟨hIK1, hIK2⟩ := hIK
  clear hI hK hi hk hi2 hk2
  refine wp_name (fun Z => Below w.heap.size w Z) X.grow ?_
  rintro W0 hW0
  have hXs := hW0.size
  have hvin := h.in
  have hyin := h3.in
  have hvA : (Value.slice p xs.length cap).ownBlock ≠ some W0.heap.size := fun e => by have := hvin _ e; omega
  have hvB : (Value.slice p xs.length cap).ownBlock ≠ some (W0.heap.size + 1) := fun e => by have := hvin _ e; omega
  have hyA : (Value.slice p3 ys.length cap3).ownBlock ≠ some W0.heap.size := fun e => by have := hyin _ e; omega
  have hyB : (Value.slice p3 ys.length cap3).ownBlock ≠ some (W0.heap.size + 1) := fun e => by have := hyin _ e; omega
  obtain ⟨x1, hx1⟩ : ∃ x, x = (xs.take I).drop 0 := ⟨_, rfl⟩
  obtain ⟨x2, hx2⟩ : ∃ x, x = (xs.take K).drop I := ⟨_, rfl⟩
  obtain ⟨x3, hx3⟩ : ∃ x, x = (xs.take xs.length).drop K := ⟨_, rfl⟩
  have hxs : x1 ++ x2 ++ x3 = xs := by
    rw [hx1, hx2, hx3, List.drop_zero, List.take_length]
    rw [show xs.take I = (xs.take K).take I by rw [List.take_take, Nat.min_eq_left hIK1], List.take_append_drop, List.take_append_drop]
  have hb1 : ∀ x ∈ x1, Byte x := fun x hx => hb x (by rw [← hxs]; simp [hx])
  have hb2 : ∀ x ∈ x2, Byte x := fun x hx => hb x (by rw [← hxs]; simp [hx])
  have hb3 : ∀ x ∈ x3, Byte x := fun x hx => hb x (by rw [← hxs]; simp [hx])
  have hll : x1.length + x2.length + x3.length = xs.length := by rw [← hxs]; simp; omega
  have X1 := Lib.hid hx1
  have X2 := Lib.hid hx2
  have X3 := Lib.hid hx3
  have hla : ∀ c ∈ (psWrite ps0 xs).2, limA c := pwrite_lim xs
  have hpf := pwrite_few xs hb
  have hQ : (psWrite (psWrite (psWrite ps0 x1).1 x2).1 x3).1 = (psWrite ps0 xs).1 := by rw [← hxs, write_append, write_append]
  have hL : (psWrite ps0 x1).2 ++ (psWrite (psWrite ps0 x1).1 x2).2 ++ (psWrite (psWrite (psWrite ps0 x1).1 x2).1 x3).2 = (psWrite ps0 xs).2 := by rw [← hxs, write_append, write_append]
  have hA0 : PV ((W0.alloc (.cells #[.slice none 0 0, .int .i64 0, .int .u8 0, .int .u8 0, .int .i64 0, .int .i32 0, .string ⟨#[]⟩, .int .i64 0, .int .i64 0, .int .i64 0, .int .i64 0, .int .i64 0, .int .i64 0, .int .i64 0, .int .i64 0, .int .i64 0, .int .i64 0, .int .i64 0, .int .i64 0, .int .i64 0, .int .i64 0, .int .i64 0, .int .i64 0, .int .i64 0, .bool false, .slice none 0 0] 31)).alloc (.cells #[.slice none 0 0, .int .i64 0, .int .u8 0, .int .u8 0, .int .i64 0, .int .i32 0, .string ⟨#[]⟩, .int .i64 0, .int .i64 0, .int .i64 0, .int .i64 0, .int .i64 0, .int .i64 0, .int .i64 0, .int .i64 0, .int .i64 0, .int .i64 0, .int .i64 0, .int .i64 0, .int .i64 0, .int .i64 0, .int .i64 0, .int .i64 0, .int .i64 0, .bool false, .slice none 0 0] 31)) W0.heap.size (fun g => g = (W0.heap.size + 1)) ps0 := (PV.zero _ (Box.new W0 #[.slice none 0 0, .int .i64 0, .int .u8 0, .int .u8 0, .int .i64 0, .int .i32 0, .string ⟨#[]⟩, .int .i64 0, .int .i64 0, .int .i64 0, .int .i64 0, .int .i64 0, .int .i64 0, .int .i64 0, .int .i64 0, .int .i64 0, .int .i64 0, .int .i64 0, .int .i64 0, .int .i64 0, .int .i64 0, .int .i64 0, .int .i64 0, .int .i64 0, .bool false, .slice none 0 0] 31 rfl)).past (bl_alloc (Below.refl _ _) _)
  have hB0 : PV ((W0.alloc (.cells #[.slice none 0 0, .int .i64 0, .int .u8 0, .int .u8 0, .int .i64 0, .int .i32 0, .string ⟨#[]⟩, .int .i64 0, .int .i64 0, .int .i64 0, .int .i64 0, .int .i64 0, .int .i64 0, .int .i64 0, .int .i64 0, .int .i64 0, .int .i64 0, .int .i64 0, .int .i64 0, .int .i64 0, .int .i64 0, .int .i64 0, .int .i64 0, .int .i64 0, .bool false, .slice none 0 0] 31)).alloc (.cells #[.slice none 0 0, .int .i64 0, .int .u8 0, .int .u8 0, .int .i64 0, .int .i32 0, .string ⟨#[]⟩, .int .i64 0, .int .i64 0, .int .i64 0, .int .i64 0, .int .i64 0, .int .i64 0, .int .i64 0, .int .i64 0, .int .i64 0, .int .i64 0, .int .i64 0, .int .i64 0, .int .i64 0, .int .i64 0, .int .i64 0, .int .i64 0, .int .i64 0, .bool false, .slice none 0 0] 31)) (W0.heap.size + 1) (fun g => g = W0.heap.size) ps0 := PV.zero _ (Box.new (W0.alloc (.cells #[.slice none 0 0, .int .i64 0, .int .u8 0, .int .u8 0, .int .i64 0, .int .i32 0, .string ⟨#[]⟩, .int .i64 0, .int .i64 0, .int .i64 0, .int .i64 0, .int .i64 0, .int .i64 0, .int .i64 0, .int .i64 0, .int .i64 0, .int .i64 0, .int .i64 0, .int .i64 0, .int .i64 0, .int .i64 0, .int .i64 0, .int .i64 0, .int .i64 0, .bool false, .slice none 0 0] 31)) #[.slice none 0 0, .int .i64 0, .int .u8 0, .int .u8 0, .int .i64 0, .int .i32 0, .string ⟨#[]⟩, .int .i64 0, .int .i64 0, .int .i64 0, .int .i64 0, .int .i64 0, .int .i64 0, .int .i64 0, .int .i64 0, .int .i64 0, .int .i64 0, .int .i64 0, .int .i64 0, .int .i64 0, .int .i64 0, .int .i64 0, .int .i64 0, .int .i64 0, .bool false, .slice none 0 0] 31 (by simp))
  have g2 : Below W0.heap.size W0 ((W0.alloc (.cells #[.slice none 0 0, .int .i64 0, .int .u8 0, .int .u8 0, .int .i64 0, .int .i32 0, .string ⟨#[]⟩, .int .i64 0, .int .i64 0, .int .i64 0, .int .i64 0, .int .i64 0, .int .i64 0, .int .i64 0, .int .i64 0, .int .i64 0, .int .i64 0, .int .i64 0, .int .i64 0, .int .i64 0, .int .i64 0, .int .i64 0, .int .i64 0, .int .i64 0, .bool false, .slice none 0 0] 31)).alloc (.cells #[.slice none 0 0, .int .i64 0, .int .u8 0, .int .u8 0, .int .i64 0, .int .i32 0, .string ⟨#[]⟩, .int .i64 0, .int .i64 0, .int .i64 0, .int .i64 0, .int .i64 0, .int .i64 0, .int .i64 0, .int .i64 0, .int .i64 0, .int .i64 0, .int .i64 0, .int .i64 0, .int .i64 0, .int .i64 0, .int .i64 0, .int .i64 0, .int .i64 0, .bool false, .slice none 0 0] 31)) := bl_alloc (bl_alloc (Below.refl _ _) _) _
  have hz2 : ((W0.alloc (.cells #[.slice none 0 0, .int .i64 0, .int .u8 0, .int .u8 0, .int .i64 0, .int .i32 0, .string ⟨#[]⟩, .int .i64 0, .int .i64 0, .int .i64 0, .int .i64 0, .int .i64 0, .int .i64 0, .int .i64 0, .int .i64 0, .int .i64 0, .int .i64 0, .int .i64 0, .int .i64 0, .int .i64 0, .int .i64 0, .int .i64 0, .int .i64 0, .int .i64 0, .bool false, .slice none 0 0] 31)).alloc (.cells #[.slice none 0 0, .int .i64 0, .int .u8 0, .int .u8 0, .int .i64 0, .int .i32 0, .string ⟨#[]⟩, .int .i64 0, .int .i64 0, .int .i64 0, .int .i64 0, .int .i64 0, .int .i64 0, .int .i64 0, .int .i64 0, .int .i64 0, .int .i64 0, .int .i64 0, .int .i64 0, .int .i64 0, .int .i64 0, .int .i64 0, .int .i64 0, .int .i64 0, .bool false, .slice none 0 0] 31)).heap.size = W0.heap.size + 2 := by simp
  have h2 := (h.below hW0).below g2
  have h2y := (h3.below hW0).below g2
  have hb20 := bl_trans hW0 g2
  generalize hW2 : ((W0.alloc (.cells #[.slice none 0 0, .int .i64 0, .int .u8 0, .int .u8 0, .int .i64 0, .int .i32 0, .string ⟨#[]⟩, .int .i64 0, .int .i64 0, .int .i64 0, .int .i64 0, .int .i64 0, .int .i64 0, .int .i64 0, .int .i64 0, .int .i64 0, .int .i64 0, .int .i64 0, .int .i64 0, .int .i64 0, .int .i64 0, .int .i64 0, .int .i64 0, .int .i64 0, .bool false, .slice none 0 0] 31)).alloc (.cells #[.slice none 0 0, .int .i64 0, .int .u8 0, .int .u8 0, .int .i64 0, .int .i32 0, .string ⟨#[]⟩, .int .i64 0, .int .i64 0, .int .i64 0, .int .i64 0, .int .i64 0, .int .i64 0, .int .i64 0, .int .i64 0, .int .i64 0, .int .i64 0, .int .i64 0, .int .i64 0, .int .i64 0, .int .i64 0, .int .i64 0, .int .i64 0, .int .i64 0, .bool false, .slice none 0 0] 31)) = W2 at *
  have cA := pwrite_any _ _ ps0 _ xs W2 hA0 (fun g e => by omega) h2 hvA hb (by omega)
  have cB1 : ∀ W y, PV W (W0.heap.size + 1) (fun g => g = W0.heap.size) ps0 → W2.heap.size ≤ W.heap.size → Rd W .u8 y x1 → y.ownBlock = (Value.slice p xs.length cap).ownBlock → Calls Try.prog 11 #[.pointer (some ⟨(W0.heap.size + 1), 0, none⟩), y] W (Stepd (W0.heap.size + 1) (fun g => g = W0.heap.size) W (psWrite ps0 x1)) := fun W y h hz hr ho => pwrite_any _ _ _ _ x1 W h (fun g e => by omega) hr (by rw [ho]; exact hvB) hb1 (by omega)
  have cB2 : ∀ W X y, PV W (W0.heap.size + 1) X (psWrite ps0 x1).1 → (∀ g, X g → g < W.heap.size) → Rd W .u8 y x2 → y.ownBlock = (Value.slice p xs.length cap).ownBlock → Calls Try.prog 11 #[.pointer (some ⟨(W0.heap.size + 1), 0, none⟩), y] W (Stepd (W0.heap.size + 1) X W (psWrite (psWrite ps0 x1).1 x2)) := fun W X y h hX hr ho => pwrite_any _ _ _ _ x2 W h hX hr (by rw [ho]; exact hvB) hb2 (by omega)
  have cB3 : ∀ W X y, PV W (W0.heap.size + 1) X (psWrite (psWrite ps0 x1).1 x2).1 → (∀ g, X g → g < W.heap.size) → Rd W .u8 y x3 → y.ownBlock = (Value.slice p xs.length cap).ownBlock → Calls Try.prog 11 #[.pointer (some ⟨(W0.heap.size + 1), 0, none⟩), y] W (Stepd (W0.heap.size + 1) X W (psWrite (psWrite (psWrite ps0 x1).1 x2).1 x3)) := fun W X y h hX hr ho => pwrite_any _ _ _ _ x3 W h hX hr (by rw [ho]; exact hvB) hb3 (by omega)
  clear hxs hx1 hx2 hx3 h h3 hA0
  generalize psWrite (psWrite (psWrite ps0 x1).1 x2).1 x3 = Q3 at *
  generalize psWrite (psWrite ps0 x1).1 x2 = Q2 at *
  generalize psWrite ps0 x1 = Q1 at *
  generalize psWrite ps0 xs = P at *
  have HQ := Lib.hid hQ
  have HL := Lib.hid hL
  have hlsum : Q1.2.length + Q2.2.length + Q3.2.length = P.2.length := by rw [← hL, List.length_append, List.length_append]
  clear hQ hL
  go_upto_region 6 with fail
  try rw [hW2]
  clear hW2
  go_upto_region 12 with (first | (go_at_call 11; (with_reducible refine cA.mono ?_); rintro e w1 ⟨v1, zs, rfl, k1, k2, k3, k4⟩; have hs1 := k3.size; have hB1 := hB0.other k3 (by omega) rfl; have hA1 := k4.above; have h1 := rd_bar h2 hvA k3; have h1y := rd_bar h2y hyA k3; obtain ⟨qa, ca, hva⟩ := own_lits k2; subst hva) | (refine wpList_part rfl 22 .u8 Try.underlying22 Try.sizeOf5 (.tmp 51) none (some (.tmp 52)) rfl p cap xs rfl h1 0 I (.inl ⟨rfl, rfl⟩) (.inr rfl) (Nat.zero_le _) (by omega) ?_; intro y1 hy1 hyb1; rw [← X1.out] at hy1) | (go_at_call 11; (with_reducible refine (cB1 w1 y1 hB1 (by omega) hy1 hyb1).mono ?_); rintro e w2 ⟨v2, zs2, rfl, m1, m2, m3, m4⟩; have hs2 := m3.size; have h12 := rd_bar h1 hvB m3) | (refine wpList_part rfl 22 .u8 Try.underlying22 Try.sizeOf5 (.tmp 56) (some (.tmp 57)) (some (.tmp 58)) rfl p cap xs rfl h12 I K (.inr rfl) (.inr rfl) (by omega) (by omega) ?_; intro y2 hy2 hyb2; rw [← X2.out] at hy2) | (go_at_call 11; (with_reducible refine (cB2 w2 _ y2 m4 (fun g h => h.elim (fun h => (by omega)) (xb_lt m2 g)) hy2 hyb2).mono ?_); rintro e w3 ⟨v3, zs3, rfl, n1, n2, n3, n4⟩; have hs3 := n3.size; have hl2 := len_fst m1; have hl3 := len_fst n1) | (at_builtin; refine wpList_appX rfl _ _ rfl w1.heap.size v2 v3 zs2 zs3 (m2.bar n3 (by omega)) (n2.weaken hs2) (fun g hg => fun e => by have := (m2.lt g e).2; have := (n2.plt g hg).1; omega) rfl rfl (by omega) (by omega) ?_; intro v4 w4 ho4 hg4 hw4; obtain ⟨s3, s4⟩ := two_parts m2 m3 n2 n3 n4 (by omega) hg4 hw4; have hs4 := s3.size; have h14 := rd_bar h1 hvB s3) | (refine wpList_part rfl 22 .u8 Try.underlying22 Try.sizeOf5 (.tmp 63) (some (.tmp 64)) none rfl p cap xs rfl h14 K xs.length (.inr rfl) (.inl ⟨rfl, rfl⟩) (by omega) (Nat.le_refl _) ?_; intro y3 hy3 hyb3; rw [← X3.out] at hy3) | (go_at_call 11; (with_reducible refine (cB3 w4 _ y3 s4 (fun g h => h.elim (fun h => (by omega)) (xb_lt ho4 g)) hy3 hyb3).mono ?_); rintro e w5 ⟨v5, zs5, rfl, t1, t2, t3, t4⟩; have hs5 := t3.size; have hl5 := len_fst t1; have hl4 : (zs2 ++ zs3).length = Q1.2.length + Q2.2.length := (by rw [List.length_append, hl2, hl3])) | (at_builtin; refine wpList_appX rfl _ _ rfl w1.heap.size v4 v5 (zs2 ++ zs3) zs5 (ho4.bar t3 (by omega)) (t2.weaken hs4) (fun g hg => fun e => by have := (ho4.lt g e).2; have := (t2.plt g hg).1; omega) rfl rfl (by omega) (by omega) ?_; intro v6 w6 ho6 hg6 hw6; obtain ⟨s5, s6⟩ := two_parts ho4 s3 t2 t3 t4 (by omega) hg6 hw6; have hs6 := s5.size; have hA6 := hA1.other s5 (by omega) (.inl (.inl rfl)); have k6 := k2.bar s5 (by omega); have hB6 := HQ.out ▸ s6; have rA : RdA w6 (.slice qa zs.length ca) P.2 := k1 ▸ k6.rd; have rB : RdA w6 v6 P.2 := (by have := ho6.rd; rw [List.map_append, List.map_append, m1, n1, t1, HL.out] at this; exact this)) | (go_at_call 12; (with_reducible refine (rsame_any _ _ P.2 w6 rA rB).mono ?_); rintro e w7 ⟨rfl, hb7⟩; have hA7 := hA6.past hb7; have hB7 := hB6.past hb7; have sA := state_any _ _ _ w7 hA7; have sB := state_any _ _ _ w7 hB7; have tA := text_any2 _ _ _ w7 hA7; have tB := text_any2 _ _ _ w7 hB7; have gA := ground_is _ _ _ w7 hA7) | (go_at_call 15; (with_reducible refine sA.mono ?_); rintro e wq ⟨rfl, rfl⟩) | (go_at_call 15; (with_reducible refine sB.mono ?_); rintro e wq ⟨rfl, rfl⟩) | (go_at_call 16; (with_reducible refine tA.mono ?_); rintro e wq ⟨rfl, rfl⟩) | (go_at_call 16; (with_reducible refine tB.mono ?_); rintro e wq ⟨rfl, rfl⟩) | (go_at_call 17; (with_reducible refine gA.mono ?_); rintro e w8 ⟨rfl, hb8⟩; have gB := ground_is _ _ _ w8 (hB7.past hb8)) | (go_at_call 17; (with_reducible refine gB.mono ?_); rintro e w9 ⟨rfl, hb9⟩))
  have b69 := bl_trans (bl_trans hb7 hb8) hb9
  have bel9 : Below w.heap.size w w9 := bl_trans (Bar.to_below (Bar.to_below hb20 k3 hXs) s5 (by omega)) b69
  have hA9 : PV w9 W0.heap.size (fun g => w1.heap.size ≤ g) P.1 := (hA6.past b69).mono (fun g h => .inr h)
  have hy9 : Rd w9 .u8 (.slice p3 ys.length cap3) ys := (rd_bar h1y hyB s5).below b69
  have hs9 : w1.heap.size ≤ w9.heap.size := Nat.le_trans s5.size b69.size
  have hxr := (k6.kept b69).rdx
  have hpar : ∀ x ∈ zs, limA x.1 ∧ ∃ q c, x.2 = .slice q x.1.l.length c := fun x hx => ⟨hla x.1 (k1 ▸ List.mem_map_of_mem hx), Rd.lits (k6.par x hx).1.rd⟩
  have hA2 : W0.heap.size < W2.heap.size := by omega
  clear cA cB1 cB2 cB3 HQ HL hB0 hB1 hA1 k2 k3 k4 m2 m3 m4 n2 n3 n4 ho4 hg4 hw4 s3 s4 t2 t3 t4 ho6 hg6 hw6 s5 s6 hA6 k6 hB6 rA rB hA7 hB7 sA sB tA tB gA gB h12 h14 hy1 hy2 hy3 h2y h1y hla k1 h1 h2 b69 hb7 hb8 hb9
  obtain ⟨qa2, ca2, hqe, l1, mm1, d1⟩ := hxr
  injection hqe with e1 e2 e3
  subst e1 e3
  unfold maxLen at mm1
  go_wp2_with fail
  go_loopw [89] (fun i wr => ∃ j : Nat, j ≤ zs.length ∧ i = .int .i64 j ∧ Below w9.heap.size w9 wr) (fun i _ => zs.length - (intOf i).toNat)
  case atStart => exact ⟨0, by omega, rfl, Below.refl _ _⟩
  case round =>
    obtain ⟨j, hj, rfl, hbel⟩ := hrel
    by_cases hlt : j < zs.length
    · obtain ⟨b1, o1, rfl, q1, e1⟩ := RdX.at d1 l1 hlt
      have f1 := e1.below hbel q1
      obtain ⟨hlim, qx, cx, hx2⟩ := hpar _ (List.getElem_mem hlt)
      generalize zs[j] = x at *
      obtain ⟨a, u⟩ := x
      obtain ⟨f10, f11, f12, f13, f14, f15⟩ := f1.cells
      simp only at f10 f11 f12 f13 f14 f15 hx2 hlim
      subst hx2
      obtain ⟨hi1, hi2, hi3⟩ := hlim
      have hi4 : (strOfNums a.i).size ≤ 2 := by rw [strOf_size]; exact hi1
      have hi5 : (strOfNums a.t).size ≤ 1024 := by rw [strOf_size]; exact hi3
      have z1 : (0 : Int) ≤ (j : Int) := by omega
      have z2 : (j : Int) < (zs.length : Int) := by omega
      have y1 : b1 < wr.heap.size := Nat.lt_of_lt_of_le q1 hbel.size
      clear d1 e1 f1 hpar hi1 hi3
      go_wp2_with fail
      go_roundw
      case rel => first | exact ⟨j + 1, by omega, by go_num, (by repeat (first | with_reducible exact Below.refl _ _ | with_reducible assumption | with_reducible exact GW.grow _ | with_reducible refine bl_alloc ?_ _ | with_reducible refine Below.drew ?_ | (with_reducible refine Below.setCell ?_ ?_ _; rotate_left; focus (simp; first | done | omega)) | with_reducible refine bl_trans ?_ (GW.grow _) | (with_reducible refine bl_trans ?_ (by assumption))))⟩ | ((repeat apply Exists.intro); exact ⟨⟨j + 1, by omega, by go_num, (by repeat (first | with_reducible exact Below.refl _ _ | with_reducible assumption | with_reducible exact GW.grow _ | with_reducible refine bl_alloc ?_ _ | with_reducible refine Below.drew ?_ | (with_reducible refine Below.setCell ?_ ?_ _; rotate_left; focus (simp; first | done | omega)) | with_reducible refine bl_trans ?_ (GW.grow _) | (with_reducible refine bl_trans ?_ (by assumption))))⟩, rfl⟩)
      case measure => simp [intOf]; omega
    · obtain rfl : j = zs.length := by omega
      clear d1 hpar l1
      go_upto_region 18 with fail
      refine wp_name (fun Z => Below w9.heap.size w9 Z) hbel ?_
      rintro W10 hW10
      have hs10 := hW10.size
      have hC0 : PV ((W10.alloc (.cells #[.slice none 0 0, .int .i64 0, .int .u8 0, .int .u8 0, .int .i64 0, .int .i32 0, .string ⟨#[]⟩, .int .i64 0, .int .i64 0, .int .i64 0, .int .i64 0, .int .i64 0, .int .i64 0, .int .i64 0, .int .i64 0, .int .i64 0, .int .i64 0, .int .i64 0, .int .i64 0, .int .i64 0, .int .i64 0, .int .i64 0, .int .i64 0, .int .i64 0, .bool false, .slice none 0 0] 31)).alloc (.cells #[.int .i32 24, .int .i32 27, .int .i32 91] 21)) W10.heap.size (fun g => g = W0.heap.size) ps0 := (PV.zero _ (Box.new W10 #[.slice none 0 0, .int .i64 0, .int .u8 0, .int .u8 0, .int .i64 0, .int .i32 0, .string ⟨#[]⟩, .int .i64 0, .int .i64 0, .int .i64 0, .int .i64 0, .int .i64 0, .int .i64 0, .int .i64 0, .int .i64 0, .int .i64 0, .int .i64 0, .int .i64 0, .int .i64 0, .int .i64 0, .int .i64 0, .int .i64 0, .int .i64 0, .int .i64 0, .bool false, .slice none 0 0] 31 rfl)).past (bl_alloc (Below.refl _ _) _)
      have g12 : Below W10.heap.size W10 ((W10.alloc (.cells #[.slice none 0 0, .int .i64 0, .int .u8 0, .int .u8 0, .int .i64 0, .int .i32 0, .string ⟨#[]⟩, .int .i64 0, .int .i64 0, .int .i64 0, .int .i64 0, .int .i64 0, .int .i64 0, .int .i64 0, .int .i64 0, .int .i64 0, .int .i64 0, .int .i64 0, .int .i64 0, .int .i64 0, .int .i64 0, .int .i64 0, .int .i64 0, .int .i64 0, .bool false, .slice none 0 0] 31)).alloc (.cells #[.int .i32 24, .int .i32 27, .int .i32 91] 21)) := bl_alloc (bl_alloc (Below.refl _ _) _) _
      have hA12 : PV ((W10.alloc (.cells #[.slice none 0 0, .int .i64 0, .int .u8 0, .int .u8 0, .int .i64 0, .int .i32 0, .string ⟨#[]⟩, .int .i64 0, .int .i64 0, .int .i64 0, .int .i64 0, .int .i64 0, .int .i64 0, .int .i64 0, .int .i64 0, .int .i64 0, .int .i64 0, .int .i64 0, .int .i64 0, .int .i64 0, .int .i64 0, .int .i64 0, .int .i64 0, .int .i64 0, .bool false, .slice none 0 0] 31)).alloc (.cells #[.int .i32 24, .int .i32 27, .int .i32 91] 21)) W0.heap.size (fun g => g = W10.heap.size) P.1 := ((hA9.past hW10).past g12).mono (fun g e => by omega)
      have xR := Box.new (W10.alloc (.cells #[.slice none 0 0, .int .i64 0, .int .u8 0, .int .u8 0, .int .i64 0, .int .i32 0, .string ⟨#[]⟩, .int .i64 0, .int .i64 0, .int .i64 0, .int .i64 0, .int .i64 0, .int .i64 0, .int .i64 0, .int .i64 0, .int .i64 0, .int .i64 0, .int .i64 0, .int .i64 0, .int .i64 0, .int .i64 0, .int .i64 0, .int .i64 0, .int .i64 0, .bool false, .slice none 0 0] 31)) #[.int .i32 24, .int .i32 27, .int .i32 91] 21 (b := W10.heap.size + 1) (by simp)
      have hz12 : ((W10.alloc (.cells #[.slice none 0 0, .int .i64 0, .int .u8 0, .int .u8 0, .int .i64 0, .int .i32 0, .string ⟨#[]⟩, .int .i64 0, .int .i64 0, .int .i64 0, .int .i64 0, .int .i64 0, .int .i64 0, .int .i64 0, .int .i64 0, .int .i64 0, .int .i64 0, .int .i64 0, .int .i64 0, .int .i64 0, .int .i64 0, .int .i64 0, .int .i64 0, .int .i64 0, .bool false, .slice none 0 0] 31)).alloc (.cells #[.int .i32 24, .int .i32 27, .int .i32 91] 21)).heap.size = W10.heap.size + 2 := by simp
      have bel12 : Below w.heap.size w ((W10.alloc (.cells #[.slice none 0 0, .int .i64 0, .int .u8 0, .int .u8 0, .int .i64 0, .int .i32 0, .string ⟨#[]⟩, .int .i64 0, .int .i64 0, .int .i64 0, .int .i64 0, .int .i64 0, .int .i64 0, .int .i64 0, .int .i64 0, .int .i64 0, .int .i64 0, .int .i64 0, .int .i64 0, .int .i64 0, .int .i64 0, .int .i64 0, .int .i64 0, .int .i64 0, .bool false, .slice none 0 0] 31)).alloc (.cells #[.int .i32 24, .int .i32 27, .int .i32 91] 21)) := bl_trans (bl_trans bel9 hW10) g12
      have hy12 := (hy9.below hW10).below g12
      have hcell : ∀ j : Nat, (h : j < 3) → ((W10.alloc (.cells #[.slice none 0 0, .int .i64 0, .int .u8 0, .int .u8 0, .int .i64 0, .int .i32 0, .string ⟨#[]⟩, .int .i64 0, .int .i64 0, .int .i64 0, .int .i64 0, .int .i64 0, .int .i64 0, .int .i64 0, .int .i64 0, .int .i64 0, .int .i64 0, .int .i64 0, .int .i64 0, .int .i64 0, .int .i64 0, .int .i64 0, .int .i64 0, .int .i64 0, .bool false, .slice none 0 0] 31)).alloc (.cells #[.int .i32 24, .int .i32 27, .int .i32 91] 21)).cell? ⟨W10.heap.size + 1, j, none⟩ = some (.int .i32 ([24, 27, 91] : List Int)[j]) := fun j h => by
        rw [xR.cell]
        obtain rfl | rfl | rfl : j = 0 ∨ j = 1 ∨ j = 2 := by omega
        all_goals rfl
      clear hA9 hy9 xR hbel
      generalize hW12 : ((W10.alloc (.cells #[.slice none 0 0, .int .i64 0, .int .u8 0, .int .u8 0, .int .i64 0, .int .i32 0, .string ⟨#[]⟩, .int .i64 0, .int .i64 0, .int .i64 0, .int .i64 0, .int .i64 0, .int .i64 0, .int .i64 0, .int .i64 0, .int .i64 0, .int .i64 0, .int .i64 0, .int .i64 0, .int .i64 0, .int .i64 0, .int .i64 0, .int .i64 0, .int .i64 0, .bool false, .slice none 0 0] 31)).alloc (.cells #[.int .i32 24, .int .i32 27, .int .i32 91] 21)) = W12 at *
      go_upto_region 20 with fail
      try rw [hW12]
      clear hW12
      go_loopw [112] (fun i wr => ∃ j : Nat, j ≤ 3 ∧ i = .int .i64 j ∧ OutX (fun g => g = W0.heap.size ∨ g = W10.heap.size) W12 wr ∧ PV wr W0.heap.size (fun g => g = W10.heap.size) (psRun P.1 (([24, 27, 91] : List Int).take j)).1 ∧ PV wr W10.heap.size (fun g => g = W0.heap.size) (psRun ps0 (([24, 27, 91] : List Int).take j)).1) (fun i _ => 3 - (intOf i).toNat)
      case atStart => exact ⟨0, by omega, rfl, OutX.refl _ _, hA12, hC0⟩
      case round =>
        obtain ⟨j, hj, rfl, hout, hpA, hpC⟩ := hrel
        have hos := hout.size
        by_cases hlt2 : j < 3
        · have hc := (hout.cell j (b := W10.heap.size + 1) (by omega) (fun e => by rcases e with e | e <;> omega)).trans (hcell j hlt2)
          have hsA := psRun_snoc P.1 (([24, 27, 91] : List Int).take j) ([24, 27, 91] : List Int)[j]
          have hsC := psRun_snoc ps0 (([24, 27, 91] : List Int).take j) ([24, 27, 91] : List Int)[j]
          rw [← List.take_succ_eq_append_getElem (l := ([24, 27, 91] : List Int)) hlt2] at hsA hsC
          generalize ([24, 27, 91] : List Int)[j] = r at *
          have HSA := Lib.hid hsA
          have HSC := Lib.hid hsC
          clear hsA hsC hcell hA12 hC0
          have cA := pstep_any W0.heap.size _ _ r wr hpA (fun g e => by omega)
          have z1 : (0 : Int) ≤ (j : Int) := by omega
          have z2 : (j : Int) < 3 := by omega
          generalize psRun P.1 (([24, 27, 91] : List Int).take j) = RA at *
          generalize psRun ps0 (([24, 27, 91] : List Int).take j) = RC at *
          go_wp2_with (first | (go_at_call 18; (with_reducible refine cA.mono ?_); rintro e w2 ⟨v2, zs2, rfl, m1, m2, m3, m4⟩; have hpC2 := hpC.other m3 (by omega) rfl; have hs2 := m3.size; have cC := pstep_any W10.heap.size _ _ r w2 hpC2 (fun g e => by omega)) | (go_at_call 18; (with_reducible refine cC.mono ?_); rintro e w3 ⟨v3, zs3, rfl, n1, n2, n3, n4⟩))
          go_roundw
          case rel =>
            have r1 := (hout.bar m3 (.inl rfl)).bar n3 (.inr rfl)
            have r2 : PV w3 W0.heap.size (fun g => g = W10.heap.size) (psRun P.1 (([24, 27, 91] : List Int).take (j + 1))).1 := by rw [HSA.out]; exact (m4.mono (fun g h => .inl h)).other n3 (by omega) rfl
            have r3 : PV w3 W10.heap.size (fun g => g = W0.heap.size) (psRun ps0 (([24, 27, 91] : List Int).take (j + 1))).1 := by rw [HSC.out]; exact n4.mono (fun g h => .inl h)
            first | exact ⟨j + 1, by omega, by go_num, r1, r2, r3⟩ | ((repeat apply Exists.intro); exact ⟨⟨j + 1, by omega, by go_num, r1, r2, r3⟩, rfl⟩)
          case measure => simp [intOf]; omega
        · obtain rfl : j = 3 := by omega
          rw [show ([24, 27, 91] : List Int).take 3 = [24, 27, 91] from rfl, three] at hpA hpC
          have sA : Calls Try.prog 15 #[.pointer (some ⟨W0.heap.size, 0, none⟩)] wr fun e w' => e = .returned (.int .i64 3) ∧ wr = w' := state_any W0.heap.size _ _ wr hpA
          have tA : Calls Try.prog 16 #[.pointer (some ⟨W0.heap.size, 0, none⟩)] wr fun e w' => e = .returned (.string ⟨#[]⟩) ∧ wr = w' := text_any2 W0.heap.size _ _ wr hpA
          have hy13 := hout.own hy12 (fun g e => by have := hyin g e; omega)
          clear hcell hA12 hC0
          go_upto_region 27 with (first | (go_at_call 15; (with_reducible refine sA.mono ?_); rintro e wq ⟨rfl, rfl⟩) | (go_at_call 16; (with_reducible refine tA.mono ?_); rintro e wq ⟨rfl, rfl⟩))
          refine wp_name (fun Z => OutX (fun g => g = W0.heap.size ∨ g = W10.heap.size) W12 Z ∧ PV Z W0.heap.size (fun g => g = W10.heap.size) ((ent ps0 3).feed P.1.bs) ∧ PV Z W10.heap.size (fun g => g = W0.heap.size) (ent ps0 3) ∧ Rd Z .u8 (.slice p3 ys.length cap3) ys) ⟨hout, hpA, hpC, hy13⟩ ?_
          clear sA tA hpA hpC hy13 hout
          rintro W13 ⟨hout, hpA0, hpC0, hy13⟩
          obtain ⟨pq, cq, hye, ly, my, dy⟩ := hy13
          injection hye with e1 e2 e3
          subst e1 e3
          unfold maxLen at my
          go_wp2_with fail
          go_loopw [130] (fun i wr => ∃ j : Nat, j ≤ ys.length ∧ i = .int .i64 j ∧ OutX (fun g => g = W0.heap.size ∨ g = W10.heap.size) W13 wr ∧ ∃ F : Ps, PV wr W0.heap.size (fun g => g = W10.heap.size) (F.feed P.1.bs) ∧ PV wr W10.heap.size (fun g => g = W0.heap.size) F) (fun i _ => ys.length - (intOf i).toNat)
          case atStart => exact ⟨0, by omega, rfl, OutX.refl _ _, ent ps0 3, hpA0, hpC0⟩
          case round =>
            obtain ⟨j, hj, rfl, hout2, F, hpA, hpC⟩ := hrel
            have hos2 := hout2.size
            have hos1 := hout.size
            by_cases hlt3 : j < ys.length
            · obtain ⟨b1, o1, rfl, q1, d1⟩ := Rd.at dy ly hlt3
              have hbl := hyin b1 rfl
              have d3 := (hout2.cell (o1 + j) q1 (fun e => by rcases e with e | e <;> omega)).trans d1
              have q2 := Nat.lt_of_lt_of_le q1 hos2
              obtain ⟨c0, c1⟩ := hby _ (List.getElem_mem hlt3)
              generalize ys[j] = c at *
              have z1 : (0 : Int) ≤ (j : Int) := by omega
              have z2 : (j : Int) < (ys.length : Int) := by omega
              clear dy d1
              by_cases hc : 128 ≤ c
              · go_wp2_with fail
                go_roundw
                case rel => first | exact ⟨j + 1, by omega, by go_num, hout2, F, hpA, hpC⟩ | ((repeat apply Exists.intro); exact ⟨⟨j + 1, by omega, by go_num, hout2, F, hpA, hpC⟩, rfl⟩)
                case measure => simp [intOf]; omega
              · have cA := pstep_any W0.heap.size _ (F.feed P.1.bs) c wr hpA (fun g e => by omega)
                rw [step_feed] at cA
                have cC := fun W h => pstep_any W10.heap.size (fun g => g = W0.heap.size) F c W h
                generalize psStep F c = F2 at *
                go_wp2_with (first | (go_at_call 18; (with_reducible refine cA.mono ?_); rintro e w2 ⟨v2, zs2, rfl, m1, m2, m3, m4⟩; have hs2 := m3.size; have cC2 := cC w2 (hpC.other m3 (by omega) rfl) (fun g e => by omega)) | (go_at_call 18; (with_reducible refine cC2.mono ?_); rintro e w3 ⟨v3, zs3, rfl, n1, n2, n3, n4⟩; have rA : RdA w3 v2 F2.2 := m1 ▸ (m2.bar n3 (by omega)).rd; have rB : RdA w3 v3 F2.2 := n1 ▸ n2.rd; have hpA3 := (m4.mono (fun g h => .inl h)).other n3 (by omega) rfl; have hpC3 := n4.mono (fun g h => .inl h)) | (go_at_call 12; (with_reducible refine (rsame_any _ _ F2.2 w3 rA rB).mono ?_); rintro e w4 ⟨rfl, hb4⟩; have hpA4 := hpA3.past hb4; have hpC4 := hpC3.past hb4; have sA : Calls Try.prog 15 #[.pointer (some ⟨W0.heap.size, 0, none⟩)] w4 fun e w' => e = .returned (.int .i64 F2.1.st) ∧ w4 = w' := (state_any W0.heap.size _ (F2.1.feed P.1.bs) w4 hpA4); have sC := state_any W10.heap.size _ _ w4 hpC4) | (go_at_call 15; (with_reducible refine sA.mono ?_); rintro e wq ⟨rfl, rfl⟩) | (go_at_call 15; (with_reducible refine sC.mono ?_); rintro e wq ⟨rfl, rfl⟩))
                go_roundw
                case rel =>
                  have r1 := ((hout2.bar m3 (.inl rfl)).bar n3 (.inr rfl)).past hb4
                  first | exact ⟨j + 1, by omega, by go_num, r1, F2.1, hpA4, hpC4⟩ | ((repeat apply Exists.intro); exact ⟨⟨j + 1, by omega, by go_num, r1, F2.1, hpA4, hpC4⟩, rfl⟩)
                case measure => simp [intOf]; omega
            · clear dy
              go_wp2_with (go_at_call 9; (with_reducible refine (known_any _).mono ?_); rintro e w99 ⟨rfl, hb99⟩)
              go_ret
              exact ⟨rfl, bl_trans (OutX.after (OutX.after bel12 hout (fun g e => by omega)) hout2 (fun g e => by omega)) hb99⟩

set_option maxRecDepth 100000 in
theorem parserHolds_lifted (os : Os) (started : os.Started) (H : Type) (enc : TypeId × Value → H) :
    ReturnsInHanded {} Try.checked os 5 .any (Rows.parserHoldsSpec.pre6 enc Try.prog Try.f5 Rows.parserHoldsRow.domain false) (Rows.parserHoldsSpec.post enc Try.prog Try.f5 false true false false) := by
  refine returnsInHanded_of_change (C := Try.checked) Try.own started (by kernel_rfl) Try.func5
    (ChangeSpec.witness6 (enc := enc) (C := Try.checked) false ⟨#[], #[.slice none 0 0, .int .u8 0, .int .u8 0, .slice none 0 0], []⟩ 8 (by kernel_rfl) (by kernel_rfl) (by kernel_rfl) (by kernel_rfl)) ?_
  intro W base args ds gs before hval0 hW hcnd _
  have hval : ∀ (j : Nat) t v, Try.f5.params[j]? = some t → args[j]? = some v → Value.okWide Try.prog W .any base t v := hval0
  have hW' := hW
  obtain ⟨p, q, hA0, hV, rfl, hfz, hnd⟩ := hW
  have hA : DataW.TrodAll enc Try.prog W 0 (fun _ => true) true Try.f5.params.toList args.toList ds p := hA0
  rw [Try.params5] at hA hval
  obtain ⟨v0, v1, v2, v3, d0, d1, d2, d3, p0, p1, p2, p3, rfl, rfl, rfl, h0, h1, h2, h3⟩ := trodAll_four hA
  obtain ⟨rfl, rfl⟩ := trodVars_none hV
  obtain ⟨xs0, hx0, hw0⟩ := open_rd (k := .u8) Try.underlying22 Try.underlying5 (by kernel_rfl) (hval 0 _ v0 rfl rfl) h0
  obtain ⟨f, rfl, hf⟩ := open_num Try.underlying5 (hval 1 5 v1 rfl rfl) h1
  obtain ⟨s, rfl, hs⟩ := open_num Try.underlying5 (hval 2 5 v2 rfl rfl) h2
  obtain ⟨xs3, hx3, hw3⟩ := open_rd (k := .u8) Try.underlying22 Try.underlying5 (by kernel_rfl) (hval 3 _ v3 rfl rfl) h3
  clear hA0 hval0
  refine (parserHolds_any v0 v3 xs0 xs3 f s W hx0 hx3 (fun n hn => wf_byte (hw0 n hn)) (fun n hn => wf_byte (hw3 n hn)) (wf_byte hf) (wf_byte hs)).mono fun e W' ⟨he, hw⟩ => ?_
  exact ⟨_, he, post_law Try.laidOut rfl hW' (by kernel_rfl) rfl Try.underlying4 rfl hw⟩

theorem parserHolds_holds : Rows.ParserHoldsSaid :=
  OpenClaim.holds_of_wide 5 Try.f5 rfl rfl rfl rfl rfl rfl rfl ⟨rfl, rfl, rfl, rfl, rfl⟩ rfl rfl rfl rfl rfl (by kernel_rfl) Try.func5 (by kernel_rfl)
    (of_decide_eq_true (by kernel_rfl)) (by unfold Func.isWrapper; rw [if_neg (of_decide_eq_false (by kernel_rfl))]; exact ⟨rfl, rfl⟩)
    (fun os started H enc _ => parserHolds_lifted os started H enc)

end Go.Proofs.Ytpkkfcfkhiaggaa
