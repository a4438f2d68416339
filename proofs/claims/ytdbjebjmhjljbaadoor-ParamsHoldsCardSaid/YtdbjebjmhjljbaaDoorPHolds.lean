/- params: ParamsHolds returns true for every input. No condition. -/
import Derived.Test.YtdbjebjmhjljbaaDoorU
import Derived.Test.YtdbjebjmhjljbaaDoorV
import Derived.Test.YtdbjebjmhjljbaaDoorCards
import Derived.Test.YtdbjebjmhjljbaaDoorTie
import Derived.SevenTiedAt
import Derived.ChangeMaps5
import Derived.Outline
import Derived.Deep.LoopGhost
set_option linter.unusedSimpArgs false
set_option linter.unusedVariables false
set_option linter.unnecessarySimpa false
namespace Go.Proofs.YtdbjebjmhjljbaaDoor
open Go.ChangeShapes Go.WideShapes Go.ChangeAt Go.RowKit Go.ChangeMaps

theorem one_ge (l : List Int) (i : Int) : 1 ≤ oneP l i := by
  unfold oneP
  split
  · omega
  · rename_i h
    unfold getP at h ⊢
    split at h
    · rename_i h2; rw [if_pos h2]; omega
    · exact absurd rfl h
/-- A fine string: what Parse makes of it. -/
theorem fine_parse (s : ByteArray) (hf : fineS s = true) : ∃ x, parseL s = x ∧ (bldQ (bytesOf s)).1 = x ∧ validP x = true ∧ (x.length = 0 ↔ s.size = 0) ∧ x.length ≤ 16 := by
  refine ⟨_, rfl, (if_pos hf).symm, ?_⟩
  have e : parseL s = (bldQ (bytesOf s)).1 := if_pos hf
  have h1 := (fineS_iff s).1 hf
  by_cases h0 : s.size = 0
  · have e2 : bytesOf s = [] := List.eq_nil_of_length_eq_zero (by rw [bytesOf_len]; exact h0)
    rw [e, e2]
    exact ⟨by decide, by constructor <;> intro _ <;> first | exact h0 | rfl, by decide⟩
  · have hne : bytesOf s ≠ [] := fun e => h0 (by rw [← bytesOf_len, e]; rfl)
    have hv : validP (parseL s) = true := by rw [e, bld_ref _ h1 hne]; exact refL_valid _ h1 hne
    refine ⟨hv, ⟨fun h => ?_, fun h => absurd h h0⟩, (ok_of_valid hv).2⟩
    exfalso
    rw [e] at h
    exact bldQ_ne _ hne (List.eq_nil_of_length_eq_zero h)
theorem isEmpty_size (s : ByteArray) : s.toList.isEmpty = decide (s.size = 0) := by
  rw [ByteArray.toList_eq]
  cases hz : s.data.toList with
  | nil => have : s.size = 0 := Array.length_toList.symm.trans (congrArg List.length hz); rw [this]; rfl
  | cons a l => have : s.size = l.length + 1 := Array.length_toList.symm.trans (congrArg List.length hz); rw [this]; rfl

set_option maxHeartbeats 4000000 in
set_option maxRecDepth 100000 in
theorem ph_v_no (v : Value) (l : List Int) (s : ByteArray) (i : Int) (w : World) (h : Rd w .i64 v l) (ht : Tab w) (hl : l.length ≤ 40) (hs : s.size ≤ 200) (hv : validP l = true) (hf : fineS s = false) : Calls Tryd.prog 6 #[v, .string s, .int .i64 i] w fun e w' => e = .returned (.bool true) ∧ Below w.heap.size w w' := by
  have h0 := h
  obtain ⟨p, cap, rfl, l1, m1, _⟩ := h0
  unfold maxLen at m1
  have cT := text_any _ l w h hv ht
  have cV := fun w' (hb : Below w.heap.size w w') => valid_any _ l w' (h.below hb)
  rw [hv] at cV
  obtain ⟨q1, q2, q3⟩ := parse_text l hv
  generalize (⟨(textB l).toArray⟩ : ByteArray) = tb at *
  have cO := fun w' (hb : Below w.heap.size w w') => one_any _ l i w' (h.below hb)
  have ho := one_ge l i
  generalize oneP l i = o at *
  have hfn : ¬ ∀ c ∈ bytesOf s, fineR c = true := fun h' => by rw [(fineS_iff s).2 h'] at hf; cases hf
  have HFN := Lib.hid hfn
  clear hfn
  go_enter Tryd.func6, Tryd.ntmps6
  go_wp2_with (first | (go_at_call 22; (with_reducible refine cT.mono ?_); rintro e w1 ⟨rfl, hb1⟩) | (go_at_call 10; (with_reducible refine (cV _ hb1).mono ?_); rintro e w2 ⟨rfl, hb2⟩; have hbA := bl_trans hb1 hb2) | (go_at_call 17; (with_reducible refine (parses_t tb 0 _ l _ q3 (h.below hbA) q1 q2).mono ?_); rintro e w3 ⟨rfl, hb3⟩; have hbB := bl_trans hbA hb3) | (go_at_call 14; (with_reducible refine (cO _ hbB).mono ?_); rintro e w' ⟨rfl, rfl⟩) | (go_at_call 23; (with_reducible refine (parse_no s _ (by omega) HFN.out).mono ?_); rintro e w4 ⟨rfl, hb4⟩; have hbC := bl_trans hbB hb4) | (go_at_call 9; (with_reducible refine (known_any _ (ht.below hbC)).mono ?_); rintro e wk ⟨rfl, hbk⟩))
  go_ret
  exact ⟨rfl, bl_trans hbC hbk⟩
set_option maxHeartbeats 4000000 in
set_option maxRecDepth 100000 in
theorem ph_v_empty (v : Value) (l : List Int) (s : ByteArray) (i : Int) (w : World) (h : Rd w .i64 v l) (ht : Tab w) (hl : l.length ≤ 40) (hs : s.size ≤ 200) (hv : validP l = true) (hf : fineS s = true) (hz :  s.size = 0) : Calls Tryd.prog 6 #[v, .string s, .int .i64 i] w fun e w' => e = .returned (.bool true) ∧ Below w.heap.size w w' := by
  have h0 := h
  obtain ⟨p, cap, rfl, l1, m1, _⟩ := h0
  unfold maxLen at m1
  have cT := text_any _ l w h hv ht
  have cV := fun w' (hb : Below w.heap.size w w') => valid_any _ l w' (h.below hb)
  rw [hv] at cV
  obtain ⟨q1, q2, q3⟩ := parse_text l hv
  generalize (⟨(textB l).toArray⟩ : ByteArray) = tb at *
  have cO := fun w' (hb : Below w.heap.size w w') => one_any _ l i w' (h.below hb)
  have ho := one_ge l i
  generalize oneP l i = o at *
  obtain ⟨x, x1, x2, x3, x4, x5⟩ := fine_parse s hf
  have HD := Lib.hid ((fineS_iff s).1 hf)
  have cP := fun w' => parse_u s w' (by omega)
  rw [x1, show parseE s = 0 from if_pos hf] at cP
  have z : s.toList.isEmpty = true := by rw [isEmpty_size]; exact decide_eq_true hz
  have hxl :  x.length = 0 := x4.2 hz
  have hx16 : ¬ (16 : Int) < (x.length : Int) := by omega
  have HXL := Lib.hid hxl
  clear hxl hx16
  obtain ⟨t1, t2, t3⟩ := parse_text x x3
  have cX := fun u w' (hu : Rd w' .i64 u x) (hb : Below w.heap.size w w') => text_any u x w' hu x3 (ht.below hb)
  have cY := fun u w' (hu : Rd w' .i64 u x) => valid_any u x w' hu
  rw [x3] at cY
  generalize (⟨(textB x).toArray⟩ : ByteArray) = tx at *
  have X2 := Lib.hid x2
  clear x1 x2 x3 x4
  go_enter Tryd.func6, Tryd.ntmps6
  go_wp2_with (first | (go_at_call 22; (with_reducible refine cT.mono ?_); rintro e w1 ⟨rfl, hb1⟩) | (go_at_call 10; (with_reducible refine (cV _ hb1).mono ?_); rintro e w2 ⟨rfl, hb2⟩; have hbA := bl_trans hb1 hb2) | (go_at_call 17; (with_reducible refine (parses_t tb 0 _ l _ q3 (h.below hbA) q1 q2).mono ?_); rintro e w3 ⟨rfl, hb3⟩; have hbB := bl_trans hbA hb3) | (go_at_call 14; (with_reducible refine (cO _ hbB).mono ?_); rintro e w' ⟨rfl, rfl⟩) | (go_at_call 23; (with_reducible refine (cP _).mono ?_); rintro e w4 ⟨u, rfl, hu, hb4⟩; have hbC := bl_trans hbB hb4; obtain ⟨p1, n1, c1, hu1⟩ := hu.rd.shape; subst hu1; have hun := hu.len; obtain ⟨hu1, hu2, hu3⟩ := hun; have hu0 : n1 = 0 := hu1.trans HXL.out; subst hu0; clear hu1 hu2; have hu4 := hu.rd; clear hu) | (go_at_call 22; (with_reducible refine (cX _ _ hu4 hbC).mono ?_); rintro e w5 ⟨rfl, hb5⟩; have hbD := bl_trans hbC hb5; have hu5 := hu4.below hb5; clear hu4) | (go_at_call 10; (with_reducible refine (cY _ _ hu5).mono ?_); rintro e w6 ⟨rfl, hb6⟩; have hbE := bl_trans hbD hb6; have hu6 := hu5.below hb6; clear hu5) | (go_at_call 17; (with_reducible refine (parses_t tx 0 _ x _ t3 hu6 t1 t2).mono ?_); rintro e w7 ⟨rfl, hb7⟩; have hbF := bl_trans hbE hb7; have hu7 := hu6.below hb7; clear hu6))
  go_loopg [15] s.size (fun gf s6 wx => ∃ (pos : Nat), pos ≤ s.size ∧ s.size ≤ pos + gf ∧ wx.heap[w7.heap.size + 1]? = some (.stringIter s pos) ∧ BldV wx w7.heap.size 38 [] [] (bldQ ((bytesOf s).take pos)).1 (bldQ ((bytesOf s).take pos)).2 ∧ Below w7.heap.size w7 wx)
  case atStart =>
    exact ⟨0, Nat.zero_le _, by omega, by first | exact World.iter_heap (w7.alloc _) s 0 | (have := World.iter_heap (w7.alloc (.cells #[.int .i64 0, .int .i64 0, .int .i64 0, .int .i64 0, .int .i64 0, .int .i64 0, .int .i64 0, .int .i64 0, .int .i64 0, .int .i64 0, .int .i64 0, .int .i64 0, .int .i64 0, .int .i64 0, .int .i64 0, .int .i64 0, .int .i64 0, .bool false] 38)) s 0; rw [show (w7.alloc (.cells #[.int .i64 0, .int .i64 0, .int .i64 0, .int .i64 0, .int .i64 0, .int .i64 0, .int .i64 0, .int .i64 0, .int .i64 0, .int .i64 0, .int .i64 0, .int .i64 0, .int .i64 0, .int .i64 0, .int .i64 0, .int .i64 0, .int .i64 0, .bool false] 38)).heap.size = w7.heap.size + 1 by simp] at this; exact this), ⟨List.replicate 16 0, rfl, Nat.zero_le _, rfl, (Box.new w7 _ _ rfl).alloc _⟩, ((Below.refl _ w7).alloc (Nat.le_refl _) _).alloc (by simp) _⟩
  case round =>
    obtain ⟨pos, hp1, hp2, hit, hbv, hbw⟩ := hrel
    by_cases hlt : pos < s.size
    · obtain ⟨g', rfl⟩ : ∃ g', gk = g' + 1 := ⟨gk - 1, by omega⟩
      have hf : fineR (s[pos].toNat : Int) = true := HD.out _ (by
        have e := bytesOf_take_succ s pos hlt
        exact List.mem_of_mem_take (i := pos + 1) (by rw [e]; simp))
      have h128 : s[pos].toNat < 128 := by simp [fineR] at hf; omega
      have hnx : ∀ ty, (Instr.next (.pointer (some ⟨w7.heap.size + 1, 0, none⟩)) true ty).run Tryd.prog wr = _ := fun ty => Lib.run_next_ascii_at wr (w7.heap.size + 1) s pos ty hit hlt h128
      have hit2 := Lib.iterAt_heap wr (w7.heap.size + 1) s pos (pos + 1) hit
      have hbw2 := Lib.below_iterAt hbw (k := w7.heap.size + 1) (by omega) s (pos + 1)
      have hbv2 := hbv.iterAt (k := w7.heap.size + 1) (by omega) s (pos + 1)
      have HQ : Hid (bldQ ((bytesOf s).take (pos + 1)) = bldS (bldQ ((bytesOf s).take pos)) (s[pos].toNat : Int)) := by unfold Hid; rw [bytesOf_take_succ s pos hlt, bldQ_snoc]
      have hok := bldQ_ok ((bytesOf s).take pos) (fun c hc => HD.out c (List.mem_of_mem_take hc))
      obtain ⟨W, hWd⟩ : ∃ W, wr.iterAt (w7.heap.size + 1) s (pos + 1) = W := ⟨_, rfl⟩
      rw [hWd] at hnx hit2 hbw2 hbv2
      have cA := add_any w7.heap.size 38 [] [] _ _ _ W hbv2 hf hok
      clear hbv hit hbw hbv2 hok hf
      go_wp2_with (go_at_call 20; refine cA.mono ?_; rintro e W' ⟨rfl, hB, hV⟩)
      go_roundg g'
      case measure => omega
      case rel => exact ⟨pos + 1, by omega, by omega, (hB.block _ (by omega) (Array.getElem?_eq_some_iff.1 hit2).1).trans hit2, by rw [HQ.out]; exact hV, Bar.to_below hbw2 hB (Nat.le_refl _)⟩
    · have hnx : ∀ ty, (Instr.next (.pointer (some ⟨w7.heap.size + 1, 0, none⟩)) true ty).run Tryd.prog wr = _ := fun ty => Lib.run_next_end_at wr (w7.heap.size + 1) s pos ty hit hlt
      have ep : (bytesOf s).take pos = bytesOf s := List.take_of_length_le (by rw [bytesOf_len]; omega)
      rw [ep] at hbv
      clear hit ep
      have cH := fun W (hb : Below w7.heap.size w7 W) (hd : BldV W w7.heap.size 38 [] [] (bldQ (bytesOf s)).1 (bldQ (bytesOf s)).2) => has_t w7.heap.size 38 _ _ _ x W hd (hu7.below hb) X2.out
      go_wp2_with (first | (go_at_call 21; (with_reducible refine (cH _ hbw hbv).mono ?_); rintro e w8 ⟨rfl, hb8⟩; have hbG := bl_trans (bl_trans hbF hbw) hb8) | (go_at_call 9; (with_reducible refine (known_any _ (ht.below hbG)).mono ?_); rintro e wk ⟨rfl, hbk⟩))
      go_ret
      exact ⟨rfl, bl_trans hbG hbk⟩
set_option maxHeartbeats 4000000 in
set_option maxRecDepth 100000 in
theorem ph_v_some (v : Value) (l : List Int) (s : ByteArray) (i : Int) (w : World) (h : Rd w .i64 v l) (ht : Tab w) (hl : l.length ≤ 40) (hs : s.size ≤ 200) (hv : validP l = true) (hf : fineS s = true) (hz : ¬ s.size = 0) : Calls Tryd.prog 6 #[v, .string s, .int .i64 i] w fun e w' => e = .returned (.bool true) ∧ Below w.heap.size w w' := by
  have h0 := h
  obtain ⟨p, cap, rfl, l1, m1, _⟩ := h0
  unfold maxLen at m1
  have cT := text_any _ l w h hv ht
  have cV := fun w' (hb : Below w.heap.size w w') => valid_any _ l w' (h.below hb)
  rw [hv] at cV
  obtain ⟨q1, q2, q3⟩ := parse_text l hv
  generalize (⟨(textB l).toArray⟩ : ByteArray) = tb at *
  have cO := fun w' (hb : Below w.heap.size w w') => one_any _ l i w' (h.below hb)
  have ho := one_ge l i
  generalize oneP l i = o at *
  obtain ⟨x, x1, x2, x3, x4, x5⟩ := fine_parse s hf
  have HD := Lib.hid ((fineS_iff s).1 hf)
  have cP := fun w' => parse_u s w' (by omega)
  rw [x1, show parseE s = 0 from if_pos hf] at cP
  have z : s.toList.isEmpty = false := by rw [isEmpty_size]; exact decide_eq_false hz
  have hxl : ¬ x.length = 0 := fun e => hz (x4.1 e)
  have hx16 : ¬ (16 : Int) < (x.length : Int) := by omega
  have hxi : ¬ (x.length : Int) = 0 := by omega
  have hxd : ((x.length : Int) == 0) = false := by rw [beq_eq_false_iff_ne]; exact hxi
  obtain ⟨t1, t2, t3⟩ := parse_text x x3
  have cX := fun u w' (hu : Rd w' .i64 u x) (hb : Below w.heap.size w w') => text_any u x w' hu x3 (ht.below hb)
  have cY := fun u w' (hu : Rd w' .i64 u x) => valid_any u x w' hu
  rw [x3] at cY
  generalize (⟨(textB x).toArray⟩ : ByteArray) = tx at *
  have X2 := Lib.hid x2
  clear x1 x2 x3 x4
  go_enter Tryd.func6, Tryd.ntmps6
  go_wp2_with (first | (go_at_call 22; (with_reducible refine cT.mono ?_); rintro e w1 ⟨rfl, hb1⟩) | (go_at_call 10; (with_reducible refine (cV _ hb1).mono ?_); rintro e w2 ⟨rfl, hb2⟩; have hbA := bl_trans hb1 hb2) | (go_at_call 17; (with_reducible refine (parses_t tb 0 _ l _ q3 (h.below hbA) q1 q2).mono ?_); rintro e w3 ⟨rfl, hb3⟩; have hbB := bl_trans hbA hb3) | (go_at_call 14; (with_reducible refine (cO _ hbB).mono ?_); rintro e w' ⟨rfl, rfl⟩) | (go_at_call 23; (with_reducible refine (cP _).mono ?_); rintro e w4 ⟨u, rfl, hu, hb4⟩; have hbC := bl_trans hbB hb4; obtain ⟨p1, n1, c1, hu1⟩ := hu.rd.shape; subst hu1; have hun := hu.len; obtain ⟨hu1, hu2, hu3⟩ := hun; subst hu1; have hu4 := hu.rd; clear hu) | (go_at_call 22; (with_reducible refine (cX _ _ hu4 hbC).mono ?_); rintro e w5 ⟨rfl, hb5⟩; have hbD := bl_trans hbC hb5; have hu5 := hu4.below hb5; clear hu4) | (go_at_call 10; (with_reducible refine (cY _ _ hu5).mono ?_); rintro e w6 ⟨rfl, hb6⟩; have hbE := bl_trans hbD hb6; have hu6 := hu5.below hb6; clear hu5) | (go_at_call 17; (with_reducible refine (parses_t tx 0 _ x _ t3 hu6 t1 t2).mono ?_); rintro e w7 ⟨rfl, hb7⟩; have hbF := bl_trans hbE hb7; have hu7 := hu6.below hb7; clear hu6))
  go_loopg [15] s.size (fun gf s6 wx => ∃ (pos : Nat), pos ≤ s.size ∧ s.size ≤ pos + gf ∧ wx.heap[w7.heap.size + 1]? = some (.stringIter s pos) ∧ BldV wx w7.heap.size 38 [] [] (bldQ ((bytesOf s).take pos)).1 (bldQ ((bytesOf s).take pos)).2 ∧ Below w7.heap.size w7 wx)
  case atStart =>
    exact ⟨0, Nat.zero_le _, by omega, by first | exact World.iter_heap (w7.alloc _) s 0 | (have := World.iter_heap (w7.alloc (.cells #[.int .i64 0, .int .i64 0, .int .i64 0, .int .i64 0, .int .i64 0, .int .i64 0, .int .i64 0, .int .i64 0, .int .i64 0, .int .i64 0, .int .i64 0, .int .i64 0, .int .i64 0, .int .i64 0, .int .i64 0, .int .i64 0, .int .i64 0, .bool false] 38)) s 0; rw [show (w7.alloc (.cells #[.int .i64 0, .int .i64 0, .int .i64 0, .int .i64 0, .int .i64 0, .int .i64 0, .int .i64 0, .int .i64 0, .int .i64 0, .int .i64 0, .int .i64 0, .int .i64 0, .int .i64 0, .int .i64 0, .int .i64 0, .int .i64 0, .int .i64 0, .bool false] 38)).heap.size = w7.heap.size + 1 by simp] at this; exact this), ⟨List.replicate 16 0, rfl, Nat.zero_le _, rfl, (Box.new w7 _ _ rfl).alloc _⟩, ((Below.refl _ w7).alloc (Nat.le_refl _) _).alloc (by simp) _⟩
  case round =>
    obtain ⟨pos, hp1, hp2, hit, hbv, hbw⟩ := hrel
    by_cases hlt : pos < s.size
    · obtain ⟨g', rfl⟩ : ∃ g', gk = g' + 1 := ⟨gk - 1, by omega⟩
      have hf : fineR (s[pos].toNat : Int) = true := HD.out _ (by
        have e := bytesOf_take_succ s pos hlt
        exact List.mem_of_mem_take (i := pos + 1) (by rw [e]; simp))
      have h128 : s[pos].toNat < 128 := by simp [fineR] at hf; omega
      have hnx : ∀ ty, (Instr.next (.pointer (some ⟨w7.heap.size + 1, 0, none⟩)) true ty).run Tryd.prog wr = _ := fun ty => Lib.run_next_ascii_at wr (w7.heap.size + 1) s pos ty hit hlt h128
      have hit2 := Lib.iterAt_heap wr (w7.heap.size + 1) s pos (pos + 1) hit
      have hbw2 := Lib.below_iterAt hbw (k := w7.heap.size + 1) (by omega) s (pos + 1)
      have hbv2 := hbv.iterAt (k := w7.heap.size + 1) (by omega) s (pos + 1)
      have HQ : Hid (bldQ ((bytesOf s).take (pos + 1)) = bldS (bldQ ((bytesOf s).take pos)) (s[pos].toNat : Int)) := by unfold Hid; rw [bytesOf_take_succ s pos hlt, bldQ_snoc]
      have hok := bldQ_ok ((bytesOf s).take pos) (fun c hc => HD.out c (List.mem_of_mem_take hc))
      obtain ⟨W, hWd⟩ : ∃ W, wr.iterAt (w7.heap.size + 1) s (pos + 1) = W := ⟨_, rfl⟩
      rw [hWd] at hnx hit2 hbw2 hbv2
      have cA := add_any w7.heap.size 38 [] [] _ _ _ W hbv2 hf hok
      clear hbv hit hbw hbv2 hok hf
      go_wp2_with (go_at_call 20; refine cA.mono ?_; rintro e W' ⟨rfl, hB, hV⟩)
      go_roundg g'
      case measure => omega
      case rel => exact ⟨pos + 1, by omega, by omega, (hB.block _ (by omega) (Array.getElem?_eq_some_iff.1 hit2).1).trans hit2, by rw [HQ.out]; exact hV, Bar.to_below hbw2 hB (Nat.le_refl _)⟩
    · have hnx : ∀ ty, (Instr.next (.pointer (some ⟨w7.heap.size + 1, 0, none⟩)) true ty).run Tryd.prog wr = _ := fun ty => Lib.run_next_end_at wr (w7.heap.size + 1) s pos ty hit hlt
      have ep : (bytesOf s).take pos = bytesOf s := List.take_of_length_le (by rw [bytesOf_len]; omega)
      rw [ep] at hbv
      clear hit ep
      have cH := fun W (hb : Below w7.heap.size w7 W) (hd : BldV W w7.heap.size 38 [] [] (bldQ (bytesOf s)).1 (bldQ (bytesOf s)).2) => has_t w7.heap.size 38 _ _ _ x W hd (hu7.below hb) X2.out
      go_wp2_with (first | (go_at_call 21; (with_reducible refine (cH _ hbw hbv).mono ?_); rintro e w8 ⟨rfl, hb8⟩; have hbG := bl_trans (bl_trans hbF hbw) hb8) | (go_at_call 9; (with_reducible refine (known_any _ (ht.below hbG)).mono ?_); rintro e wk ⟨rfl, hbk⟩))
      go_ret
      exact ⟨rfl, bl_trans hbG hbk⟩
set_option maxHeartbeats 4000000 in
set_option maxRecDepth 100000 in
theorem ph_i_no (v : Value) (l : List Int) (s : ByteArray) (i : Int) (w : World) (h : Rd w .i64 v l) (ht : Tab w) (hl : l.length ≤ 40) (hs : s.size ≤ 200) (hv : validP l = false) (hf : fineS s = false) : Calls Tryd.prog 6 #[v, .string s, .int .i64 i] w fun e w' => e = .returned (.bool true) ∧ Below w.heap.size w w' := by
  have h0 := h
  obtain ⟨p, cap, rfl, l1, m1, _⟩ := h0
  unfold maxLen at m1
  have cT := text_no _ l w h hv
  have hfn : ¬ ∀ c ∈ bytesOf s, fineR c = true := fun h' => by rw [(fineS_iff s).2 h'] at hf; cases hf
  have HFN := Lib.hid hfn
  clear hfn
  go_enter Tryd.func6, Tryd.ntmps6
  go_wp2_with (first | (go_at_call 22; (with_reducible refine cT.mono ?_); rintro e w1 ⟨rfl, hb1⟩) | (go_at_call 23; (with_reducible refine (parse_no s _ (by omega) HFN.out).mono ?_); rintro e w4 ⟨rfl, hb4⟩; have hbC := bl_trans hb1 hb4) | (go_at_call 9; (with_reducible refine (known_any _ (ht.below hbC)).mono ?_); rintro e wk ⟨rfl, hbk⟩))
  go_ret
  exact ⟨rfl, bl_trans hbC hbk⟩
set_option maxHeartbeats 4000000 in
set_option maxRecDepth 100000 in
theorem ph_i_empty (v : Value) (l : List Int) (s : ByteArray) (i : Int) (w : World) (h : Rd w .i64 v l) (ht : Tab w) (hl : l.length ≤ 40) (hs : s.size ≤ 200) (hv : validP l = false) (hf : fineS s = true) (hz :  s.size = 0) : Calls Tryd.prog 6 #[v, .string s, .int .i64 i] w fun e w' => e = .returned (.bool true) ∧ Below w.heap.size w w' := by
  have h0 := h
  obtain ⟨p, cap, rfl, l1, m1, _⟩ := h0
  unfold maxLen at m1
  have cT := text_no _ l w h hv
  obtain ⟨x, x1, x2, x3, x4, x5⟩ := fine_parse s hf
  have HD := Lib.hid ((fineS_iff s).1 hf)
  have cP := fun w' => parse_u s w' (by omega)
  rw [x1, show parseE s = 0 from if_pos hf] at cP
  have z : s.toList.isEmpty = true := by rw [isEmpty_size]; exact decide_eq_true hz
  have hxl :  x.length = 0 := x4.2 hz
  have hx16 : ¬ (16 : Int) < (x.length : Int) := by omega
  have HXL := Lib.hid hxl
  clear hxl hx16
  obtain ⟨t1, t2, t3⟩ := parse_text x x3
  have cX := fun u w' (hu : Rd w' .i64 u x) (hb : Below w.heap.size w w') => text_any u x w' hu x3 (ht.below hb)
  have cY := fun u w' (hu : Rd w' .i64 u x) => valid_any u x w' hu
  rw [x3] at cY
  generalize (⟨(textB x).toArray⟩ : ByteArray) = tx at *
  have X2 := Lib.hid x2
  clear x1 x2 x3 x4
  go_enter Tryd.func6, Tryd.ntmps6
  go_wp2_with (first | (go_at_call 22; (with_reducible refine cT.mono ?_); rintro e w1 ⟨rfl, hb1⟩) | (go_at_call 23; (with_reducible refine (cP _).mono ?_); rintro e w4 ⟨u, rfl, hu, hb4⟩; have hbC := bl_trans hb1 hb4; obtain ⟨p1, n1, c1, hu1⟩ := hu.rd.shape; subst hu1; have hun := hu.len; obtain ⟨hu1, hu2, hu3⟩ := hun; have hu0 : n1 = 0 := hu1.trans HXL.out; subst hu0; clear hu1 hu2; have hu4 := hu.rd; clear hu) | (go_at_call 22; (with_reducible refine (cX _ _ hu4 hbC).mono ?_); rintro e w5 ⟨rfl, hb5⟩; have hbD := bl_trans hbC hb5; have hu5 := hu4.below hb5; clear hu4) | (go_at_call 10; (with_reducible refine (cY _ _ hu5).mono ?_); rintro e w6 ⟨rfl, hb6⟩; have hbE := bl_trans hbD hb6; have hu6 := hu5.below hb6; clear hu5) | (go_at_call 17; (with_reducible refine (parses_t tx 0 _ x _ t3 hu6 t1 t2).mono ?_); rintro e w7 ⟨rfl, hb7⟩; have hbF := bl_trans hbE hb7; have hu7 := hu6.below hb7; clear hu6))
  go_loopg [15] s.size (fun gf s6 wx => ∃ (pos : Nat), pos ≤ s.size ∧ s.size ≤ pos + gf ∧ wx.heap[w7.heap.size + 1]? = some (.stringIter s pos) ∧ BldV wx w7.heap.size 38 [] [] (bldQ ((bytesOf s).take pos)).1 (bldQ ((bytesOf s).take pos)).2 ∧ Below w7.heap.size w7 wx)
  case atStart =>
    exact ⟨0, Nat.zero_le _, by omega, by first | exact World.iter_heap (w7.alloc _) s 0 | (have := World.iter_heap (w7.alloc (.cells #[.int .i64 0, .int .i64 0, .int .i64 0, .int .i64 0, .int .i64 0, .int .i64 0, .int .i64 0, .int .i64 0, .int .i64 0, .int .i64 0, .int .i64 0, .int .i64 0, .int .i64 0, .int .i64 0, .int .i64 0, .int .i64 0, .int .i64 0, .bool false] 38)) s 0; rw [show (w7.alloc (.cells #[.int .i64 0, .int .i64 0, .int .i64 0, .int .i64 0, .int .i64 0, .int .i64 0, .int .i64 0, .int .i64 0, .int .i64 0, .int .i64 0, .int .i64 0, .int .i64 0, .int .i64 0, .int .i64 0, .int .i64 0, .int .i64 0, .int .i64 0, .bool false] 38)).heap.size = w7.heap.size + 1 by simp] at this; exact this), ⟨List.replicate 16 0, rfl, Nat.zero_le _, rfl, (Box.new w7 _ _ rfl).alloc _⟩, ((Below.refl _ w7).alloc (Nat.le_refl _) _).alloc (by simp) _⟩
  case round =>
    obtain ⟨pos, hp1, hp2, hit, hbv, hbw⟩ := hrel
    by_cases hlt : pos < s.size
    · obtain ⟨g', rfl⟩ : ∃ g', gk = g' + 1 := ⟨gk - 1, by omega⟩
      have hf : fineR (s[pos].toNat : Int) = true := HD.out _ (by
        have e := bytesOf_take_succ s pos hlt
        exact List.mem_of_mem_take (i := pos + 1) (by rw [e]; simp))
      have h128 : s[pos].toNat < 128 := by simp [fineR] at hf; omega
      have hnx : ∀ ty, (Instr.next (.pointer (some ⟨w7.heap.size + 1, 0, none⟩)) true ty).run Tryd.prog wr = _ := fun ty => Lib.run_next_ascii_at wr (w7.heap.size + 1) s pos ty hit hlt h128
      have hit2 := Lib.iterAt_heap wr (w7.heap.size + 1) s pos (pos + 1) hit
      have hbw2 := Lib.below_iterAt hbw (k := w7.heap.size + 1) (by omega) s (pos + 1)
      have hbv2 := hbv.iterAt (k := w7.heap.size + 1) (by omega) s (pos + 1)
      have HQ : Hid (bldQ ((bytesOf s).take (pos + 1)) = bldS (bldQ ((bytesOf s).take pos)) (s[pos].toNat : Int)) := by unfold Hid; rw [bytesOf_take_succ s pos hlt, bldQ_snoc]
      have hok := bldQ_ok ((bytesOf s).take pos) (fun c hc => HD.out c (List.mem_of_mem_take hc))
      obtain ⟨W, hWd⟩ : ∃ W, wr.iterAt (w7.heap.size + 1) s (pos + 1) = W := ⟨_, rfl⟩
      rw [hWd] at hnx hit2 hbw2 hbv2
      have cA := add_any w7.heap.size 38 [] [] _ _ _ W hbv2 hf hok
      clear hbv hit hbw hbv2 hok hf
      go_wp2_with (go_at_call 20; refine cA.mono ?_; rintro e W' ⟨rfl, hB, hV⟩)
      go_roundg g'
      case measure => omega
      case rel => exact ⟨pos + 1, by omega, by omega, (hB.block _ (by omega) (Array.getElem?_eq_some_iff.1 hit2).1).trans hit2, by rw [HQ.out]; exact hV, Bar.to_below hbw2 hB (Nat.le_refl _)⟩
    · have hnx : ∀ ty, (Instr.next (.pointer (some ⟨w7.heap.size + 1, 0, none⟩)) true ty).run Tryd.prog wr = _ := fun ty => Lib.run_next_end_at wr (w7.heap.size + 1) s pos ty hit hlt
      have ep : (bytesOf s).take pos = bytesOf s := List.take_of_length_le (by rw [bytesOf_len]; omega)
      rw [ep] at hbv
      clear hit ep
      have cH := fun W (hb : Below w7.heap.size w7 W) (hd : BldV W w7.heap.size 38 [] [] (bldQ (bytesOf s)).1 (bldQ (bytesOf s)).2) => has_t w7.heap.size 38 _ _ _ x W hd (hu7.below hb) X2.out
      go_wp2_with (first | (go_at_call 21; (with_reducible refine (cH _ hbw hbv).mono ?_); rintro e w8 ⟨rfl, hb8⟩; have hbG := bl_trans (bl_trans hbF hbw) hb8) | (go_at_call 9; (with_reducible refine (known_any _ (ht.below hbG)).mono ?_); rintro e wk ⟨rfl, hbk⟩))
      go_ret
      exact ⟨rfl, bl_trans hbG hbk⟩
set_option maxHeartbeats 4000000 in
set_option maxRecDepth 100000 in
theorem ph_i_some (v : Value) (l : List Int) (s : ByteArray) (i : Int) (w : World) (h : Rd w .i64 v l) (ht : Tab w) (hl : l.length ≤ 40) (hs : s.size ≤ 200) (hv : validP l = false) (hf : fineS s = true) (hz : ¬ s.size = 0) : Calls Tryd.prog 6 #[v, .string s, .int .i64 i] w fun e w' => e = .returned (.bool true) ∧ Below w.heap.size w w' := by
  have h0 := h
  obtain ⟨p, cap, rfl, l1, m1, _⟩ := h0
  unfold maxLen at m1
  have cT := text_no _ l w h hv
  obtain ⟨x, x1, x2, x3, x4, x5⟩ := fine_parse s hf
  have HD := Lib.hid ((fineS_iff s).1 hf)
  have cP := fun w' => parse_u s w' (by omega)
  rw [x1, show parseE s = 0 from if_pos hf] at cP
  have z : s.toList.isEmpty = false := by rw [isEmpty_size]; exact decide_eq_false hz
  have hxl : ¬ x.length = 0 := fun e => hz (x4.1 e)
  have hx16 : ¬ (16 : Int) < (x.length : Int) := by omega
  have hxi : ¬ (x.length : Int) = 0 := by omega
  have hxd : ((x.length : Int) == 0) = false := by rw [beq_eq_false_iff_ne]; exact hxi
  obtain ⟨t1, t2, t3⟩ := parse_text x x3
  have cX := fun u w' (hu : Rd w' .i64 u x) (hb : Below w.heap.size w w') => text_any u x w' hu x3 (ht.below hb)
  have cY := fun u w' (hu : Rd w' .i64 u x) => valid_any u x w' hu
  rw [x3] at cY
  generalize (⟨(textB x).toArray⟩ : ByteArray) = tx at *
  have X2 := Lib.hid x2
  clear x1 x2 x3 x4
  go_enter Tryd.func6, Tryd.ntmps6
  go_wp2_with (first | (go_at_call 22; (with_reducible refine cT.mono ?_); rintro e w1 ⟨rfl, hb1⟩) | (go_at_call 23; (with_reducible refine (cP _).mono ?_); rintro e w4 ⟨u, rfl, hu, hb4⟩; have hbC := bl_trans hb1 hb4; obtain ⟨p1, n1, c1, hu1⟩ := hu.rd.shape; subst hu1; have hun := hu.len; obtain ⟨hu1, hu2, hu3⟩ := hun; subst hu1; have hu4 := hu.rd; clear hu) | (go_at_call 22; (with_reducible refine (cX _ _ hu4 hbC).mono ?_); rintro e w5 ⟨rfl, hb5⟩; have hbD := bl_trans hbC hb5; have hu5 := hu4.below hb5; clear hu4) | (go_at_call 10; (with_reducible refine (cY _ _ hu5).mono ?_); rintro e w6 ⟨rfl, hb6⟩; have hbE := bl_trans hbD hb6; have hu6 := hu5.below hb6; clear hu5) | (go_at_call 17; (with_reducible refine (parses_t tx 0 _ x _ t3 hu6 t1 t2).mono ?_); rintro e w7 ⟨rfl, hb7⟩; have hbF := bl_trans hbE hb7; have hu7 := hu6.below hb7; clear hu6))
  go_loopg [15] s.size (fun gf s6 wx => ∃ (pos : Nat), pos ≤ s.size ∧ s.size ≤ pos + gf ∧ wx.heap[w7.heap.size + 1]? = some (.stringIter s pos) ∧ BldV wx w7.heap.size 38 [] [] (bldQ ((bytesOf s).take pos)).1 (bldQ ((bytesOf s).take pos)).2 ∧ Below w7.heap.size w7 wx)
  case atStart =>
    exact ⟨0, Nat.zero_le _, by omega, by first | exact World.iter_heap (w7.alloc _) s 0 | (have := World.iter_heap (w7.alloc (.cells #[.int .i64 0, .int .i64 0, .int .i64 0, .int .i64 0, .int .i64 0, .int .i64 0, .int .i64 0, .int .i64 0, .int .i64 0, .int .i64 0, .int .i64 0, .int .i64 0, .int .i64 0, .int .i64 0, .int .i64 0, .int .i64 0, .int .i64 0, .bool false] 38)) s 0; rw [show (w7.alloc (.cells #[.int .i64 0, .int .i64 0, .int .i64 0, .int .i64 0, .int .i64 0, .int .i64 0, .int .i64 0, .int .i64 0, .int .i64 0, .int .i64 0, .int .i64 0, .int .i64 0, .int .i64 0, .int .i64 0, .int .i64 0, .int .i64 0, .int .i64 0, .bool false] 38)).heap.size = w7.heap.size + 1 by simp] at this; exact this), ⟨List.replicate 16 0, rfl, Nat.zero_le _, rfl, (Box.new w7 _ _ rfl).alloc _⟩, ((Below.refl _ w7).alloc (Nat.le_refl _) _).alloc (by simp) _⟩
  case round =>
    obtain ⟨pos, hp1, hp2, hit, hbv, hbw⟩ := hrel
    by_cases hlt : pos < s.size
    · obtain ⟨g', rfl⟩ : ∃ g', gk = g' + 1 := ⟨gk - 1, by omega⟩
      have hf : fineR (s[pos].toNat : Int) = true := HD.out _ (by
        have e := bytesOf_take_succ s pos hlt
        exact List.mem_of_mem_take (i := pos + 1) (by rw [e]; simp))
      have h128 : s[pos].toNat < 128 := by simp [fineR] at hf; omega
      have hnx : ∀ ty, (Instr.next (.pointer (some ⟨w7.heap.size + 1, 0, none⟩)) true ty).run Tryd.prog wr = _ := fun ty => Lib.run_next_ascii_at wr (w7.heap.size + 1) s pos ty hit hlt h128
      have hit2 := Lib.iterAt_heap wr (w7.heap.size + 1) s pos (pos + 1) hit
      have hbw2 := Lib.below_iterAt hbw (k := w7.heap.size + 1) (by omega) s (pos + 1)
      have hbv2 := hbv.iterAt (k := w7.heap.size + 1) (by omega) s (pos + 1)
      have HQ : Hid (bldQ ((bytesOf s).take (pos + 1)) = bldS (bldQ ((bytesOf s).take pos)) (s[pos].toNat : Int)) := by unfold Hid; rw [bytesOf_take_succ s pos hlt, bldQ_snoc]
      have hok := bldQ_ok ((bytesOf s).take pos) (fun c hc => HD.out c (List.mem_of_mem_take hc))
      obtain ⟨W, hWd⟩ : ∃ W, wr.iterAt (w7.heap.size + 1) s (pos + 1) = W := ⟨_, rfl⟩
      rw [hWd] at hnx hit2 hbw2 hbv2
      have cA := add_any w7.heap.size 38 [] [] _ _ _ W hbv2 hf hok
      clear hbv hit hbw hbv2 hok hf
      go_wp2_with (go_at_call 20; refine cA.mono ?_; rintro e W' ⟨rfl, hB, hV⟩)
      go_roundg g'
      case measure => omega
      case rel => exact ⟨pos + 1, by omega, by omega, (hB.block _ (by omega) (Array.getElem?_eq_some_iff.1 hit2).1).trans hit2, by rw [HQ.out]; exact hV, Bar.to_below hbw2 hB (Nat.le_refl _)⟩
    · have hnx : ∀ ty, (Instr.next (.pointer (some ⟨w7.heap.size + 1, 0, none⟩)) true ty).run Tryd.prog wr = _ := fun ty => Lib.run_next_end_at wr (w7.heap.size + 1) s pos ty hit hlt
      have ep : (bytesOf s).take pos = bytesOf s := List.take_of_length_le (by rw [bytesOf_len]; omega)
      rw [ep] at hbv
      clear hit ep
      have cH := fun W (hb : Below w7.heap.size w7 W) (hd : BldV W w7.heap.size 38 [] [] (bldQ (bytesOf s)).1 (bldQ (bytesOf s)).2) => has_t w7.heap.size 38 _ _ _ x W hd (hu7.below hb) X2.out
      go_wp2_with (first | (go_at_call 21; (with_reducible refine (cH _ hbw hbv).mono ?_); rintro e w8 ⟨rfl, hb8⟩; have hbG := bl_trans (bl_trans hbF hbw) hb8) | (go_at_call 9; (with_reducible refine (known_any _ (ht.below hbG)).mono ?_); rintro e wk ⟨rfl, hbk⟩))
      go_ret
      exact ⟨rfl, bl_trans hbG hbk⟩
theorem paramsHolds_any (v : Value) (l : List Int) (s : ByteArray) (i : Int) (w : World) (h : Rd w .i64 v l) (ht : Tab w) : Calls Tryd.prog 6 #[v, .string s, .int .i64 i] w fun e w' => e = .returned (.bool true) ∧ Below w.heap.size w w' := by
  have h0 := h
  obtain ⟨p, cap, rfl, l1, m1, _⟩ := h0
  unfold maxLen at m1
  by_cases hl : 40 < l.length
  · go_enter Tryd.func6, Tryd.ntmps6
    go_wp2_with (go_at_call 9; (with_reducible refine (known_any _ (ht.below (Below.refl _ _))).mono ?_); rintro e wk ⟨rfl, hbk⟩)
    go_ret
    exact ⟨rfl, hbk⟩
  by_cases hs : 200 < s.size
  · go_enter Tryd.func6, Tryd.ntmps6
    go_wp2_with (go_at_call 9; (with_reducible refine (known_any _ (ht.below (Below.refl _ _))).mono ?_); rintro e wk ⟨rfl, hbk⟩)
    go_ret
    exact ⟨rfl, hbk⟩
  cases hv : validP l <;> cases hf : fineS s
  · exact ph_i_no _ l s i w h ht (by omega) (by omega) hv hf
  · by_cases hz : s.size = 0
    · exact ph_i_empty _ l s i w h ht (by omega) (by omega) hv hf hz
    · exact ph_i_some _ l s i w h ht (by omega) (by omega) hv hf hz
  · exact ph_v_no _ l s i w h ht (by omega) (by omega) hv hf
  · by_cases hz : s.size = 0
    · exact ph_v_empty _ l s i w h ht (by omega) (by omega) hv hf hz
    · exact ph_v_some _ l s i w h ht (by omega) (by omega) hv hf hz

set_option maxRecDepth 100000 in
theorem paramsHolds_lifted (os : Os) (started : os.Started) (H : Type) (enc : TypeId × Value → H) :
    ReturnsInHanded {} Tryd.checked os 6 .any (fun w args => (Rows.paramsHoldsSpec.pre enc Tryd.prog Tryd.f6 [] false w args ∧ laidMetH Tryd.prog laid3 w) ∧ sizedMet enc Tryd.prog Tryd.f6 (OpenSpec.ofChange Rows.paramsHoldsSpec) false w args)
      (Rows.paramsHoldsSpec.post enc Tryd.prog Tryd.f6 false true false false) := by
  refine returnsInHanded_of_change_and (C := Tryd.checked) (X := fun w _ => laidMetH Tryd.prog laid3 w) (fun _ _ _ hh h => h.of_heap hh) Tryd.own started (by kernel_rfl) Tryd.func6
    (ChangeSpec.witness_shaped (enc := enc) (C := Tryd.checked) (os := os) (X := fun w _ => laidMetH Tryd.prog laid3 w) false (World.doorLaid Tryd.prog 400 os) #[.slice none 0 0, .string ⟨#[]⟩, .int .i64 0] 8 rfl (World.shaped_of_RefB (by kernel_rfl) (by kernel_rfl)) (by kernel_rfl) (by kernel_rfl) (by kernel_rfl) (door_met os _)) ?_
  intro W base args ds gs before hval0 hW _ _ hL _
  have hval : ∀ (j : Nat) t v, Tryd.f6.params[j]? = some t → args[j]? = some v → Value.okWide Tryd.prog W .any base t v := hval0
  have hW' := hW
  obtain ⟨p, q, hA0, hV, rfl, hfz, hnd⟩ := hW
  have hA : DataW.TrodAll enc Tryd.prog W 0 (fun _ => true) true Tryd.f6.params.toList args.toList ds p := hA0
  rw [Tryd.params6] at hA hval
  obtain ⟨v0, v1, v2, d0, d1, d2, p0, p1, p2, rfl, rfl, rfl, h0, h1, h2⟩ := trodAll_three hA
  obtain ⟨rfl, rfl⟩ := trodVars_none hV
  obtain ⟨l, hl, _⟩ := open_rd Tryd.underlying22 Tryd.underlying3 (by kernel_rfl) (hval 0 22 v0 rfl rfl) h0
  obtain ⟨s, rfl, _⟩ := open_string Tryd.underlying9 (hval 1 9 v1 rfl rfl) h1
  obtain ⟨i, rfl, hi⟩ := open_num Tryd.underlying3 (hval 2 3 v2 rfl rfl) h2
  clear hA0 hval0
  have hT := tab_of_laid hL
  refine (paramsHolds_any v0 l s i W hl hT).mono fun e W' ⟨he, hw⟩ => ?_
  exact ⟨_, he, post_law Tryd.laidOut rfl hW' (by kernel_rfl) rfl Tryd.underlying4 rfl hw⟩

theorem paramsHolds_row : Rows.ParamsHoldsSaid :=
  OpenClaim.holds_of_wide 6 Tryd.f6 rfl rfl rfl rfl rfl rfl rfl ⟨rfl, rfl, rfl, rfl, rfl⟩ rfl rfl rfl rfl rfl (by kernel_rfl) Tryd.func6 (by kernel_rfl)
    (of_decide_eq_true (by kernel_rfl)) (by unfold Func.isWrapper; first | (rw [if_pos (by decide +kernel)]; kernel_rfl) | (rw [if_neg (by decide +kernel)]; exact ⟨rfl, rfl⟩))
    (fun os started H enc _ => paramsHolds_lifted os started H enc)

/-- THE TIED CARD. -/
theorem paramsHolds_holds : Rows.ParamsHoldsCardSaid :=
  Claim7.holds_tied_plain_at .later [] [.data, .data, .data] true (true, "4458feca6dd9f3487c4421ad4cb313d72e0174510b7d77276993b3156a906d65") false
    paramsHolds_row (fun _ h => by cases h) (by kernel_rfl) (fun _ h => by cases h) paramsHolds_row_tie rfl ⟨rfl, rfl⟩ (by kernel_rfl) rfl
    (fun f fn hf hfn => by
      obtain rfl : f = 6 := Option.some.inj ((show Tryd.prog.funcNamed "scrollback/scrollbacklaw10.ParamsHolds" = some 6 by kernel_rfl).symm.trans hf) |>.symm
      obtain rfl : fn = Tryd.f6 := (Option.some.inj (Tryd.func6.symm.trans hfn)).symm
      exact ⟨by kernel_rfl, fun j t ht => by
        rw [Tryd.params6] at ht
        have hm : t ∈ [22, 9, 3] := by simpa using Array.mem_of_getElem? ht
        have hall : ([22, 9, 3].all fun u => !Tryd.prog.wantsStandIn u) = true := by kernel_rfl
        exact (show Tryd.prog.wantsStandIn t = false by simpa using List.all_eq_true.1 hall t hm)⟩)
    (by kernel_rfl)

end Go.Proofs.YtdbjebjmhjljbaaDoor
