/- reply: the law's helper numbers. -/
import Derived.Test.YtgaakkgelifgpaaDoorRi
import Derived.OwnWalk
import Derived.Outline
set_option linter.unusedSimpArgs false
set_option linter.unusedVariables false
set_option linter.unnecessarySimpa false
namespace Go.Proofs.YtgaakkgelifgpaaDoor
open Go.RowKit

def Dig (d : UInt8) : Prop := 48 ≤ d.toNat ∧ d.toNat ≤ 57
theorem valD_next (l : List UInt8) (i : Nat) (h : i < l.length) : valD (l.take (i + 1)) = 10 * valD (l.take i) + (l[i].toNat - 48) := by
  rw [List.take_succ_eq_append_getElem h, valD_app]
set_option maxHeartbeats 8000000 in
set_option maxRecDepth 100000 in
theorem numbers_t (A B : List UInt8) (s : ByteArray) (w : World) (hs : s.data.toList = 27 :: 91 :: (A ++ (59 :: (B ++ [82])))) (hA : ∀ d ∈ A, Dig d) (hB : ∀ d ∈ B, Dig d) (hA0 : A ≠ []) (hB0 : B ≠ []) (vA : valD A < 10000) (vB : valD B < 10000) (hsz : s.size ≤ 1000) :
    Calls Tryd.prog 17 #[.string s] w fun e w' => e = .returned (.tuple #[.int .i64 (valD A), .int .i64 (valD B), .bool true]) ∧ Below w.heap.size w w' := by
  have hlen : s.size = A.length + B.length + 4 := by
    show s.data.size = _
    rw [← Array.length_toList, hs]; simp; omega
  have la : 0 < A.length := List.length_pos_iff.2 hA0
  have lb : 0 < B.length := List.length_pos_iff.2 hB0
  have at' : ∀ (i : Nat) (h : i < s.size), s.data.toList[i]? = some s[i] := fun i h => sidx s i h
  have get : ∀ (i : Nat) (h : i < s.size) (d : UInt8), (27 :: 91 :: (A ++ (59 :: (B ++ [82]))))[i]? = some d → s[i] = d := fun i h d hd => by
    have h3 := at' i h
    rw [hs, hd] at h3
    injection h3 with h3
    exact h3.symm
  have pA : ∀ (i : Nat) (h : i < A.length) (h2 : 2 + i < s.size), s[2 + i] = A[i] := fun i h h2 => get _ h2 _ (by
    rw [show 2 + i = i + 1 + 1 by omega, List.getElem?_cons_succ, List.getElem?_cons_succ, List.getElem?_append_left h, List.getElem?_eq_getElem h])
  have pS : ∀ (h2 : 2 + A.length < s.size), s[2 + A.length] = 59 := fun h2 => get _ h2 _ (by
    rw [show 2 + A.length = A.length + 1 + 1 by omega, List.getElem?_cons_succ, List.getElem?_cons_succ, List.getElem?_append_right (Nat.le_refl _)]
    simp)
  have pB : ∀ (i : Nat) (h : i < B.length) (h2 : 3 + A.length + i < s.size), s[3 + A.length + i] = B[i] := fun i h h2 => get _ h2 _ (by
    rw [show 3 + A.length + i = (A.length + (i + 1)) + 1 + 1 by omega, List.getElem?_cons_succ, List.getElem?_cons_succ, List.getElem?_append_right (by omega)]
    rw [show A.length + (i + 1) - A.length = i + 1 by omega, List.getElem?_cons_succ, List.getElem?_append_left h, List.getElem?_eq_getElem h])
  have pE : ∀ (h2 : s.size - 1 < s.size), s[s.size - 1] = 82 := fun h2 => get _ h2 _ (by
    rw [show s.size - 1 = (A.length + (B.length + 1)) + 1 + 1 by omega, List.getElem?_cons_succ, List.getElem?_cons_succ, List.getElem?_append_right (by omega)]
    rw [show A.length + (B.length + 1) - A.length = B.length + 1 by omega, List.getElem?_cons_succ, List.getElem?_append_right (Nat.le_refl _)]
    simp)
  have hx : s.size - 1 < s.size := by omega
  have e82 : s[s.size - 1].toNat = 82 := by rw [pE hx]; rfl
  have b6 : ¬ (s.size : Int) < 6 := by omega
  have HPA := Lib.hid pA
  have HPS := Lib.hid pS
  have HPB := Lib.hid pB
  clear pA pS pB pE get at' hs
  have HL := Lib.hid hlen
  have hs6 : 6 ≤ s.size := by omega
  have w1 : IntKind.i64.wrap ((s.size : Int) - 1) = (s.size : Int) - 1 := IntWalk.i64_in _ (by omega)
  clear hlen
  go_enter Tryd.func17, Tryd.ntmps17
  go_wp2_with fail
  go_loopw [6, 7] (fun k i wr => ∃ n : Nat, 2 ≤ n ∧ n ≤ s.size - 1 ∧ i = .int .i64 n ∧ ((n ≤ 2 + A.length ∧ k = .int .i64 0 ∧ Box wr w.heap.size #[.int .i64 (valD (A.take (n - 2)) : Nat), .int .i64 0] 68) ∨ (3 + A.length ≤ n ∧ k = .int .i64 1 ∧ Box wr w.heap.size #[.int .i64 (valD A : Nat), .int .i64 (valD (B.take (n - 3 - A.length)) : Nat)] 68)) ∧ Below w.heap.size w wr) (fun k i _ => s.size - (intOf i).toNat)
  case atStart => exact ⟨2, by omega, by omega, rfl, .inl ⟨by omega, rfl, Box.new _ _ _ rfl⟩, (by repeat (first | with_reducible exact Below.refl _ _ | with_reducible assumption | with_reducible exact GW.grow _ | with_reducible refine bl_alloc ?_ _ | with_reducible refine Below.drew ?_ | (with_reducible refine Below.setCell ?_ ?_ _; rotate_left; focus (simp; first | done | omega)) | with_reducible refine bl_trans ?_ (GW.grow _) | (with_reducible refine bl_trans ?_ (by assumption))))⟩
  case round =>
    obtain ⟨n, hn2, hn, rfl, hph, hbel⟩ := hrel
    have r0 : (0 : Int) ≤ (n : Int) := by omega
    have r1 : (n : Int) < (s.size : Int) := by omega
    by_cases hlt : n < s.size - 1
    · have r2 : (n : Int) < (s.size : Int) - 1 := by omega
      rcases hph with ⟨hA1, rfl, hx⟩ | ⟨hA1, rfl, hx⟩
      · by_cases hnA : n < 2 + A.length
        · obtain ⟨j, rfl⟩ : ∃ j, n = 2 + j := ⟨n - 2, by omega⟩
          have hj : j < A.length := by omega
          have hb2 : 2 + j < s.size := by omega
          have e1 := HPA.out j hj (by omega)
          have hd : Dig A[j] := hA _ (List.getElem_mem hj)
          have hv := valD_take A j
          have hvn := valD_next A j hj
          have c0 : wr.cell? ⟨w.heap.size, 0, none⟩ = some (.int .i64 (valD (A.take (2 + j - 2)) : Nat)) := Box.cell hx 0
          have f0 := Box.free hx
          have l0 := Box.lt hx
          have ej : 2 + j - 2 = j := by omega
          rw [ej] at c0 hx
          obtain ⟨d1, d2⟩ := hd
          rw [← e1] at d1 d2 hvn
          have r3 : (2 : Int) + (j : Int) < (s.size : Int) := by omega
          have r4 : (0 : Int) ≤ (2 : Int) + (j : Int) := by omega
          have z1 : (((s[2 + j].toNat : Nat) : Int) == 59) = false := by rw [beq_eq_false_iff_ne]; omega
          have z2 : (48 : Int) ≤ ((s[2 + j].toNat : Nat) : Int) := by omega
          have z3 : ((s[2 + j].toNat : Nat) : Int) ≤ 57 := by omega
          have z4 : ((valD (A.take j) : Nat) : Int) < 10000 := by omega
          have HVN := Lib.hid hvn
          have HX := Lib.hid hx
          have HV := Lib.hid hv
          clear e1 hvn hx hv hA hB ej
          obtain ⟨vj, hC⟩ : ∃ v, valD (A.take j) = v := ⟨_, rfl⟩
          rw [hC] at c0 z4
          have HC := Lib.hid hC
          clear hC
          have w2 : IntKind.i64.wrap (10 * (vj : Int)) = 10 * (vj : Int) := IntWalk.i64_in _ (by omega)
          have w3 : IntKind.u8.wrap (((s[2 + j].toNat : Nat) : Int) - 48) = ((s[2 + j].toNat : Nat) : Int) - 48 := by rw [show IntKind.u8.wrap (((s[2 + j].toNat : Nat) : Int) - 48) = (((s[2 + j].toNat : Nat) : Int) - 48) % 256 from rfl]; omega
          have w4 : IntKind.i64.wrap (10 * (vj : Int) + (((s[2 + j].toNat : Nat) : Int) - 48)) = 10 * (vj : Int) + (((s[2 + j].toNat : Nat) : Int) - 48) := IntWalk.i64_in _ (by omega)
          go_wp2_with fail
          first | refine wp_grow_tail2 12 (by kernel_rfl) (by kernel_rfl) ?_ | refine wp_grow_tail 12 (by kernel_rfl) (by kernel_rfl) ?_
          simp only [List.take_succ_cons, List.take_zero, List.drop_succ_cons, List.drop_zero]
          repeat (go_big_quiet_step (fail))
          refine wpQuiet_nil ?_
          rintro _ ⟨X, rfl⟩
          go_wp2_with fail
          go_roundw
          case rel =>
            refine ⟨2 + j + 1, by omega, by omega, by go_num, .inl ⟨by omega, rfl, (Box.set (Box.gw (X := X) HX.out) 0 _).as ?_⟩, Below.setCell (bl_trans hbel X.grow) (Nat.le_refl _) _⟩
            have e5 : 2 + j + 1 - 2 = j + 1 := by omega
            have e6 := HVN.out
            rw [HC.out] at e6
            rw [e5, e6]
            have e7 : (10 * (vj : Int) + (((s[2 + j].toNat : Nat) : Int) - 48)) = ((10 * vj + (s[2 + j].toNat - 48) : Nat) : Int) := by omega
            simp [e7]
          case measure => simp [intOf]; omega
        · obtain rfl : n = 2 + A.length := by omega
          have e1 := HPS.out (by omega)
          have z1 : s[2 + A.length].toNat = 59 := by rw [e1]; rfl
          have r3 : (2 : Int) + (A.length : Int) < (s.size : Int) := by omega
          have r4 : (0 : Int) ≤ (2 : Int) + (A.length : Int) := by omega
          have HX := Lib.hid hx
          clear e1 hx hA hB
          go_wp2_with fail
          go_roundw
          case rel =>
            refine ⟨2 + A.length + 1, by omega, by omega, by go_num, .inr ⟨by omega, rfl, HX.out.as ?_⟩, hbel⟩
            have e5 : 2 + A.length + 1 - 3 - A.length = 0 := by omega
            have e6 : 2 + A.length - 2 = A.length := by omega
            rw [e5, e6, List.take_length]
            rfl
          case measure => simp [intOf]; omega
      · obtain ⟨j, rfl⟩ : ∃ j, n = 3 + A.length + j := ⟨n - 3 - A.length, by omega⟩
        have hj : j < B.length := by have := HL.out; omega
        have hb2 : 3 + A.length + j < s.size := by omega
        have e1 := HPB.out j hj (by omega)
        have hd : Dig B[j] := hB _ (List.getElem_mem hj)
        have hv := valD_take B j
        have hvn := valD_next B j hj
        have c0 : wr.cell? ⟨w.heap.size, 1, none⟩ = some (.int .i64 (valD (B.take (3 + A.length + j - 3 - A.length)) : Nat)) := Box.cell hx 1
        have f0 := Box.free hx
        have l0 := Box.lt hx
        have ej : 3 + A.length + j - 3 - A.length = j := by omega
        rw [ej] at c0 hx
        obtain ⟨d1, d2⟩ := hd
        rw [← e1] at d1 d2 hvn
        have r3 : (3 : Int) + (A.length : Int) + (j : Int) < (s.size : Int) := by omega
        have r4 : (0 : Int) ≤ (3 : Int) + (A.length : Int) + (j : Int) := by omega
        have z1 : (((s[3 + A.length + j].toNat : Nat) : Int) == 59) = false := by rw [beq_eq_false_iff_ne]; omega
        have z2 : (48 : Int) ≤ ((s[3 + A.length + j].toNat : Nat) : Int) := by omega
        have z3 : ((s[3 + A.length + j].toNat : Nat) : Int) ≤ 57 := by omega
        have z4 : ((valD (B.take j) : Nat) : Int) < 10000 := by omega
        have HVN := Lib.hid hvn
        have HX := Lib.hid hx
        have HV := Lib.hid hv
        clear e1 hvn hx hv hA hB ej
        obtain ⟨vj, hC⟩ : ∃ v, valD (B.take j) = v := ⟨_, rfl⟩
        rw [hC] at c0 z4
        have HC := Lib.hid hC
        clear hC
        have w2 : IntKind.i64.wrap (10 * (vj : Int)) = 10 * (vj : Int) := IntWalk.i64_in _ (by omega)
        have w3 : IntKind.u8.wrap (((s[3 + A.length + j].toNat : Nat) : Int) - 48) = ((s[3 + A.length + j].toNat : Nat) : Int) - 48 := by rw [show IntKind.u8.wrap (((s[3 + A.length + j].toNat : Nat) : Int) - 48) = (((s[3 + A.length + j].toNat : Nat) : Int) - 48) % 256 from rfl]; omega
        have w4 : IntKind.i64.wrap (10 * (vj : Int) + (((s[3 + A.length + j].toNat : Nat) : Int) - 48)) = 10 * (vj : Int) + (((s[3 + A.length + j].toNat : Nat) : Int) - 48) := IntWalk.i64_in _ (by omega)
        go_wp2_with fail
        first | refine wp_grow_tail2 12 (by kernel_rfl) (by kernel_rfl) ?_ | refine wp_grow_tail 12 (by kernel_rfl) (by kernel_rfl) ?_
        simp only [List.take_succ_cons, List.take_zero, List.drop_succ_cons, List.drop_zero]
        repeat (go_big_quiet_step (fail))
        refine wpQuiet_nil ?_
        rintro _ ⟨X, rfl⟩
        go_wp2_with fail
        go_roundw
        case rel =>
          refine ⟨3 + A.length + j + 1, by omega, by omega, by go_num, .inr ⟨by omega, rfl, (Box.set (Box.gw (X := X) HX.out) 1 _).as ?_⟩, Below.setCell (bl_trans hbel X.grow) (Nat.le_refl _) _⟩
          have e5 : 3 + A.length + j + 1 - 3 - A.length = j + 1 := by omega
          have e6 := HVN.out
          rw [HC.out] at e6
          rw [e5, e6]
          have e7 : (10 * (vj : Int) + (((s[3 + A.length + j].toNat : Nat) : Int) - 48)) = ((10 * vj + (s[3 + A.length + j].toNat - 48) : Nat) : Int) := by omega
          simp [e7]
        case measure => simp [intOf]; omega
    · have r2 : ¬ (n : Int) < (s.size : Int) - 1 := by omega
      have hLL := HL.out
      have hnn : n = s.size - 1 := by omega
      rcases hph with ⟨hA1, rfl, hx⟩ | ⟨hA1, rfl, hx⟩
      · omega
      · have ej : n - 3 - A.length = B.length := by omega
        rw [ej, List.take_length] at hx
        have c0 := Box.cell hx 0
        have c1 := Box.cell hx 1
        have f0 := Box.free hx
        have l0 := Box.lt hx
        clear hA hB hx ej hLL
        go_wp2_with fail
        first | refine wp_grow2 (by kernel_rfl) (by kernel_rfl) ?_ | refine wp_grow (by kernel_rfl) (by kernel_rfl) ?_
        repeat (go_big_quiet_step (fail))
        refine wpQuiet_nil ?_
        rintro _ ⟨X, rfl⟩
        go_wp2_with fail
        go_ret3
        exact ⟨rfl, bl_trans hbel X.grow⟩

end Go.Proofs.YtgaakkgelifgpaaDoor
