/- Motion: the reference's walk of many steps; the examples. -/
import Derived.Test.YtfcogdpkelcfbaaC
namespace Go.Proofs.Ytfcogdpkelcfbaa
open Go.RowKit

/-- One step more is one more in the closed form. -/
theorem step_way (rows cols top bottom : Int) (o : Bool) (r c way k : Int) (hv : 1 ≤ rows ∧ rows ≤ 1000 ∧ 1 ≤ cols ∧ cols ≤ 1000 ∧ 0 ≤ top ∧ top ≤ bottom ∧ bottom < rows ∧ 0 ≤ r ∧ r < rows ∧ 0 ≤ c ∧ c < cols) (hk : 0 ≤ k) (hw : 0 ≤ way ∧ way ≤ 3) :
    stepR rows cols top bottom (wayR rows cols top bottom o r c way k).1 (wayR rows cols top bottom o r c way k).2 way = wayR rows cols top bottom o r c way (k + 1) := by
  obtain rfl | rfl | rfl | rfl : way = 0 ∨ way = 1 ∨ way = 2 ∨ way = 3 := by omega
  · simp only [wayR, stepR, upR]; simp; (repeat' split) <;> (try simp) <;> omega
  · simp only [wayR, stepR, downR]; simp; (repeat' split) <;> (try simp) <;> omega
  · simp only [wayR, stepR]; simp; (repeat' split) <;> (try simp) <;> omega
  · simp only [wayR, stepR]; simp; (repeat' split) <;> (try simp) <;> omega
theorem way_zero (rows cols top bottom : Int) (o : Bool) (r c way : Int) (hv : 1 ≤ rows ∧ rows ≤ 1000 ∧ 1 ≤ cols ∧ cols ≤ 1000 ∧ 0 ≤ top ∧ top ≤ bottom ∧ bottom < rows ∧ 0 ≤ r ∧ r < rows ∧ 0 ≤ c ∧ c < cols) (hw : 0 ≤ way ∧ way ≤ 3) :
    wayR rows cols top bottom o r c way 0 = (r, c) := by
  obtain rfl | rfl | rfl | rfl : way = 0 ∨ way = 1 ∨ way = 2 ∨ way = 3 := by omega
  · simp only [wayR, upR]; simp; split <;> omega
  · simp only [wayR, downR]; simp; split <;> omega
  · simp only [wayR]; simp; omega
  · simp only [wayR]; simp; omega
theorem way_in (rows cols top bottom : Int) (o : Bool) (r c way k : Int) (hv : 1 ≤ rows ∧ rows ≤ 1000 ∧ 1 ≤ cols ∧ cols ≤ 1000 ∧ 0 ≤ top ∧ top ≤ bottom ∧ bottom < rows ∧ 0 ≤ r ∧ r < rows ∧ 0 ≤ c ∧ c < cols) (hk : 0 ≤ k) (hw : 0 ≤ way ∧ way ≤ 3) :
    0 ≤ (wayR rows cols top bottom o r c way k).1 ∧ (wayR rows cols top bottom o r c way k).1 < rows ∧ 0 ≤ (wayR rows cols top bottom o r c way k).2 ∧ (wayR rows cols top bottom o r c way k).2 < cols := by
  obtain rfl | rfl | rfl | rfl : way = 0 ∨ way = 1 ∨ way = 2 ∨ way = 3 := by omega
  · simp only [wayR, upR]; simp; split <;> omega
  · simp only [wayR, downR]; simp; split <;> omega
  · simp only [wayR]; simp; omega
  · simp only [wayR]; simp; omega
theorem way_far (rows cols top bottom : Int) (o : Bool) (r c way n : Int) (hv : 1 ≤ rows ∧ rows ≤ 1000 ∧ 1 ≤ cols ∧ cols ≤ 1000 ∧ 0 ≤ top ∧ top ≤ bottom ∧ bottom < rows ∧ 0 ≤ r ∧ r < rows ∧ 0 ≤ c ∧ c < cols) (hn : 1000 ≤ n) (hw : 0 ≤ way ∧ way ≤ 3) :
    wayR rows cols top bottom o r c way 1000 = wayR rows cols top bottom o r c way n := by
  obtain rfl | rfl | rfl | rfl : way = 0 ∨ way = 1 ∨ way = 2 ∨ way = 3 := by omega
  · simp only [wayR, upR]; simp; split <;> omega
  · simp only [wayR, downR]; simp; split <;> omega
  · simp only [wayR]; simp; omega
  · simp only [wayR]; simp; omega

set_option maxHeartbeats 2000000 in
theorem ways_any (rows cols top bottom : Int) (o : Bool) (r c : Int) (p : Bool) (way n : Int) (w : World) (h : validB rows cols top bottom r c p = true) (hn : 0 ≤ n) (hw : 0 ≤ way ∧ way ≤ 3) :
    Calls Try.prog 11 #[.agg #[.int .i64 rows, .int .i64 cols, .int .i64 top, .int .i64 bottom, .bool o], .agg #[.int .i64 r, .int .i64 c, .bool p], .int .i64 way, .int .i64 n] w fun e w' =>
      e = .returned (.agg #[.int .i64 (wayR rows cols top bottom o r c way n).1, .int .i64 (wayR rows cols top bottom o r c way n).2, .bool false]) ∧ Below w.heap.size w w' := by
  have hv := valid_facts h
  have hz := way_zero rows cols top bottom o r c way hv hw
  have Hz : Hid (wayR rows cols top bottom o r c way 0 = (r, c)) := hz
  clear hz
  go_enter Try.func11, Try.ntmps11
  go_wp2_with fail
  go_loopw [9] (fun i wr => ∃ k : Nat, (k : Int) ≤ 1000 ∧ (k : Int) ≤ n ∧ i = .int .i64 k ∧ Below w.heap.size w wr ∧ Box wr w.heap.size #[.int .i64 rows, .int .i64 cols, .int .i64 top, .int .i64 bottom, .bool o] 25 ∧
      Box wr (w.heap.size + 1) #[.int .i64 (wayR rows cols top bottom o r c way k).1, .int .i64 (wayR rows cols top bottom o r c way k).2, .bool false] 27 ∧
      Box wr (w.heap.size + 1 + 1) #[.int .i64 0, .int .i64 0, .bool false] 27) (fun i _ => (1000 - intOf i).toNat)
  case atStart =>
    refine ⟨0, by omega, by omega, rfl, (by repeat (first | with_reducible exact Below.refl _ _ | with_reducible assumption | with_reducible exact GW.grow _ | with_reducible refine bl_alloc ?_ _ | with_reducible refine Below.drew ?_ | (with_reducible refine Below.setCell ?_ ?_ _; rotate_left; focus (simp; first | done | omega)) | with_reducible refine bl_trans ?_ (GW.grow _) | (with_reducible refine bl_trans ?_ (by assumption)))), (by first | with_reducible assumption | (apply Box.as; (focus (repeat (first | with_reducible assumption | (with_reducible apply Box.new; simp; done) | with_reducible apply Box.gw | with_reducible apply Box.drew | with_reducible apply Box.alloc | with_reducible apply Box.set | (with_reducible apply Box.set_other; rotate_left; focus omega)))); rfl)), ?_, (by first | with_reducible assumption | (apply Box.as; (focus (repeat (first | with_reducible assumption | (with_reducible apply Box.new; simp; done) | with_reducible apply Box.gw | with_reducible apply Box.drew | with_reducible apply Box.alloc | with_reducible apply Box.set | (with_reducible apply Box.set_other; rotate_left; focus omega)))); rfl))⟩
    show Box _ _ #[.int .i64 (wayR rows cols top bottom o r c way 0).1, .int .i64 (wayR rows cols top bottom o r c way 0).2, .bool false] _
    rw [Hz.out]
    exact (by first | with_reducible assumption | (apply Box.as; (focus (repeat (first | with_reducible assumption | (with_reducible apply Box.new; simp; done) | with_reducible apply Box.gw | with_reducible apply Box.drew | with_reducible apply Box.alloc | with_reducible apply Box.set | (with_reducible apply Box.set_other; rotate_left; focus omega)))); rfl))
  case round =>
    obtain ⟨k, hk, hkn, rfl, hbl, hA, hC, hO⟩ := hrel
    have hin := way_in rows cols top bottom o r c way k hv (by omega) hw
    have hs := step_way rows cols top bottom o r c way k hv (by omega) hw
    have Hs : Hid (stepR rows cols top bottom (wayR rows cols top bottom o r c way k).1 (wayR rows cols top bottom o r c way k).2 way = wayR rows cols top bottom o r c way ((k + 1 : Nat) : Int)) := hs
    clear hs
    have a1 := hA.cell
    have a2 := hA.lt
    have c1 := hC.cell
    have c2 := hC.free
    have c3 := hC.lt
    have o1 := hO.cell
    have o2 := hO.free
    have o3 := hO.row
    have o4 := hO.lt
    by_cases hlt : (k : Int) < n ∧ (k : Int) < 1000
    · obtain ⟨l1, l2⟩ := hlt
      go_wp2_with (go_at_call 21; refine (step_any _ _ _ _ _ _ _ _ _ _ (by omega)).mono ?_; rintro e w1 ⟨rfl, hb⟩; (first | obtain ⟨X, rfl⟩ := GW.of2 hb | obtain ⟨X, rfl⟩ := GW.of hb); clear hb)
      go_roundw
      case rel =>
        refine ⟨k + 1, by omega, by omega, by go_num, (by repeat (first | with_reducible exact Below.refl _ _ | with_reducible assumption | with_reducible exact GW.grow _ | with_reducible refine bl_alloc ?_ _ | with_reducible refine Below.drew ?_ | (with_reducible refine Below.setCell ?_ ?_ _; rotate_left; focus (simp; first | done | omega)) | with_reducible refine bl_trans ?_ (GW.grow _) | (with_reducible refine bl_trans ?_ (by assumption)))), (by first | with_reducible assumption | (apply Box.as; (focus (repeat (first | with_reducible assumption | (with_reducible apply Box.new; simp; done) | with_reducible apply Box.gw | with_reducible apply Box.drew | with_reducible apply Box.alloc | with_reducible apply Box.set | (with_reducible apply Box.set_other; rotate_left; focus omega)))); rfl)), ?_, (by first | with_reducible assumption | (apply Box.as; (focus (repeat (first | with_reducible assumption | (with_reducible apply Box.new; simp; done) | with_reducible apply Box.gw | with_reducible apply Box.drew | with_reducible apply Box.alloc | with_reducible apply Box.set | (with_reducible apply Box.set_other; rotate_left; focus omega)))); rfl))⟩
        rw [← Hs.out]
        exact (by first | with_reducible assumption | (apply Box.as; (focus (repeat (first | with_reducible assumption | (with_reducible apply Box.new; simp; done) | with_reducible apply Box.gw | with_reducible apply Box.drew | with_reducible apply Box.alloc | with_reducible apply Box.set | (with_reducible apply Box.set_other; rotate_left; focus omega)))); rfl))
      case measure => simp [intOf]; omega
    · have : ∃ m : Int, k = m ∧ wayR rows cols top bottom o r c way m = wayR rows cols top bottom o r c way n := by
        by_cases h2 : (k : Int) = n
        · exact ⟨n, h2, rfl⟩
        · exact ⟨1000, by omega, way_far rows cols top bottom o r c way n hv (by omega) hw⟩
      obtain ⟨m, hm, hmn⟩ := this
      have Hm : Hid (wayR rows cols top bottom o r c way k = wayR rows cols top bottom o r c way n) := by rw [hm]; exact hmn
      clear hm hmn
      by_cases l1 : (k : Int) < n
      · have l2 : ¬ (k : Int) < 1000 := by omega
        clear hlt hk hkn hn Hs hin Hz h hv hw
        go_wp2_with fail
        refine ret_row (n := 3) rfl rfl Try.underlying27 rfl (by kernel_rfl) rfl ⟨_, by simp (maxDischargeDepth := 6) [go_sem, o3] <;> rfl, rfl, ?_⟩
        exact ⟨by rw [Hm.out], (by repeat (first | with_reducible exact Below.refl _ _ | with_reducible assumption | with_reducible exact GW.grow _ | with_reducible refine bl_alloc ?_ _ | with_reducible refine Below.drew ?_ | (with_reducible refine Below.setCell ?_ ?_ _; rotate_left; focus (simp; first | done | omega)) | with_reducible refine bl_trans ?_ (GW.grow _) | (with_reducible refine bl_trans ?_ (by assumption))))⟩
      · clear hlt hk hkn hn Hs hin Hz h hv hw
        go_wp2_with fail
        refine ret_row (n := 3) rfl rfl Try.underlying27 rfl (by kernel_rfl) rfl ⟨_, by simp (maxDischargeDepth := 6) [go_sem, o3] <;> rfl, rfl, ?_⟩
        exact ⟨by rw [Hm.out], (by repeat (first | with_reducible exact Below.refl _ _ | with_reducible assumption | with_reducible exact GW.grow _ | with_reducible refine bl_alloc ?_ _ | with_reducible refine Below.drew ?_ | (with_reducible refine Below.setCell ?_ ?_ _; rotate_left; focus (simp; first | done | omega)) | with_reducible refine bl_trans ?_ (GW.grow _) | (with_reducible refine bl_trans ?_ (by assumption))))⟩

end Go.Proofs.Ytfcogdpkelcfbaa
