/- MotionTours returns true for every area and every list of ways, and changes nothing that was there. No condition. -/
import Derived.Test.YtfcogdpkelcfbaaPlaces
namespace Go.Proofs.Ytfcogdpkelcfbaa
open Go.ChangeShapes Go.WideShapes Go.ChangeAt Go.RowKit

theorem valid_in {rows cols top bottom r c : Int} (hR : rightB rows cols top bottom = true) (h : 0 ≤ r ∧ r < rows ∧ 0 ≤ c ∧ c < cols) : validB rows cols top bottom r c false = true := by
  simp [validB, hR, h]

set_option maxRecDepth 100000 in
set_option maxHeartbeats 8000000 in
theorem motionTours_some (rows cols top bottom : Int) (o : Bool) (b off cap : Nat) (xs : List (Int × Int)) (w : World) (hb : b < w.heap.size)
    (hc : ∀ i x, xs[i]? = some x → w.cell? ⟨b, off + i * 2, none⟩ = some (.int .i64 x.1) ∧ w.cell? ⟨b, off + i * 2 + 1, none⟩ = some (.int .i64 x.2)) (hl : xs.length ≤ 40) (hR : rightB rows cols top bottom = true) :
    Calls Try.prog 5 #[.agg #[.int .i64 rows, .int .i64 cols, .int .i64 top, .int .i64 bottom, .bool o], .slice (some ⟨b, off, none⟩) xs.length cap] w fun e w' => e = .returned (.bool true) ∧ Below w.heap.size w w' := by
  have hr := right_facts hR
  have e1 : IntKind.i64.wrap (cols - 1) = cols - 1 := IntWalk.i64_in _ (by omega)
  go_enter Try.func5, Try.ntmps5
  go_wp2_with (go_at_call 13; refine (rightRef_true _ _ _ _ _ _ hR).mono ?_; rintro e w1 ⟨rfl, hb⟩; (first | obtain ⟨X, rfl⟩ := GW.of2 hb | obtain ⟨X, rfl⟩ := GW.of hb); clear hb)
  rename GW _ => X0
  have hX := X0.grow.size
  simp only [World.size_alloc] at hX
  go_loopw [6] (fun i wr => ∃ (k : Nat) (r c : Int), k ≤ xs.length ∧ i = .int .i64 k ∧ validB rows cols top bottom r c false = true ∧ Below w.heap.size w wr ∧ Box wr w.heap.size #[.int .i64 rows, .int .i64 cols, .int .i64 top, .int .i64 bottom, .bool o] 25 ∧
      Box wr X0.world.heap.size #[.int .i64 r, .int .i64 c, .bool false] 27) (fun i _ => (xs.length - intOf i).toNat)
  case atStart => exact ⟨0, 0, 0, by omega, rfl, valid_in hR (by omega), (by repeat (first | with_reducible exact Below.refl _ _ | with_reducible assumption | with_reducible exact GW.grow _ | with_reducible refine bl_alloc ?_ _ | with_reducible refine Below.drew ?_ | (with_reducible refine Below.setCell ?_ ?_ _; rotate_left; focus (simp; first | done | omega)) | with_reducible refine bl_trans ?_ (GW.grow _) | (with_reducible refine bl_trans ?_ (by assumption)))), (by first | with_reducible assumption | (apply Box.as; (focus (repeat (first | with_reducible assumption | (with_reducible apply Box.new; simp; done) | with_reducible apply Box.gw | with_reducible apply Box.drew | with_reducible apply Box.alloc | with_reducible apply Box.set | (with_reducible apply Box.set_other; rotate_left; focus omega)))); rfl)), (by first | with_reducible assumption | (apply Box.as; (focus (repeat (first | with_reducible assumption | (with_reducible apply Box.new; simp; done) | with_reducible apply Box.gw | with_reducible apply Box.drew | with_reducible apply Box.alloc | with_reducible apply Box.set | (with_reducible apply Box.set_other; rotate_left; focus omega)))); rfl))⟩
  case round =>
    obtain ⟨k, r, c, hk, rfl, h, hbl, hA, hC⟩ := hrel
    have a1 := hA.cell
    have a2 := hA.lt
    have c1 := hC.cell
    have c2 := hC.free
    have c3 := hC.lt
    by_cases hlt : k < xs.length
    · obtain ⟨⟨x1, x2⟩, hx⟩ : ∃ x, xs[k]? = some x := ⟨_, List.getElem?_eq_getElem hlt⟩
      obtain ⟨q1, q2⟩ := hc k _ hx
      simp only at q1 q2
      clear hx
      have hv := valid_facts h
      have w1 : wr.cell? ⟨b, off + k * 2, none⟩ = some (.int .i64 x1) := by rw [hbl.cell (p := ⟨b, _, none⟩) hb]; exact q1
      have w2 : wr.cell? ⟨b, off + k * 2 + 1, none⟩ = some (.int .i64 x2) := by rw [hbl.cell (p := ⟨b, _, none⟩) hb]; exact q2
      have w3 : b < wr.heap.size := Nat.lt_of_lt_of_le hb hbl.size
      by_cases k1 : x1 < 0
      · clear q1 q2 hv
        go_wp2_with fail
        go_roundw
        case rel => first | exact ⟨k + 1, r, c, by omega, by go_num, h, (by repeat (first | with_reducible exact Below.refl _ _ | with_reducible assumption | with_reducible exact GW.grow _ | with_reducible refine bl_alloc ?_ _ | with_reducible refine Below.drew ?_ | (with_reducible refine Below.setCell ?_ ?_ _; rotate_left; focus (simp; first | done | omega)) | with_reducible refine bl_trans ?_ (GW.grow _) | (with_reducible refine bl_trans ?_ (by assumption)))), (by first | with_reducible assumption | (apply Box.as; (focus (repeat (first | with_reducible assumption | (with_reducible apply Box.new; simp; done) | with_reducible apply Box.gw | with_reducible apply Box.drew | with_reducible apply Box.alloc | with_reducible apply Box.set | (with_reducible apply Box.set_other; rotate_left; focus omega)))); rfl)), (by first | with_reducible assumption | (apply Box.as; (focus (repeat (first | with_reducible assumption | (with_reducible apply Box.new; simp; done) | with_reducible apply Box.gw | with_reducible apply Box.drew | with_reducible apply Box.alloc | with_reducible apply Box.set | (with_reducible apply Box.set_other; rotate_left; focus omega)))); rfl))⟩ | ((repeat apply Exists.intro); exact ⟨⟨k + 1, r, c, by omega, by go_num, h, (by repeat (first | with_reducible exact Below.refl _ _ | with_reducible assumption | with_reducible exact GW.grow _ | with_reducible refine bl_alloc ?_ _ | with_reducible refine Below.drew ?_ | (with_reducible refine Below.setCell ?_ ?_ _; rotate_left; focus (simp; first | done | omega)) | with_reducible refine bl_trans ?_ (GW.grow _) | (with_reducible refine bl_trans ?_ (by assumption)))), (by first | with_reducible assumption | (apply Box.as; (focus (repeat (first | with_reducible assumption | (with_reducible apply Box.new; simp; done) | with_reducible apply Box.gw | with_reducible apply Box.drew | with_reducible apply Box.alloc | with_reducible apply Box.set | (with_reducible apply Box.set_other; rotate_left; focus omega)))); rfl)), (by first | with_reducible assumption | (apply Box.as; (focus (repeat (first | with_reducible assumption | (with_reducible apply Box.new; simp; done) | with_reducible apply Box.gw | with_reducible apply Box.drew | with_reducible apply Box.alloc | with_reducible apply Box.set | (with_reducible apply Box.set_other; rotate_left; focus omega)))); rfl))⟩, rfl⟩)
        case measure => simp [intOf]; omega
      by_cases k2 : 6 < x1
      · clear q1 q2 hv
        go_wp2_with fail
        go_roundw
        case rel => first | exact ⟨k + 1, r, c, by omega, by go_num, h, (by repeat (first | with_reducible exact Below.refl _ _ | with_reducible assumption | with_reducible exact GW.grow _ | with_reducible refine bl_alloc ?_ _ | with_reducible refine Below.drew ?_ | (with_reducible refine Below.setCell ?_ ?_ _; rotate_left; focus (simp; first | done | omega)) | with_reducible refine bl_trans ?_ (GW.grow _) | (with_reducible refine bl_trans ?_ (by assumption)))), (by first | with_reducible assumption | (apply Box.as; (focus (repeat (first | with_reducible assumption | (with_reducible apply Box.new; simp; done) | with_reducible apply Box.gw | with_reducible apply Box.drew | with_reducible apply Box.alloc | with_reducible apply Box.set | (with_reducible apply Box.set_other; rotate_left; focus omega)))); rfl)), (by first | with_reducible assumption | (apply Box.as; (focus (repeat (first | with_reducible assumption | (with_reducible apply Box.new; simp; done) | with_reducible apply Box.gw | with_reducible apply Box.drew | with_reducible apply Box.alloc | with_reducible apply Box.set | (with_reducible apply Box.set_other; rotate_left; focus omega)))); rfl))⟩ | ((repeat apply Exists.intro); exact ⟨⟨k + 1, r, c, by omega, by go_num, h, (by repeat (first | with_reducible exact Below.refl _ _ | with_reducible assumption | with_reducible exact GW.grow _ | with_reducible refine bl_alloc ?_ _ | with_reducible refine Below.drew ?_ | (with_reducible refine Below.setCell ?_ ?_ _; rotate_left; focus (simp; first | done | omega)) | with_reducible refine bl_trans ?_ (GW.grow _) | (with_reducible refine bl_trans ?_ (by assumption)))), (by first | with_reducible assumption | (apply Box.as; (focus (repeat (first | with_reducible assumption | (with_reducible apply Box.new; simp; done) | with_reducible apply Box.gw | with_reducible apply Box.drew | with_reducible apply Box.alloc | with_reducible apply Box.set | (with_reducible apply Box.set_other; rotate_left; focus omega)))); rfl)), (by first | with_reducible assumption | (apply Box.as; (focus (repeat (first | with_reducible assumption | (with_reducible apply Box.new; simp; done) | with_reducible apply Box.gw | with_reducible apply Box.drew | with_reducible apply Box.alloc | with_reducible apply Box.set | (with_reducible apply Box.set_other; rotate_left; focus omega)))); rfl))⟩, rfl⟩)
        case measure => simp [intOf]; omega
      by_cases k3 : x1 ≤ 3 ∧ x2 < 0
      · obtain ⟨k3, k4⟩ := k3
        go_wp2_with fail
        refine wp_name (fun W => Below w.heap.size w W ∧ Box W w.heap.size #[.int .i64 rows, .int .i64 cols, .int .i64 top, .int .i64 bottom, .bool o] 25 ∧ Box W X0.world.heap.size #[.int .i64 r, .int .i64 c, .bool false] 27 ∧ Box W wr.heap.size #[.int .i64 0, .int .i64 0, .bool false] 27) ⟨(by repeat (first | with_reducible exact Below.refl _ _ | with_reducible assumption | with_reducible exact GW.grow _ | with_reducible refine bl_alloc ?_ _ | with_reducible refine Below.drew ?_ | (with_reducible refine Below.setCell ?_ ?_ _; rotate_left; focus (simp; first | done | omega)) | with_reducible refine bl_trans ?_ (GW.grow _) | (with_reducible refine bl_trans ?_ (by assumption)))), (by first | with_reducible assumption | (apply Box.as; (focus (repeat (first | with_reducible assumption | (with_reducible apply Box.new; simp; done) | with_reducible apply Box.gw | with_reducible apply Box.drew | with_reducible apply Box.alloc | with_reducible apply Box.set | (with_reducible apply Box.set_other; rotate_left; focus omega)))); rfl)), (by first | with_reducible assumption | (apply Box.as; (focus (repeat (first | with_reducible assumption | (with_reducible apply Box.new; simp; done) | with_reducible apply Box.gw | with_reducible apply Box.drew | with_reducible apply Box.alloc | with_reducible apply Box.set | (with_reducible apply Box.set_other; rotate_left; focus omega)))); rfl)), (by first | with_reducible assumption | (apply Box.as; (focus (repeat (first | with_reducible assumption | (with_reducible apply Box.new; simp; done) | with_reducible apply Box.gw | with_reducible apply Box.drew | with_reducible apply Box.alloc | with_reducible apply Box.set | (with_reducible apply Box.set_other; rotate_left; focus omega)))); rfl))⟩ ?_
        have hRC : X0.world.heap.size ≠ wr.heap.size := by omega
        clear hbl hA hC a1 a2 c1 c2 c3 w1 w2 w3
        rintro W ⟨hbl, hA, hC, hN⟩
        have a1 := hA.cell
        have a2 := hA.lt
        have c1 := hC.cell
        have c2 := hC.free
        have c3 := hC.lt
        have n1 := hN.cell
        have n2 := hN.lt
        have w1 : W.cell? ⟨b, off + k * 2, none⟩ = some (.int .i64 x1) := by rw [hbl.cell (p := ⟨b, _, none⟩) hb]; exact q1
        have w2 : W.cell? ⟨b, off + k * 2 + 1, none⟩ = some (.int .i64 x2) := by rw [hbl.cell (p := ⟨b, _, none⟩) hb]; exact q2
        have w3 : b < W.heap.size := Nat.lt_of_lt_of_le hb hbl.size
        have F : wentB rows cols top bottom o r c false x1 x2 0 0 false 2 = true := by
          unfold wentB; rw [if_neg (by rintro ⟨_, h⟩; omega)]; rfl
        have V := h
        first | refine wp_grow2 (by kernel_rfl) (by kernel_rfl) ?_ | refine wp_grow (by kernel_rfl) (by kernel_rfl) ?_
        repeat (go_big_quiet_step ((go_at_call 10; exact GW.call (went_true _ _ _ _ _ _ _ _ _ _ _ _ _ _ _ F))))
        refine wpQuiet_nil ?_
        rintro _ ⟨X, rfl⟩
        go_wp2_with fail
        go_roundw
        case rel => first | exact ⟨k + 1, r, c, by omega, by go_num, V, (by repeat (first | with_reducible exact Below.refl _ _ | with_reducible assumption | with_reducible exact GW.grow _ | with_reducible refine bl_alloc ?_ _ | with_reducible refine Below.drew ?_ | (with_reducible refine Below.setCell ?_ ?_ _; rotate_left; focus (simp; first | done | omega)) | with_reducible refine bl_trans ?_ (GW.grow _) | (with_reducible refine bl_trans ?_ (by assumption)))), (by first | with_reducible assumption | (apply Box.as; (focus (repeat (first | with_reducible assumption | (with_reducible apply Box.new; simp; done) | with_reducible apply Box.gw | with_reducible apply Box.drew | with_reducible apply Box.alloc | with_reducible apply Box.set | (with_reducible apply Box.set_other; rotate_left; focus omega)))); rfl)), (by first | with_reducible assumption | (apply Box.as; (focus (repeat (first | with_reducible assumption | (with_reducible apply Box.new; simp; done) | with_reducible apply Box.gw | with_reducible apply Box.drew | with_reducible apply Box.alloc | with_reducible apply Box.set | (with_reducible apply Box.set_other; rotate_left; focus omega)))); rfl))⟩ | ((repeat apply Exists.intro); exact ⟨⟨k + 1, r, c, by omega, by go_num, V, (by repeat (first | with_reducible exact Below.refl _ _ | with_reducible assumption | with_reducible exact GW.grow _ | with_reducible refine bl_alloc ?_ _ | with_reducible refine Below.drew ?_ | (with_reducible refine Below.setCell ?_ ?_ _; rotate_left; focus (simp; first | done | omega)) | with_reducible refine bl_trans ?_ (GW.grow _) | (with_reducible refine bl_trans ?_ (by assumption)))), (by first | with_reducible assumption | (apply Box.as; (focus (repeat (first | with_reducible assumption | (with_reducible apply Box.new; simp; done) | with_reducible apply Box.gw | with_reducible apply Box.drew | with_reducible apply Box.alloc | with_reducible apply Box.set | (with_reducible apply Box.set_other; rotate_left; focus omega)))); rfl)), (by first | with_reducible assumption | (apply Box.as; (focus (repeat (first | with_reducible assumption | (with_reducible apply Box.new; simp; done) | with_reducible apply Box.gw | with_reducible apply Box.drew | with_reducible apply Box.alloc | with_reducible apply Box.set | (with_reducible apply Box.set_other; rotate_left; focus omega)))); rfl))⟩, rfl⟩)
        case measure => simp [intOf]; omega
      by_cases k4 : x1 ≤ 3
      · have k5 : 0 ≤ x2 := by omega
        clear k3
        go_wp2_with fail
        have hin := way_in rows cols top bottom o r c x1 x2 hv (by omega) (by omega)
        first | refine wp_grow_tail2 9 (by kernel_rfl) (by kernel_rfl) ?_ | refine wp_grow_tail 9 (by kernel_rfl) (by kernel_rfl) ?_
        simp only [List.take_succ_cons, List.take_zero, List.drop_succ_cons, List.drop_zero]
        repeat (go_big_quiet_step ((go_at_call 11; exact GW.call (ways_any _ _ _ _ _ _ _ _ _ _ _ h k5 (by omega)))))
        refine wpQuiet_nil ?_
        rintro _ ⟨X, rfl⟩
        clear hin
        go_wp2_with fail
        refine wp_name (fun W => Below w.heap.size w W ∧ Box W w.heap.size #[.int .i64 rows, .int .i64 cols, .int .i64 top, .int .i64 bottom, .bool o] 25 ∧ Box W X0.world.heap.size #[.int .i64 r, .int .i64 c, .bool false] 27 ∧ Box W wr.heap.size #[.int .i64 (wayR rows cols top bottom o r c x1 x2).1, .int .i64 (wayR rows cols top bottom o r c x1 x2).2, .bool false] 27) ⟨(by repeat (first | with_reducible exact Below.refl _ _ | with_reducible assumption | with_reducible exact GW.grow _ | with_reducible refine bl_alloc ?_ _ | with_reducible refine Below.drew ?_ | (with_reducible refine Below.setCell ?_ ?_ _; rotate_left; focus (simp; first | done | omega)) | with_reducible refine bl_trans ?_ (GW.grow _) | (with_reducible refine bl_trans ?_ (by assumption)))), (by first | with_reducible assumption | (apply Box.as; (focus (repeat (first | with_reducible assumption | (with_reducible apply Box.new; simp; done) | with_reducible apply Box.gw | with_reducible apply Box.drew | with_reducible apply Box.alloc | with_reducible apply Box.set | (with_reducible apply Box.set_other; rotate_left; focus omega)))); rfl)), (by first | with_reducible assumption | (apply Box.as; (focus (repeat (first | with_reducible assumption | (with_reducible apply Box.new; simp; done) | with_reducible apply Box.gw | with_reducible apply Box.drew | with_reducible apply Box.alloc | with_reducible apply Box.set | (with_reducible apply Box.set_other; rotate_left; focus omega)))); rfl)), (by first | with_reducible assumption | (apply Box.as; (focus (repeat (first | with_reducible assumption | (with_reducible apply Box.new; simp; done) | with_reducible apply Box.gw | with_reducible apply Box.drew | with_reducible apply Box.alloc | with_reducible apply Box.set | (with_reducible apply Box.set_other; rotate_left; focus omega)))); rfl))⟩ ?_
        have hRC : X0.world.heap.size ≠ wr.heap.size := by omega
        clear hbl hA hC a1 a2 c1 c2 c3 w1 w2 w3
        rintro W ⟨hbl, hA, hC, hN⟩
        have a1 := hA.cell
        have a2 := hA.lt
        have c1 := hC.cell
        have c2 := hC.free
        have c3 := hC.lt
        have n1 := hN.cell
        have n2 := hN.lt
        have w1 : W.cell? ⟨b, off + k * 2, none⟩ = some (.int .i64 x1) := by rw [hbl.cell (p := ⟨b, _, none⟩) hb]; exact q1
        have w2 : W.cell? ⟨b, off + k * 2 + 1, none⟩ = some (.int .i64 x2) := by rw [hbl.cell (p := ⟨b, _, none⟩) hb]; exact q2
        have w3 : b < W.heap.size := Nat.lt_of_lt_of_le hb hbl.size
        have F : wentB rows cols top bottom o r c false x1 x2 (wayR rows cols top bottom o r c x1 x2).1 (wayR rows cols top bottom o r c x1 x2).2 false 0 = true := by
          unfold wentB; rw [if_pos ⟨h, .inl k5⟩]; simp [isB]
        have V := valid_in hR (way_in rows cols top bottom o r c x1 x2 hv (by omega) (by omega))
        first | refine wp_grow2 (by kernel_rfl) (by kernel_rfl) ?_ | refine wp_grow (by kernel_rfl) (by kernel_rfl) ?_
        repeat (go_big_quiet_step ((go_at_call 10; exact GW.call (went_true _ _ _ _ _ _ _ _ _ _ _ _ _ _ _ F))))
        refine wpQuiet_nil ?_
        rintro _ ⟨X, rfl⟩
        go_wp2_with fail
        go_roundw
        case rel => first | exact ⟨k + 1, _, _, by omega, by go_num, V, (by repeat (first | with_reducible exact Below.refl _ _ | with_reducible assumption | with_reducible exact GW.grow _ | with_reducible refine bl_alloc ?_ _ | with_reducible refine Below.drew ?_ | (with_reducible refine Below.setCell ?_ ?_ _; rotate_left; focus (simp; first | done | omega)) | with_reducible refine bl_trans ?_ (GW.grow _) | (with_reducible refine bl_trans ?_ (by assumption)))), (by first | with_reducible assumption | (apply Box.as; (focus (repeat (first | with_reducible assumption | (with_reducible apply Box.new; simp; done) | with_reducible apply Box.gw | with_reducible apply Box.drew | with_reducible apply Box.alloc | with_reducible apply Box.set | (with_reducible apply Box.set_other; rotate_left; focus omega)))); rfl)), (by first | with_reducible assumption | (apply Box.as; (focus (repeat (first | with_reducible assumption | (with_reducible apply Box.new; simp; done) | with_reducible apply Box.gw | with_reducible apply Box.drew | with_reducible apply Box.alloc | with_reducible apply Box.set | (with_reducible apply Box.set_other; rotate_left; focus omega)))); rfl))⟩ | ((repeat apply Exists.intro); exact ⟨⟨k + 1, _, _, by omega, by go_num, V, (by repeat (first | with_reducible exact Below.refl _ _ | with_reducible assumption | with_reducible exact GW.grow _ | with_reducible refine bl_alloc ?_ _ | with_reducible refine Below.drew ?_ | (with_reducible refine Below.setCell ?_ ?_ _; rotate_left; focus (simp; first | done | omega)) | with_reducible refine bl_trans ?_ (GW.grow _) | (with_reducible refine bl_trans ?_ (by assumption)))), (by first | with_reducible assumption | (apply Box.as; (focus (repeat (first | with_reducible assumption | (with_reducible apply Box.new; simp; done) | with_reducible apply Box.gw | with_reducible apply Box.drew | with_reducible apply Box.alloc | with_reducible apply Box.set | (with_reducible apply Box.set_other; rotate_left; focus omega)))); rfl)), (by first | with_reducible assumption | (apply Box.as; (focus (repeat (first | with_reducible assumption | (with_reducible apply Box.new; simp; done) | with_reducible apply Box.gw | with_reducible apply Box.drew | with_reducible apply Box.alloc | with_reducible apply Box.set | (with_reducible apply Box.set_other; rotate_left; focus omega)))); rfl))⟩, rfl⟩)
        case measure => simp [intOf]; omega
      by_cases k6 : x1 = 4
      · subst k6
        clear k3
        go_wp2_with fail
        first | refine wp_grow_tail2 8 (by kernel_rfl) (by kernel_rfl) ?_ | refine wp_grow_tail 8 (by kernel_rfl) (by kernel_rfl) ?_
        simp only [List.take_succ_cons, List.take_zero, List.drop_succ_cons, List.drop_zero]
        repeat (go_big_quiet_step (first | (go_at_call 17; exact GW.call (nearRef_bl _ _ _ (by omega) _)) | (go_at_call 18; exact GW.call (at_any _ _ _))))
        refine wpQuiet_nil ?_
        rintro _ ⟨X, rfl⟩
        go_wp2_with fail
        refine wp_name (fun W => Below w.heap.size w W ∧ Box W w.heap.size #[.int .i64 rows, .int .i64 cols, .int .i64 top, .int .i64 bottom, .bool o] 25 ∧ Box W X0.world.heap.size #[.int .i64 r, .int .i64 c, .bool false] 27 ∧ Box W wr.heap.size #[.int .i64 r, .int .i64 (near x2 0 (cols - 1)), .bool false] 27) ⟨(by repeat (first | with_reducible exact Below.refl _ _ | with_reducible assumption | with_reducible exact GW.grow _ | with_reducible refine bl_alloc ?_ _ | with_reducible refine Below.drew ?_ | (with_reducible refine Below.setCell ?_ ?_ _; rotate_left; focus (simp; first | done | omega)) | with_reducible refine bl_trans ?_ (GW.grow _) | (with_reducible refine bl_trans ?_ (by assumption)))), (by first | with_reducible assumption | (apply Box.as; (focus (repeat (first | with_reducible assumption | (with_reducible apply Box.new; simp; done) | with_reducible apply Box.gw | with_reducible apply Box.drew | with_reducible apply Box.alloc | with_reducible apply Box.set | (with_reducible apply Box.set_other; rotate_left; focus omega)))); rfl)), (by first | with_reducible assumption | (apply Box.as; (focus (repeat (first | with_reducible assumption | (with_reducible apply Box.new; simp; done) | with_reducible apply Box.gw | with_reducible apply Box.drew | with_reducible apply Box.alloc | with_reducible apply Box.set | (with_reducible apply Box.set_other; rotate_left; focus omega)))); rfl)), (by first | with_reducible assumption | (apply Box.as; (focus (repeat (first | with_reducible assumption | (with_reducible apply Box.new; simp; done) | with_reducible apply Box.gw | with_reducible apply Box.drew | with_reducible apply Box.alloc | with_reducible apply Box.set | (with_reducible apply Box.set_other; rotate_left; focus omega)))); rfl))⟩ ?_
        have hRC : X0.world.heap.size ≠ wr.heap.size := by omega
        clear hbl hA hC a1 a2 c1 c2 c3 w1 w2 w3
        rintro W ⟨hbl, hA, hC, hN⟩
        have a1 := hA.cell
        have a2 := hA.lt
        have c1 := hC.cell
        have c2 := hC.free
        have c3 := hC.lt
        have n1 := hN.cell
        have n2 := hN.lt
        have w1 : W.cell? ⟨b, off + k * 2, none⟩ = some (.int .i64 4) := by rw [hbl.cell (p := ⟨b, _, none⟩) hb]; exact q1
        have w2 : W.cell? ⟨b, off + k * 2 + 1, none⟩ = some (.int .i64 x2) := by rw [hbl.cell (p := ⟨b, _, none⟩) hb]; exact q2
        have w3 : b < W.heap.size := Nat.lt_of_lt_of_le hb hbl.size
        have F : wentB rows cols top bottom o r c false 4 x2 r (near x2 0 (cols - 1)) false 0 = true := by simp [wentB, wayR, h, isB]
        have V : validB rows cols top bottom r (near x2 0 (cols - 1)) false = true := valid_in hR (by unfold near; omega)
        first | refine wp_grow2 (by kernel_rfl) (by kernel_rfl) ?_ | refine wp_grow (by kernel_rfl) (by kernel_rfl) ?_
        repeat (go_big_quiet_step ((go_at_call 10; exact GW.call (went_true _ _ _ _ _ _ _ _ _ _ _ _ _ _ _ F))))
        refine wpQuiet_nil ?_
        rintro _ ⟨X, rfl⟩
        go_wp2_with fail
        go_roundw
        case rel => first | exact ⟨k + 1, _, _, by omega, by go_num, V, (by repeat (first | with_reducible exact Below.refl _ _ | with_reducible assumption | with_reducible exact GW.grow _ | with_reducible refine bl_alloc ?_ _ | with_reducible refine Below.drew ?_ | (with_reducible refine Below.setCell ?_ ?_ _; rotate_left; focus (simp; first | done | omega)) | with_reducible refine bl_trans ?_ (GW.grow _) | (with_reducible refine bl_trans ?_ (by assumption)))), (by first | with_reducible assumption | (apply Box.as; (focus (repeat (first | with_reducible assumption | (with_reducible apply Box.new; simp; done) | with_reducible apply Box.gw | with_reducible apply Box.drew | with_reducible apply Box.alloc | with_reducible apply Box.set | (with_reducible apply Box.set_other; rotate_left; focus omega)))); rfl)), (by first | with_reducible assumption | (apply Box.as; (focus (repeat (first | with_reducible assumption | (with_reducible apply Box.new; simp; done) | with_reducible apply Box.gw | with_reducible apply Box.drew | with_reducible apply Box.alloc | with_reducible apply Box.set | (with_reducible apply Box.set_other; rotate_left; focus omega)))); rfl))⟩ | ((repeat apply Exists.intro); exact ⟨⟨k + 1, _, _, by omega, by go_num, V, (by repeat (first | with_reducible exact Below.refl _ _ | with_reducible assumption | with_reducible exact GW.grow _ | with_reducible refine bl_alloc ?_ _ | with_reducible refine Below.drew ?_ | (with_reducible refine Below.setCell ?_ ?_ _; rotate_left; focus (simp; first | done | omega)) | with_reducible refine bl_trans ?_ (GW.grow _) | (with_reducible refine bl_trans ?_ (by assumption)))), (by first | with_reducible assumption | (apply Box.as; (focus (repeat (first | with_reducible assumption | (with_reducible apply Box.new; simp; done) | with_reducible apply Box.gw | with_reducible apply Box.drew | with_reducible apply Box.alloc | with_reducible apply Box.set | (with_reducible apply Box.set_other; rotate_left; focus omega)))); rfl)), (by first | with_reducible assumption | (apply Box.as; (focus (repeat (first | with_reducible assumption | (with_reducible apply Box.new; simp; done) | with_reducible apply Box.gw | with_reducible apply Box.drew | with_reducible apply Box.alloc | with_reducible apply Box.set | (with_reducible apply Box.set_other; rotate_left; focus omega)))); rfl))⟩, rfl⟩)
        case measure => simp [intOf]; omega
      by_cases k7 : x1 = 5
      · subst k7
        clear k3
        go_wp2_with fail
        first | refine wp_grow_tail2 6 (by kernel_rfl) (by kernel_rfl) ?_ | refine wp_grow_tail 6 (by kernel_rfl) (by kernel_rfl) ?_
        simp only [List.take_succ_cons, List.take_zero, List.drop_succ_cons, List.drop_zero]
        repeat (go_big_quiet_step (first | (go_at_call 16; exact GW.call (rowRef_any _ _ _ _ _ _ _ hR)) | (go_at_call 18; exact GW.call (at_any _ _ _))))
        refine wpQuiet_nil ?_
        rintro _ ⟨X, rfl⟩
        go_wp2_with fail
        refine wp_name (fun W => Below w.heap.size w W ∧ Box W w.heap.size #[.int .i64 rows, .int .i64 cols, .int .i64 top, .int .i64 bottom, .bool o] 25 ∧ Box W X0.world.heap.size #[.int .i64 r, .int .i64 c, .bool false] 27 ∧ Box W wr.heap.size #[.int .i64 (rowOf rows top bottom o x2), .int .i64 c, .bool false] 27) ⟨(by repeat (first | with_reducible exact Below.refl _ _ | with_reducible assumption | with_reducible exact GW.grow _ | with_reducible refine bl_alloc ?_ _ | with_reducible refine Below.drew ?_ | (with_reducible refine Below.setCell ?_ ?_ _; rotate_left; focus (simp; first | done | omega)) | with_reducible refine bl_trans ?_ (GW.grow _) | (with_reducible refine bl_trans ?_ (by assumption)))), (by first | with_reducible assumption | (apply Box.as; (focus (repeat (first | with_reducible assumption | (with_reducible apply Box.new; simp; done) | with_reducible apply Box.gw | with_reducible apply Box.drew | with_reducible apply Box.alloc | with_reducible apply Box.set | (with_reducible apply Box.set_other; rotate_left; focus omega)))); rfl)), (by first | with_reducible assumption | (apply Box.as; (focus (repeat (first | with_reducible assumption | (with_reducible apply Box.new; simp; done) | with_reducible apply Box.gw | with_reducible apply Box.drew | with_reducible apply Box.alloc | with_reducible apply Box.set | (with_reducible apply Box.set_other; rotate_left; focus omega)))); rfl)), (by first | with_reducible assumption | (apply Box.as; (focus (repeat (first | with_reducible assumption | (with_reducible apply Box.new; simp; done) | with_reducible apply Box.gw | with_reducible apply Box.drew | with_reducible apply Box.alloc | with_reducible apply Box.set | (with_reducible apply Box.set_other; rotate_left; focus omega)))); rfl))⟩ ?_
        have hRC : X0.world.heap.size ≠ wr.heap.size := by omega
        clear hbl hA hC a1 a2 c1 c2 c3 w1 w2 w3
        rintro W ⟨hbl, hA, hC, hN⟩
        have a1 := hA.cell
        have a2 := hA.lt
        have c1 := hC.cell
        have c2 := hC.free
        have c3 := hC.lt
        have n1 := hN.cell
        have n2 := hN.lt
        have w1 : W.cell? ⟨b, off + k * 2, none⟩ = some (.int .i64 5) := by rw [hbl.cell (p := ⟨b, _, none⟩) hb]; exact q1
        have w2 : W.cell? ⟨b, off + k * 2 + 1, none⟩ = some (.int .i64 x2) := by rw [hbl.cell (p := ⟨b, _, none⟩) hb]; exact q2
        have w3 : b < W.heap.size := Nat.lt_of_lt_of_le hb hbl.size
        have F : wentB rows cols top bottom o r c false 5 x2 (rowOf rows top bottom o x2) c false 0 = true := by simp [wentB, wayR, h, isB]
        have V : validB rows cols top bottom (rowOf rows top bottom o x2) c false = true := valid_in hR (by unfold rowOf near; split <;> omega)
        first | refine wp_grow2 (by kernel_rfl) (by kernel_rfl) ?_ | refine wp_grow (by kernel_rfl) (by kernel_rfl) ?_
        repeat (go_big_quiet_step ((go_at_call 10; exact GW.call (went_true _ _ _ _ _ _ _ _ _ _ _ _ _ _ _ F))))
        refine wpQuiet_nil ?_
        rintro _ ⟨X, rfl⟩
        go_wp2_with fail
        go_roundw
        case rel => first | exact ⟨k + 1, _, _, by omega, by go_num, V, (by repeat (first | with_reducible exact Below.refl _ _ | with_reducible assumption | with_reducible exact GW.grow _ | with_reducible refine bl_alloc ?_ _ | with_reducible refine Below.drew ?_ | (with_reducible refine Below.setCell ?_ ?_ _; rotate_left; focus (simp; first | done | omega)) | with_reducible refine bl_trans ?_ (GW.grow _) | (with_reducible refine bl_trans ?_ (by assumption)))), (by first | with_reducible assumption | (apply Box.as; (focus (repeat (first | with_reducible assumption | (with_reducible apply Box.new; simp; done) | with_reducible apply Box.gw | with_reducible apply Box.drew | with_reducible apply Box.alloc | with_reducible apply Box.set | (with_reducible apply Box.set_other; rotate_left; focus omega)))); rfl)), (by first | with_reducible assumption | (apply Box.as; (focus (repeat (first | with_reducible assumption | (with_reducible apply Box.new; simp; done) | with_reducible apply Box.gw | with_reducible apply Box.drew | with_reducible apply Box.alloc | with_reducible apply Box.set | (with_reducible apply Box.set_other; rotate_left; focus omega)))); rfl))⟩ | ((repeat apply Exists.intro); exact ⟨⟨k + 1, _, _, by omega, by go_num, V, (by repeat (first | with_reducible exact Below.refl _ _ | with_reducible assumption | with_reducible exact GW.grow _ | with_reducible refine bl_alloc ?_ _ | with_reducible refine Below.drew ?_ | (with_reducible refine Below.setCell ?_ ?_ _; rotate_left; focus (simp; first | done | omega)) | with_reducible refine bl_trans ?_ (GW.grow _) | (with_reducible refine bl_trans ?_ (by assumption)))), (by first | with_reducible assumption | (apply Box.as; (focus (repeat (first | with_reducible assumption | (with_reducible apply Box.new; simp; done) | with_reducible apply Box.gw | with_reducible apply Box.drew | with_reducible apply Box.alloc | with_reducible apply Box.set | (with_reducible apply Box.set_other; rotate_left; focus omega)))); rfl)), (by first | with_reducible assumption | (apply Box.as; (focus (repeat (first | with_reducible assumption | (with_reducible apply Box.new; simp; done) | with_reducible apply Box.gw | with_reducible apply Box.drew | with_reducible apply Box.alloc | with_reducible apply Box.set | (with_reducible apply Box.set_other; rotate_left; focus omega)))); rfl))⟩, rfl⟩)
        case measure => simp [intOf]; omega
      have k8 : x1 = 6 := by omega
      subst k8
      clear k3
      go_wp2_with (go_at_call 18; refine (at_any _ _ _).mono ?_; rintro e w1 ⟨rfl, hb⟩; (first | obtain ⟨X, rfl⟩ := GW.of2 hb | obtain ⟨X, rfl⟩ := GW.of hb); clear hb)
      refine wp_name (fun W => Below w.heap.size w W ∧ Box W w.heap.size #[.int .i64 rows, .int .i64 cols, .int .i64 top, .int .i64 bottom, .bool o] 25 ∧ Box W X0.world.heap.size #[.int .i64 r, .int .i64 c, .bool false] 27 ∧ Box W wr.heap.size #[.int .i64 r, .int .i64 0, .bool false] 27) ⟨(by repeat (first | with_reducible exact Below.refl _ _ | with_reducible assumption | with_reducible exact GW.grow _ | with_reducible refine bl_alloc ?_ _ | with_reducible refine Below.drew ?_ | (with_reducible refine Below.setCell ?_ ?_ _; rotate_left; focus (simp; first | done | omega)) | with_reducible refine bl_trans ?_ (GW.grow _) | (with_reducible refine bl_trans ?_ (by assumption)))), (by first | with_reducible assumption | (apply Box.as; (focus (repeat (first | with_reducible assumption | (with_reducible apply Box.new; simp; done) | with_reducible apply Box.gw | with_reducible apply Box.drew | with_reducible apply Box.alloc | with_reducible apply Box.set | (with_reducible apply Box.set_other; rotate_left; focus omega)))); rfl)), (by first | with_reducible assumption | (apply Box.as; (focus (repeat (first | with_reducible assumption | (with_reducible apply Box.new; simp; done) | with_reducible apply Box.gw | with_reducible apply Box.drew | with_reducible apply Box.alloc | with_reducible apply Box.set | (with_reducible apply Box.set_other; rotate_left; focus omega)))); rfl)), (by first | with_reducible assumption | (apply Box.as; (focus (repeat (first | with_reducible assumption | (with_reducible apply Box.new; simp; done) | with_reducible apply Box.gw | with_reducible apply Box.drew | with_reducible apply Box.alloc | with_reducible apply Box.set | (with_reducible apply Box.set_other; rotate_left; focus omega)))); rfl))⟩ ?_
      have hRC : X0.world.heap.size ≠ wr.heap.size := by omega
      clear hbl hA hC a1 a2 c1 c2 c3 w1 w2 w3
      rintro W ⟨hbl, hA, hC, hN⟩
      have a1 := hA.cell
      have a2 := hA.lt
      have c1 := hC.cell
      have c2 := hC.free
      have c3 := hC.lt
      have n1 := hN.cell
      have n2 := hN.lt
      have w1 : W.cell? ⟨b, off + k * 2, none⟩ = some (.int .i64 6) := by rw [hbl.cell (p := ⟨b, _, none⟩) hb]; exact q1
      have w2 : W.cell? ⟨b, off + k * 2 + 1, none⟩ = some (.int .i64 x2) := by rw [hbl.cell (p := ⟨b, _, none⟩) hb]; exact q2
      have w3 : b < W.heap.size := Nat.lt_of_lt_of_le hb hbl.size
      have F : wentB rows cols top bottom o r c false 6 x2 r 0 false 0 = true := by simp [wentB, wayR, h, isB, near]; omega
      have V : validB rows cols top bottom r 0 false = true := valid_in hR (by omega)
      first | refine wp_grow2 (by kernel_rfl) (by kernel_rfl) ?_ | refine wp_grow (by kernel_rfl) (by kernel_rfl) ?_
      repeat (go_big_quiet_step ((go_at_call 10; exact GW.call (went_true _ _ _ _ _ _ _ _ _ _ _ _ _ _ _ F))))
      refine wpQuiet_nil ?_
      rintro _ ⟨X, rfl⟩
      go_wp2_with fail
      go_roundw
      case rel => first | exact ⟨k + 1, _, _, by omega, by go_num, V, (by repeat (first | with_reducible exact Below.refl _ _ | with_reducible assumption | with_reducible exact GW.grow _ | with_reducible refine bl_alloc ?_ _ | with_reducible refine Below.drew ?_ | (with_reducible refine Below.setCell ?_ ?_ _; rotate_left; focus (simp; first | done | omega)) | with_reducible refine bl_trans ?_ (GW.grow _) | (with_reducible refine bl_trans ?_ (by assumption)))), (by first | with_reducible assumption | (apply Box.as; (focus (repeat (first | with_reducible assumption | (with_reducible apply Box.new; simp; done) | with_reducible apply Box.gw | with_reducible apply Box.drew | with_reducible apply Box.alloc | with_reducible apply Box.set | (with_reducible apply Box.set_other; rotate_left; focus omega)))); rfl)), (by first | with_reducible assumption | (apply Box.as; (focus (repeat (first | with_reducible assumption | (with_reducible apply Box.new; simp; done) | with_reducible apply Box.gw | with_reducible apply Box.drew | with_reducible apply Box.alloc | with_reducible apply Box.set | (with_reducible apply Box.set_other; rotate_left; focus omega)))); rfl))⟩ | ((repeat apply Exists.intro); exact ⟨⟨k + 1, _, _, by omega, by go_num, V, (by repeat (first | with_reducible exact Below.refl _ _ | with_reducible assumption | with_reducible exact GW.grow _ | with_reducible refine bl_alloc ?_ _ | with_reducible refine Below.drew ?_ | (with_reducible refine Below.setCell ?_ ?_ _; rotate_left; focus (simp; first | done | omega)) | with_reducible refine bl_trans ?_ (GW.grow _) | (with_reducible refine bl_trans ?_ (by assumption)))), (by first | with_reducible assumption | (apply Box.as; (focus (repeat (first | with_reducible assumption | (with_reducible apply Box.new; simp; done) | with_reducible apply Box.gw | with_reducible apply Box.drew | with_reducible apply Box.alloc | with_reducible apply Box.set | (with_reducible apply Box.set_other; rotate_left; focus omega)))); rfl)), (by first | with_reducible assumption | (apply Box.as; (focus (repeat (first | with_reducible assumption | (with_reducible apply Box.new; simp; done) | with_reducible apply Box.gw | with_reducible apply Box.drew | with_reducible apply Box.alloc | with_reducible apply Box.set | (with_reducible apply Box.set_other; rotate_left; focus omega)))); rfl))⟩, rfl⟩)
      case measure => simp [intOf]; omega
    · clear hk
      go_wp2_with (go_at_call 12; refine (known_any _).mono ?_; rintro e w1 ⟨rfl, hb⟩; (first | obtain ⟨X, rfl⟩ := GW.of2 hb | obtain ⟨X, rfl⟩ := GW.of hb); clear hb)
      go_ret
      exact ⟨rfl, (by repeat (first | with_reducible exact Below.refl _ _ | with_reducible assumption | with_reducible exact GW.grow _ | with_reducible refine bl_alloc ?_ _ | with_reducible refine Below.drew ?_ | (with_reducible refine Below.setCell ?_ ?_ _; rotate_left; focus (simp; first | done | omega)) | with_reducible refine bl_trans ?_ (GW.grow _) | (with_reducible refine bl_trans ?_ (by assumption))))⟩

set_option maxHeartbeats 4000000 in
set_option maxRecDepth 100000 in
theorem motionTours_not (rows cols top bottom : Int) (o : Bool) (v : Option Addr) (len cap : Nat) (w : World) (h : rightB rows cols top bottom = false ∨ 40 < len) :
    Calls Try.prog 5 #[.agg #[.int .i64 rows, .int .i64 cols, .int .i64 top, .int .i64 bottom, .bool o], .slice v len cap] w fun e w' => e = .returned (.bool true) ∧ Below w.heap.size w w' := by
  cases hR : rightB rows cols top bottom
  · go_enter Try.func5, Try.ntmps5
    go_wp2_with (first | (go_at_call 13; refine (rightRef_false _ _ _ _ _ _ hR).mono ?_; rintro e w1 ⟨rfl, hb⟩; (first | obtain ⟨X, rfl⟩ := GW.of2 hb | obtain ⟨X, rfl⟩ := GW.of hb); clear hb) | (go_at_call 12; refine (known_any _).mono ?_; rintro e w1 ⟨rfl, hb⟩; (first | obtain ⟨X, rfl⟩ := GW.of2 hb | obtain ⟨X, rfl⟩ := GW.of hb); clear hb))
    go_ret
    exact ⟨rfl, (by repeat (first | with_reducible exact Below.refl _ _ | with_reducible assumption | with_reducible exact GW.grow _ | with_reducible refine bl_alloc ?_ _ | with_reducible refine Below.drew ?_ | (with_reducible refine Below.setCell ?_ ?_ _; rotate_left; focus (simp; first | done | omega)) | with_reducible refine bl_trans ?_ (GW.grow _) | (with_reducible refine bl_trans ?_ (by assumption))))⟩
  · have h' : 40 < len := by simpa [hR] using h
    clear h
    go_enter Try.func5, Try.ntmps5
    go_wp2_with (first | (go_at_call 13; refine (rightRef_true _ _ _ _ _ _ hR).mono ?_; rintro e w1 ⟨rfl, hb⟩; (first | obtain ⟨X, rfl⟩ := GW.of2 hb | obtain ⟨X, rfl⟩ := GW.of hb); clear hb) | (go_at_call 12; refine (known_any _).mono ?_; rintro e w1 ⟨rfl, hb⟩; (first | obtain ⟨X, rfl⟩ := GW.of2 hb | obtain ⟨X, rfl⟩ := GW.of hb); clear hb))
    go_ret
    exact ⟨rfl, (by repeat (first | with_reducible exact Below.refl _ _ | with_reducible assumption | with_reducible exact GW.grow _ | with_reducible refine bl_alloc ?_ _ | with_reducible refine Below.drew ?_ | (with_reducible refine Below.setCell ?_ ?_ _; rotate_left; focus (simp; first | done | omega)) | with_reducible refine bl_trans ?_ (GW.grow _) | (with_reducible refine bl_trans ?_ (by assumption))))⟩

set_option maxHeartbeats 4000000 in
set_option maxRecDepth 100000 in
theorem motionTours_nil (rows cols top bottom : Int) (o : Bool) (v : Option Addr) (cap : Nat) (w : World) (hR : rightB rows cols top bottom = true) :
    Calls Try.prog 5 #[.agg #[.int .i64 rows, .int .i64 cols, .int .i64 top, .int .i64 bottom, .bool o], .slice v 0 cap] w fun e w' => e = .returned (.bool true) ∧ Below w.heap.size w w' := by
  go_enter Try.func5, Try.ntmps5
  go_wp2_with (go_at_call 13; refine (rightRef_true _ _ _ _ _ _ hR).mono ?_; rintro e w1 ⟨rfl, hb⟩; (first | obtain ⟨X, rfl⟩ := GW.of2 hb | obtain ⟨X, rfl⟩ := GW.of hb); clear hb)
  rename GW _ => X0
  have hX := X0.grow.size
  simp only [World.size_alloc] at hX
  go_loopw [6] (fun i wr => i = .int .i64 0 ∧ Below w.heap.size w wr) (fun _ _ => 0)
  case atStart => exact ⟨rfl, (by repeat (first | with_reducible exact Below.refl _ _ | with_reducible assumption | with_reducible exact GW.grow _ | with_reducible refine bl_alloc ?_ _ | with_reducible refine Below.drew ?_ | (with_reducible refine Below.setCell ?_ ?_ _; rotate_left; focus (simp; first | done | omega)) | with_reducible refine bl_trans ?_ (GW.grow _) | (with_reducible refine bl_trans ?_ (by assumption))))⟩
  case round =>
    obtain ⟨rfl, hbl⟩ := hrel
    go_wp2_with (go_at_call 12; refine (known_any _).mono ?_; rintro e w1 ⟨rfl, hb⟩; (first | obtain ⟨X, rfl⟩ := GW.of2 hb | obtain ⟨X, rfl⟩ := GW.of hb); clear hb)
    go_ret
    exact ⟨rfl, (by repeat (first | with_reducible exact Below.refl _ _ | with_reducible assumption | with_reducible exact GW.grow _ | with_reducible refine bl_alloc ?_ _ | with_reducible refine Below.drew ?_ | (with_reducible refine Below.setCell ?_ ?_ _; rotate_left; focus (simp; first | done | omega)) | with_reducible refine bl_trans ?_ (GW.grow _) | (with_reducible refine bl_trans ?_ (by assumption))))⟩

end Go.Proofs.Ytfcogdpkelcfbaa
