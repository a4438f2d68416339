/- params: Text, of the program and of the reference, walked. -/
import Derived.Test.YtdoeiaekimbecaaDoorMP
import Derived.Outline
set_option linter.unusedSimpArgs false
set_option linter.unusedVariables false
set_option linter.unnecessarySimpa false
namespace Go.Proofs.YtdoeiaekimbecaaDoor.Pm
open Go.RowKit

theorem newS (w : World) (b : ByteArray) (E : TypeId) : (w.alloc (.cells #[.string b] E)).cell? ⟨w.heap.size, 0, none⟩ = some (.string b) := by
  have h : (w.alloc (.cells #[.string b] E)).heap[w.heap.size]? = some (.cells #[.string b] E (0, 0)) := Box.new w _ _ rfl
  simp only [World.cell?, h]
  rfl
theorem ok_of_valid {l : List Int} (h : validP l = true) : (∀ x ∈ l, -1 ≤ x ∧ x ≤ 9999) ∧ l.length ≤ 16 := by
  simp only [validP, Bool.and_eq_true, decide_eq_true_eq, List.all_eq_true, okP] at h
  exact ⟨h.1.1, h.1.2⟩
set_option maxHeartbeats 2000000 in
theorem text_no (v : Value) (xs : List Int) (w : World) (h : Rd w .i64 v xs) (hv : validP xs = false) :
    Calls Tryd.prog 37 #[v] w fun e w' => e = .returned (.tuple #[.string ⟨#[]⟩, .int .i64 2]) ∧ Below w.heap.size w w' := by
  have cV := valid_any v xs w h
  rw [hv] at cV
  go_enter Tryd.func37, Tryd.ntmps37
  go_wp2_with (go_at_call 42; with_reducible (refine cV.mono ?_); rintro e w1 ⟨rfl, hb1⟩)
  go_ret2
  exact ⟨rfl, hb1⟩
set_option maxRecDepth 100000 in
set_option maxHeartbeats 4000000 in
theorem text_any (v : Value) (xs : List Int) (w : World) (h : Rd w .i64 v xs) (hv : validP xs = true) (ht : Tab w) :
    Calls Tryd.prog 37 #[v] w fun e w' => e = .returned (.tuple #[.string ⟨(textB xs).toArray⟩, .int .i64 0]) ∧ Below w.heap.size w w' := by
  have cV := valid_any v xs w h
  rw [hv] at cV
  have hok := ok_of_valid hv
  have HD := Lib.hid hok.1
  have hlen := hok.2
  clear hok
  obtain ⟨p, cap, rfl, l1, m1, c1⟩ := h
  unfold maxLen at m1
  have C1 := Lib.hid c1
  clear c1
  go_enter Tryd.func37, Tryd.ntmps37
  go_wp2_with (go_at_call 42; with_reducible (refine cV.mono ?_); rintro e w1 ⟨rfl, hb1⟩)
  go_loopw [4, 13] (fun out i wr => ∃ (k : Nat), k ≤ xs.length ∧ i = .int .i64 k ∧ Below w.heap.size w wr ∧ OwnS wr w.heap.size 9 out ((xs.take k).map fun n => ⟨(numB n).toArray⟩)) (fun _ i _ => xs.length - (intOf i).toNat)
  case atStart => exact ⟨0, Nat.zero_le _, rfl, hb1, OwnS.nil _ _ _⟩
  case round =>
    obtain ⟨k, hk, rfl, hbl, hown⟩ := hrel
    have hsz := hbl.size
    by_cases hlt : k < xs.length
    · obtain ⟨b1, o1, rfl, q1, d1⟩ := Rd.at C1.out l1 hlt
      have d3 : wr.cell? ⟨b1, o1 + k, none⟩ = some (.int .i64 xs[k]) := by rw [hbl.cell (p := ⟨b1, _, none⟩) q1]; exact d1
      have hx := HD.out xs[k] (List.getElem_mem hlt)
      have HT : Hid ((xs.take (k + 1)).map (fun n => (⟨(numB n).toArray⟩ : ByteArray)) = (xs.take k).map (fun n => (⟨(numB n).toArray⟩ : ByteArray)) ++ [⟨(numB xs[k]).toArray⟩]) := by unfold Hid; rw [List.take_succ_eq_append_getElem hlt, List.map_append]; rfl
      have hlk : ((xs.take k).map (fun n => (⟨(numB n).toArray⟩ : ByteArray))).length = k := by rw [List.length_map, List.length_take]; omega
      have htr : Tab wr := ht.below hbl
      clear d1
      generalize ((xs.take k).map (fun n => (⟨(numB n).toArray⟩ : ByteArray))) = ys at *
      generalize xs[k] = x at *
      have r1 : (0 : Int) ≤ (k : Int) := by omega
      have r2 : (k : Int) < (xs.length : Int) := by omega
      by_cases h0 : 0 ≤ x
      · go_wp2_with (first | (go_at_call 43; with_reducible (refine (itoa_any x _ (by omega) (by omega) htr).mono ?_); rintro e w2 ⟨rfl, hb2⟩; have hs2 := hb2.size) | (at_builtin; refine wpList_appS rfl _ _ 74 9 16 rfl Tryd.underlying74 elS w.heap.size _ ys ⟨(Lib.itoa x).toArray⟩ w2.heap.size ((hown.kept hb2).kept ((Below.refl _ _).alloc (Nat.le_refl _) _)) (newS _ _ _) rfl rfl (by simp [maxLen]; omega) (by omega) (by simp; omega) ?_; intro v' w3 hown' hgrow))
        have hbel : Below w.heap.size w w3 := (bl_trans hbl hb2).trans (((Below.refl _ _).alloc (by omega) _).trans hgrow)
        have hnx : numB x = Lib.itoa x := if_pos h0
        rw [← hnx] at hown'
        clear hgrow
        go_roundw
        case rel => exact ⟨k + 1, by omega, by go_num, hbel, by rw [HT.out]; exact hown'⟩
        case measure => simp [intOf]; omega
      · go_wp2_with (first | (at_builtin; refine wpList_appS rfl _ _ 74 9 16 rfl Tryd.underlying74 elS w.heap.size _ ys ⟨#[]⟩ wr.heap.size (hown.kept ((Below.refl _ _).alloc (Nat.le_refl _) _)) (newS _ _ _) rfl rfl (by simp [maxLen]; omega) (by omega) (by simp; omega) ?_; intro v' w3 hown' hgrow))
        have hbel : Below w.heap.size w w3 := hbl.trans (((Below.refl _ _).alloc hsz _).trans hgrow)
        have hnx : numB x = [] := if_neg h0
        rw [show (⟨#[]⟩ : ByteArray) = ⟨(numB x).toArray⟩ by rw [hnx]] at hown'
        clear hgrow
        go_roundw
        case rel => exact ⟨k + 1, by omega, by go_num, hbel, by rw [HT.out]; exact hown'⟩
        case measure => simp [intOf]; omega
    · have e : xs.take k = xs := List.take_of_length_le (by omega)
      rw [e] at hown
      have cJ := join_own _ xs _ wr (fun x hx => (HD.out x hx).2) (by omega) hown
      clear HD
      go_wp2_with (go_at_call 44; with_reducible (refine cJ.mono ?_); rintro e w2 ⟨rfl, hb2⟩)
      go_ret2
      exact ⟨rfl, bl_trans hbl hb2⟩

end Go.Proofs.YtdoeiaekimbecaaDoor.Pm
