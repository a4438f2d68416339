/- paste: Look. -/
import Derived.Test.YtnihneffgbhjjaaDoorD
import Derived.Outline
set_option linter.unusedSimpArgs false
set_option linter.unusedVariables false
set_option linter.unnecessarySimpa false
namespace Go.Proofs.YtnihneffgbhjjaaDoor
open Go.RowKit

def linesN (l : List Int) : Int := if clnD l = [] then 0 else 1 + ((clnD l).count 13 : Int)
def malN (l : List Int) : Int := ((clnD l).count 65533 : Int) - (occ3 l : Int)
def riskN (l : List Int) : Bool := decide (1 < linesN l) || decide (0 < (leftR (decL l) : Int))
def lookV (l : List Int) : Array Value := #[.int .i64 (linesN l), .int .i64 ((clnD l).length : Int), .int .i64 (leftR (decL l) : Int), .int .i64 (malN l), .bool (riskN l)]
theorem strOf_u8 (xs : List Int) : (strOfNums xs).data.toList = u8 xs := by unfold strOfNums u8; simp
theorem occ3_le (l : List Int) : occ3 l ≤ l.length := by
  induction l with
  | nil => simp [occ3]
  | cons a l ih => simp only [occ3, List.length_cons]; split <;> omega
theorem count_pat (xs : List Int) (h : ∀ x ∈ xs, Byte x) (hlen : xs.length ≤ 1000000000) (w : World) (hm : ∃ m, w.cell? ⟨2, 0, none⟩ = some (.int .i64 m)) :
    Calls Tryd.prog 24 #[.string (strOfNums xs), .string ⟨#[239, 191, 189]⟩] w fun e w' => e = .returned (.int .i64 (occ3 xs)) ∧ Below w.heap.size w w' := by
  obtain ⟨m, hm⟩ := hm
  refine (Tryd.strings_Count_any (strOfNums xs) ⟨#[239, 191, 189]⟩ m w (by rw [strOf_size]; omega) hm (by decide)).mono fun e w' ⟨he, hw⟩ => ?_
  have e1 : Lib.countB (strOfNums xs) ⟨#[239, 191, 189]⟩ = occ3 xs := by
    show Lib.count (strOfNums xs).data.toList [239, 191, 189] = _
    rw [strOf_u8, count3 xs h]
  rw [e1] at he
  exact ⟨he, hw ▸ Below.refl _ _⟩
theorem count_cr (ds : List Int) (h : ∀ r ∈ ds, validR r = true) (w : World) :
    Calls Tryd.prog 24 #[.string (strOfNums (encL ds)), .string ⟨#[13]⟩] w fun e w' => e = .returned (.int .i64 (ds.count 13 : Nat)) ∧ Below w.heap.size w w' := by
  refine (Tryd.strings_Count_one (strOfNums (encL ds)) 13 w).mono fun e w' ⟨he, hw⟩ => ?_
  have e1 : Lib.countByte (strOfNums (encL ds)).data.toList 13 = ds.count 13 := by
    rw [strOf_u8]; exact cnt13_encL ds h
  rw [e1] at he
  exact ⟨he, hw ▸ Below.refl _ _⟩
theorem runes_any (ds : List Int) (h : ∀ r ∈ ds, validR r = true) (hlen : ds.length ≤ 100000000) (w : World) :
    Calls Tryd.prog 23 #[.string (strOfNums (encL ds))] w fun e w' => e = .returned (.int .i64 (ds.length : Int)) ∧ Below w.heap.size w w' := by
  refine (Tryd.utf8_RuneCountInString (strOfNums (encL ds)) w (by rw [strOf_size]; have := (encL_length ds).2; omega)).mono fun e w' ⟨he, pos, hw⟩ => ?_
  rw [runeCount_enc ds h] at he
  exact ⟨he, hw ▸ bl_alloc (Below.refl _ _) _⟩
theorem box_five {w : World} {b : Nat} {a0 a1 a2 a3 a4 : Value} {t : TypeId} (h : Box w b #[a0, a1, a2, a3, a4] t) (v0 v1 v2 v3 v4 : Value) : Box (((((w.setCell ⟨b, 0, none⟩ v0).setCell ⟨b, 1, none⟩ v1).setCell ⟨b, 2, none⟩ v2).setCell ⟨b, 3, none⟩ v3).setCell ⟨b, 4, none⟩ v4) b #[v0, v1, v2, v3, v4] t :=
  ((((h.set 0 v0).set 1 v1).set 2 v2).set 3 v3).set 4 v4
def LkE (cs : Array Value) (n : Int) (w : World) (e : Ending) (w' : World) : Prop := e = .returned (.tuple #[.agg cs, .int .i64 n]) ∧ Below w.heap.size w w'
theorem fin5 {R : Ending → World → Prop} {a : Act} {U : World} {b : Nat} {o0 o1 o2 o3 o4 v0 v1 v2 v3 v4 : Value} (hp : a.tmps.getD 2 undef = .pointer (some ⟨b, 0, none⟩)) (hde : a.defers = []) (hU : Box U b #[o0, o1, o2, o3, o4] 33)
    (hR : R (.returned (.tuple #[.agg #[v0, v1, v2, v3, v4], a.tmps.getD 3 undef])) (((((U.setCell ⟨b, 0, none⟩ v0).setCell ⟨b, 1, none⟩ v1).setCell ⟨b, 2, none⟩ v2).setCell ⟨b, 3, none⟩ v3).setCell ⟨b, 4, none⟩ v4)) :
    bodyPost Tryd.prog Tryd.f17 R .ret a (((((U.setCell ⟨b, 0, none⟩ v0).setCell ⟨b, 1, none⟩ v1).setCell ⟨b, 2, none⟩ v2).setCell ⟨b, 3, none⟩ v3).setCell ⟨b, 4, none⟩ v4) :=
  ret_row_tmp (n := 5) rfl hp Tryd.underlying33 rfl (by kernel_rfl) hde ⟨_, Box.row (box_five hU v0 v1 v2 v3 v4), rfl, hR⟩
theorem below_seven {b2 b6 : Nat} {w V : World} (h : Below w.heap.size w V) (h6 : w.heap.size ≤ b6) (h2 : w.heap.size ≤ b2) (x y v0 v1 v2 v3 v4 : Value) (i j : Nat) :
    Below w.heap.size w (((((((V.setCell ⟨b6, i, none⟩ x).setCell ⟨b6, j, none⟩ y).setCell ⟨b2, 0, none⟩ v0).setCell ⟨b2, 1, none⟩ v1).setCell ⟨b2, 2, none⟩ v2).setCell ⟨b2, 3, none⟩ v3).setCell ⟨b2, 4, none⟩ v4) :=
  ((((((h.setCell (p := ⟨b6, _, none⟩) h6 _).setCell (p := ⟨b6, _, none⟩) h6 _).setCell (p := ⟨b2, _, none⟩) h2 _).setCell (p := ⟨b2, _, none⟩) h2 _).setCell (p := ⟨b2, _, none⟩) h2 _).setCell (p := ⟨b2, _, none⟩) h2 _).setCell (p := ⟨b2, _, none⟩) h2 _
set_option maxHeartbeats 1000000 in
theorem look_no (vb : Value) (l : List Int) (w : World) (hb : Rd w .u8 vb l) (hlen : 1048576 < l.length) : Calls Tryd.prog 17 #[vb] w (LkE #[.int .i64 0, .int .i64 0, .int .i64 0, .int .i64 0, .bool false] 5 w) := by
  obtain ⟨p, cap, rfl, h1, h2, h3⟩ := hb
  clear h3
  unfold maxLen at h2
  go_enter Tryd.func17, Tryd.ntmps17
  go_wp2_with fail
  refine ret_row_tmp (n := 5) rfl rfl Tryd.underlying33 rfl (by kernel_rfl) rfl ⟨_, by simp (maxDischargeDepth := 6) [go_sem, Box.row (Box.new _ _ _ rfl)] <;> rfl, rfl, ?_⟩
  exact ⟨rfl, (by repeat (first | with_reducible exact Below.refl _ _ | with_reducible assumption | with_reducible exact GW.grow _ | with_reducible refine bl_alloc ?_ _ | with_reducible refine Below.drew ?_ | (with_reducible refine Below.setCell ?_ ?_ _; rotate_left; focus (simp; first | done | omega)) | with_reducible refine bl_trans ?_ (GW.grow _) | (with_reducible refine bl_trans ?_ (by assumption))))⟩
set_option maxHeartbeats 4000000 in
theorem look_ok (vb : Value) (l : List Int) (w : World) (hg : Gl w) (hb : Rd w .u8 vb l) (hl : ∀ x ∈ l, Byte x) (hlen : l.length ≤ 1048576) : Calls Tryd.prog 17 #[vb] w (LkE (lookV l) 0 w) := by
  obtain ⟨p, cap, rfl, h1, h2, h3⟩ := hb
  have hb : Rd w .u8 (.slice p l.length cap) l := ⟨p, cap, rfl, h1, h2, h3⟩
  clear h3 h2 h1
  have cC := fun W (h : Below w.heap.size w W) => clean_any _ l W (hb.below h) hl (by omega)
  unfold CleanE at cC
  have e : encL (clnR 0 (decL l)) = encL (clnD l) := rfl
  rw [e] at cC
  clear e
  have hdl := clnD_len l hl
  have hdv := clnD_valid l hl
  have hel := (encL_length (clnD l)).2
  have cP := fun W (h : Below w.heap.size w W) => count_pat (encL (clnD l)) (encL_byte _) (by omega) W (hg.below h).m
  rw [occ3_encL _ hdv] at cP
  have cB := fun W (h : Below w.heap.size w W) => count_pat l hl (by omega) W (hg.below h).m
  have cR := fun W => count_cr (clnD l) hdv W
  have cN := fun W => runes_any (clnD l) hdv (by omega) W
  have kc := fun W (h : Below w.heap.size w W) => run_str (P := Tryd.prog) 22 9 5 Tryd.underlying22 Tryd.underlying5 Tryd.underlying9 (hb.below h)
  have hleft : leftR (decL l) ≤ l.length + 1 := Nat.le_trans (leftR_le _) (decL_len l hl)
  have hc1 : (clnD l).count 65533 ≤ (clnD l).length := List.count_le_length
  have hc2 : (clnD l).count 13 ≤ (clnD l).length := List.count_le_length
  have hc3 := occ3_le l
  have hS : (clnD l = [] ∧ strOfNums (encL (clnD l)) = ⟨#[]⟩) ∨ (clnD l ≠ [] ∧ (strOfNums (encL (clnD l))) ≠ ⟨#[]⟩) := by
    cases h : clnD l with
    | nil => exact .inl ⟨rfl, rfl⟩
    | cons a t =>
      refine .inr ⟨by simp, fun e => ?_⟩
      have e := congrArg ByteArray.size e
      rw [strOf_size] at e
      have := (encL_length (a :: t)).1
      simp only [List.length_cons] at this
      rw [e] at this
      exact absurd this (by simp [ByteArray.size])
  have HL : Hid (lookV l = #[.int .i64 (linesN l), .int .i64 ((clnD l).length : Int), .int .i64 (leftR (decL l) : Int), .int .i64 (malN l), .bool (riskN l)]) := Lib.hid rfl
  unfold riskN malN linesN at HL
  generalize leftR (decL l) = left at *
  generalize occ3 l = oc at *
  generalize lookV l = lv at *
  generalize clnD l = ds at *
  have hz := hS
  clear hS
  generalize hcr : ds.count 13 = cr at *
  generalize hcm : ds.count 65533 = cm at *
  generalize hdn : ds.length = dn at *
  generalize hSt : strOfNums (encL ds) = S at *
  go_enter Tryd.func17, Tryd.ntmps17
  clear hSt hdn hcm hcr hdv hel
  go_wp2_with (first | (go_at_call 22; (with_reducible refine (cC _ (bl_alloc (Below.refl _ _) _)).mono ?_); rintro e w1 ⟨rfl, hb1⟩) | (go_at_call 23; (with_reducible refine (cN _).mono ?_); rintro e w2 ⟨rfl, hb2⟩))
  have hbL : Below w.heap.size w (w2.alloc (.cells #[.int .i64 0, .int .i64 dn, .int .i64 left, .int .i64 0, .bool false] 33)) := bl_alloc (bl_trans (bl_trans (bl_alloc (Below.refl _ _) _) hb1) hb2) _
  have hx0 : Box (w2.alloc (.cells #[.int .i64 0, .int .i64 dn, .int .i64 left, .int .i64 0, .bool false] 33)) w2.heap.size #[.int .i64 0, .int .i64 dn, .int .i64 left, .int .i64 0, .bool false] 33 := Box.new _ _ _ rfl
  have hy0 : Box (w2.alloc (.cells #[.int .i64 0, .int .i64 dn, .int .i64 left, .int .i64 0, .bool false] 33)) w.heap.size #[.int .i64 0, .int .i64 0, .int .i64 0, .int .i64 0, .bool false] 33 :=
    Box.alloc ((hb2.block _ (Nat.lt_of_lt_of_le (by simp) hb1.size)).trans ((hb1.block _ (by simp)).trans (Box.new _ _ _ rfl))) _
  have hne : w.heap.size < w2.heap.size := by have := hb1.size; have := hb2.size; simp at *; omega
  obtain ⟨WL, hWL⟩ : ∃ WL, w2.alloc (.cells #[.int .i64 0, .int .i64 dn, .int .i64 left, .int .i64 0, .bool false] 33) = WL := ⟨_, rfl⟩
  rw [hWL] at hbL hx0 hy0 ⊢
  obtain ⟨b6, hb6⟩ : ∃ b6, w2.heap.size = b6 := ⟨_, rfl⟩
  rw [hb6] at hx0 hne ⊢
  obtain ⟨b2, hb2'⟩ : ∃ b2, w.heap.size = b2 := ⟨_, rfl⟩
  rw [hb2'] at hy0 hne ⊢
  clear hWL hb6 hb1 hb2 cC cN
  have kcX : ∀ X : GW WL, (convert 22 9 (.slice p l.length cap)).run Tryd.prog X.world = .ok (.string (strOfNums l)) X.world := fun X => kc _ (bl_trans hbL (GW.grow X))
  have cPX := fun (X : GW WL) => cP X.world (bl_trans hbL (GW.grow X))
  have cBX := fun (X : GW WL) => cB X.world (bl_trans hbL (GW.grow X))
  clear kc cP cB
  generalize strOfNums l = SL at *
  have hc0 := hx0.cell
  have hl0 := hx0.lt
  have hf0 := hx0.free
  have t1 : IntKind.i64.wrap ((cm : Int) - (oc : Int)) = (cm : Int) - (oc : Int) := IntWalk.i64_in _ (by omega)
  first | refine wp_grow_tail2 7 (by kernel_rfl) (by kernel_rfl) ?_ | refine wp_grow_tail 7 (by kernel_rfl) (by kernel_rfl) ?_
  simp only [List.take_succ_cons, List.take_zero, List.drop_succ_cons, List.drop_zero]
  repeat (go_big_quiet_step (first | (go_at_call 24; with_reducible exact GW.call (cPX _)) | (go_at_call 24; with_reducible exact GW.call (cBX _))))
  refine wpQuiet_nil ?_
  rintro _ ⟨X, rfl⟩
  clear cPX cBX kcX
  have hxX := hx0.gw (X := X)
  have hyX := hy0.gw (X := X)
  have hbX : Below w.heap.size w X.world := bl_trans hbL (GW.grow X)
  generalize X.world = V at *
  clear hc0 hl0 hf0 hx0 hy0 hbL
  have hc0 := hxX.cell
  have hl0 := hxX.lt
  have hf0 := hxX.free
  have hd0 := hyX.cell
  have hm0 := hyX.lt
  have hg0 := hyX.free
  rcases hz with ⟨rfl, rfl⟩ | ⟨hds, hS⟩
  · have H2 := HL.out
    clear HL
    rw [if_pos rfl] at H2
    subst H2
    go_wp2_with fail
    refine fin5 (b := b2) rfl rfl (Box.set_other (Box.set_other hyX (by omega : b2 ≠ b6) _ _) (by omega : b2 ≠ b6) _ _) ?_
    exact ⟨by simp, below_seven hbX (by omega) (by omega) _ _ _ _ _ _ _ _ _⟩
  · have H2 := HL.out
    clear HL
    rw [if_neg hds] at H2
    subst H2
    clear hds
    have hS1 : (S.toList == []) = false := by
      rw [beq_eq_false_iff_ne]
      intro e
      rw [ByteArray.toList_eq] at e
      exact hS (ByteArray.ext (Array.toList_inj.1 e))
    have hS2 : S.toList.isEmpty = false := by
      rw [List.isEmpty_eq_false_iff]
      intro e
      rw [e] at hS1
      cases hS1
    clear hS
    go_wp2_with (first | (go_at_call 24; (with_reducible refine (cR _).mono ?_); rintro e w3 ⟨rfl, hb3⟩; have hx3 : Box w3 b6 #[.int .i64 0, .int .i64 dn, .int .i64 left, .int .i64 ((cm : Int) - (oc : Int)), .bool false] 33 := (hb3.block b6 (by simp; exact hl0)).trans (Box.set hxX 3 _); have hy3 : Box w3 b2 _ _ := (hb3.block b2 (by simp; exact hm0)).trans (Box.set_other hyX (by omega : b2 ≠ b6) 3 _); have hbX3 : Below w.heap.size w w3 := bl_trans (hbX.setCell (p := ⟨b6, 3, none⟩) (by show w.heap.size ≤ b6; omega) _) hb3; clear hb3 hc0 hl0 hf0 hd0 hm0 hg0; have hc3 := hx3.cell; have hl3 := hx3.lt; have hf3 := hx3.free; have hd3 := hy3.cell; have hm3 := hy3.lt; have hg3 := hy3.free))
    all_goals
      refine fin5 (b := b2) rfl rfl (Box.set_other (Box.set_other hy3 (by omega : b2 ≠ b6) _ _) (by omega : b2 ≠ b6) _ _) ?_
      exact ⟨by simp_all, below_seven hbX3 (by omega) (by omega) _ _ _ _ _ _ _ _ _⟩

end Go.Proofs.YtnihneffgbhjjaaDoor
