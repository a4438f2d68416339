/- utf: UtfFours returns true for every input. No condition. -/
import Derived.Test.YtacpbfkelpehhaaDecodes
namespace Go.Proofs.Ytacpbfkelpehhaa
open Go.ChangeShapes Go.WideShapes Go.ChangeAt Go.RowKit
attribute [local go_sem ↓] Go.wp_at_zero Go.wp_at_succ

set_option maxRecDepth 100000 in
set_option maxHeartbeats 1000000 in
theorem utfFours_any (a b c d : Int) (w : World) (ha : Byte a) (hb : Byte b) (hc : Byte c) (hd : Byte d) :
    Calls Try.prog 4 #[.int .u8 a, .int .u8 b, .int .u8 c, .int .u8 d] w fun e w' => e = .returned (.bool true) ∧ Below w.heap.size w w' := by
  go_enter Try.func4, Try.ntmps4
  go_wp2_with fail
  have F : ∀ W0 : World, Below w.heap.size w W0 → (∀ k, k < 5 → ∃ v l, W0.cell? ⟨w.heap.size + 1 + 1 + 1 + 1 + 1, k, none⟩ = some v ∧ Rd W0 .u8 v l ∧ (∀ x ∈ l, Byte x) ∧ l.length ≤ 10) → (w.heap.size + 1 + 1 + 1 + 1 + 1 < W0.heap.size) → True := fun _ _ _ _ => trivial
  clear F
  refine wp_name (fun W0 => Below w.heap.size w W0 ∧ w.heap.size + 1 + 1 + 1 + 1 + 1 < W0.heap.size ∧ (∀ k, k < 5 → ∃ v l, W0.cell? ⟨w.heap.size + 1 + 1 + 1 + 1 + 1, k, none⟩ = some v ∧ Rd W0 .u8 v l ∧ (∀ x ∈ l, Byte x) ∧ l.length ≤ 10)) ⟨?_, ?_, ?_⟩ ?_
  · exact bl_alloc (bl_alloc (bl_alloc (bl_alloc (bl_alloc (bl_alloc (Below.refl _ _) _) _) _) _) _) _
  · simp
  · have al : ∀ (X : World) (o : Obj), Below X.heap.size X (X.alloc o) := fun X o => (Below.refl _ _).alloc (Nat.le_refl _) _
    intro k hk
    have hcell := fun (X : World) (cs : Array Value) (t : TypeId) (n : Nat) (hn : n = X.heap.size) => Box.cell (Box.new X cs t hn) k
    rw [hcell _ _ _ _ (by simp)]
    obtain rfl | rfl | rfl | rfl | rfl : k = 0 ∨ k = 1 ∨ k = 2 ∨ k = 3 ∨ k = 4 := by omega
    · exact ⟨_, [a], rfl, (((((Rd.lit1 w _ _ _ _ rfl).below (al _ _)).below (al _ _)).below (al _ _)).below (al _ _)).below (al _ _), by simpa using ha, by simp⟩
    · exact ⟨_, [a, b], rfl, ((((Rd.lit2 _ _ _ _ _ _ (by simp)).below (al _ _)).below (al _ _)).below (al _ _)).below (al _ _), by simp; exact ⟨ha, hb⟩, by simp⟩
    · exact ⟨_, [a, b, c], rfl, (((Rd.lit3 _ _ _ _ _ _ _ (by simp)).below (al _ _)).below (al _ _)).below (al _ _), by simp; exact ⟨ha, hb, hc⟩, by simp⟩
    · exact ⟨_, [a, b, c, d], rfl, ((Rd.lit4 _ _ _ _ _ _ _ _ (by simp)).below (al _ _)).below (al _ _), by simp; exact ⟨ha, hb, hc, hd⟩, by simp⟩
    · exact ⟨_, [120, a, b, c, d, 121], rfl, (Rd.new _ _ _ [120, a, b, c, d, 121] _ _ (by simp) rfl (by simp [maxLen])).below (al _ _), by simp; exact ⟨by simp [Byte], ha, hb, hc, hd, by simp [Byte]⟩, by simp⟩
  · intro W0 ⟨hW, hlt0, hall⟩
    go_loopw [32] (fun i wr => ∃ (k : Nat), k ≤ 5 ∧ i = .int .i64 k ∧ Below W0.heap.size W0 wr) (fun i _ => 5 - (intOf i).toNat)
    case atStart => exact ⟨0, by omega, rfl, Below.refl _ _⟩
    case round =>
      obtain ⟨k, hk, rfl, hbel⟩ := hrel
      by_cases hlt : k < 5
      · obtain ⟨v, l, hcell, hrd, hbl, hll⟩ := hall k hlt
        have d3 : wr.cell? ⟨w.heap.size + 1 + 1 + 1 + 1 + 1, k, none⟩ = some v := by rw [hbel.cell (p := ⟨_, k, none⟩) hlt0]; exact hcell
        obtain ⟨p9, n9, c9, hv9⟩ := hrd.shape
        subst hv9
        have hrd2 := hrd.below hbel
        have r1 : (0 : Int) ≤ (k : Int) := by omega
        clear hall hcell
        go_wp2_with (first | (go_at_call 11; refine (decode_any _ l _ hrd2 hbl (by omega)).mono ?_; rintro e w1 ⟨u1, rfl, hu1, hb1⟩) | (go_at_call 12; refine (rdecode_any _ l _ (hrd2.below hb1) hbl (by omega)).mono ?_; rintro e w2 ⟨u2, rfl, hu2, hb2⟩) | (go_at_call 10; refine (same_true _ _ _ _ _ (hu1.rd.below hb2) hu2.rd (Lib.hid rfl)).mono ?_; rintro e w3 ⟨rfl, hb3⟩))
        go_roundw
        have hb := bl_trans (bl_trans (bl_trans hbel hb1) hb2) hb3
        case rel => first | exact ⟨k + 1, by omega, by go_num, hb⟩ | ((repeat apply Exists.intro); exact ⟨⟨k + 1, by omega, by go_num, hb⟩, rfl⟩)
        case measure => simp [intOf]; omega
      · clear hall
        go_wp2_with (go_at_call 9; refine (known_any _).mono ?_; rintro e wk ⟨rfl, hbk⟩)
        go_ret
        exact ⟨rfl, bl_trans (bl_trans hW hbel) hbk⟩

/-- A byte that came in. -/
theorem open_byte {H : Type} {enc : TypeId × Value → H} {W : World} {b0 : Nat} {r : Reach} {v : Value} {d : DataW H} {p : List MemPlace} (_hv : Value.okWide Try.prog W r b0 5 v)
    (h : DataW.Trod enc Try.prog W 0 (fun _ => true) true 5 v d p) : ∃ n, v = .int .u8 n ∧ True ∧ Byte n := by
  obtain ⟨fuel, hf⟩ := h
  obtain ⟨n, h1, _, h2⟩ := DataW.trod_int Try.underlying5 hf
  refine ⟨n, ?_, trivial, wf_byte h2⟩
  have hv := _hv
  simp only [Value.okWide, Try.underlying5, Cell.okWide] at hv
  cases v <;> simp_all [Cell.ok, Value.cells]

set_option maxRecDepth 100000 in
theorem utfFours_lifted (os : Os) (started : os.Started) (H : Type) (enc : TypeId × Value → H) :
    ReturnsInHanded {} Try.checked os 4 .any (Rows.utfFoursSpec.pre6 enc Try.prog Try.f4 Rows.utfFoursRow.domain false) (Rows.utfFoursSpec.post enc Try.prog Try.f4 false true false false) := by
  refine returnsInHanded_of_change (C := Try.checked) Try.own started (by kernel_rfl) Try.func4
    (ChangeSpec.witness6 (enc := enc) (C := Try.checked) false ⟨#[], #[.int .u8 0, .int .u8 0, .int .u8 0, .int .u8 0], []⟩ 8 (by kernel_rfl) (by kernel_rfl) (by kernel_rfl) (by kernel_rfl)) ?_
  intro W base args ds gs before hval0 hW hcnd _
  have hval : ∀ (j : Nat) t v, Try.f4.params[j]? = some t → args[j]? = some v → Value.okWide Try.prog W .any base t v := hval0
  have hW' := hW
  obtain ⟨p, q, hA0, hV, rfl, hfz, hnd⟩ := hW
  have hA : DataW.TrodAll enc Try.prog W 0 (fun _ => true) true Try.f4.params.toList args.toList ds p := hA0
  rw [Try.params4] at hA hval
  obtain ⟨v0, v1, v2, v3, d0, d1, d2, d3, p0, p1, p2, p3, rfl, rfl, rfl, h0, h1, h2, h3⟩ := trodAll_four hA
  obtain ⟨rfl, rfl⟩ := trodVars_none hV
  obtain ⟨a, hv0, _, hw0⟩ := open_byte (hval 0 _ v0 rfl rfl) h0
  obtain ⟨b, hv1, _, hw1⟩ := open_byte (hval 1 _ v1 rfl rfl) h1
  obtain ⟨c, hv2, _, hw2⟩ := open_byte (hval 2 _ v2 rfl rfl) h2
  obtain ⟨d, hv3, _, hw3⟩ := open_byte (hval 3 _ v3 rfl rfl) h3
  subst hv0 hv1 hv2 hv3
  clear hA0 hval0
  refine (utfFours_any a b c d W hw0 hw1 hw2 hw3).mono fun e W' ⟨he, hw⟩ => ?_
  exact ⟨_, he, post_law Try.laidOut rfl hW' (by kernel_rfl) rfl Try.underlying4 rfl hw⟩

theorem utfFours_holds : Rows.UtfFoursSaid :=
  OpenClaim.holds_of_wide 4 Try.f4 rfl rfl rfl rfl rfl rfl rfl ⟨rfl, rfl, rfl, rfl, rfl⟩ rfl rfl rfl rfl rfl (by kernel_rfl) Try.func4 (by kernel_rfl)
    (of_decide_eq_true (by kernel_rfl)) (by unfold Func.isWrapper; rw [if_neg (of_decide_eq_false (by kernel_rfl))]; exact ⟨rfl, rfl⟩)
    (fun os started H enc _ => utfFours_lifted os started H enc)

end Go.Proofs.Ytacpbfkelpehhaa
