/- MotionTours returns true for every area and every list of ways, and changes nothing that was there. No condition. -/
import Derived.Test.YtfcogdpkelcfbaaTours
import Derived.Deep.SlicePairs
namespace Go.Proofs.Ytfcogdpkelcfbaa
open Go.ChangeShapes Go.WideShapes Go.ChangeAt Go.RowKit

theorem cellsWay : Try.prog.cellsOf 45 = 2 := by kernel_rfl

theorem open_ways {H : Type} {enc : TypeId × Value → H} {W : World} {b0 : Nat} {r : Reach} {v : Value} {d : DataW H} {p : List MemPlace} (hv : Value.okWide Try.prog W r b0 43 v) (h : DataW.Trod enc Try.prog W 0 (fun _ => true) true 43 v d p) :
    ∃ (len : Nat) (q : Option Addr) (cap : Nat), v = .slice q len cap ∧ (len = 0 ∨ ∃ (b off : Nat) (xs : List (Int × Int)), q = some ⟨b, off, none⟩ ∧ len = xs.length ∧ b < W.heap.size ∧
      ∀ i x, xs[i]? = some x → W.cell? ⟨b, off + i * 2, none⟩ = some (.int .i64 x.1) ∧ W.cell? ⟨b, off + i * 2 + 1, none⟩ = some (.int .i64 x.2)) := by
  obtain ⟨fuel, hf⟩ := h
  have hcs := Go.Deep.open_slice_pairs Try.underlying43 Try.underlying45 cellsWay rfl rfl cells3 cells3 hf
  obtain ⟨qv, lv, cv, rfl⟩ := okWide_slice Try.underlying43 hv
  have hone : (Value.slice qv lv cv).cells.toList = [Value.slice qv lv cv] := rfl
  rw [hone] at hcs
  rcases hcs with ⟨h1, _⟩ | ⟨a, len, cap, m, n, V0, V1, D0, D1, P0, P1, h1, _, hl, _, hm, _, hc⟩
  · cases h1
    exact ⟨0, none, 0, rfl, .inl rfl⟩
  · obtain ⟨rfl, hl1, hc1⟩ : qv = some a ∧ lv = len ∧ cv = cap := by simpa using h1
    subst hl1 hc1
    refine ⟨lv, some a, cv, rfl, ?_⟩
    by_cases h0 : lv = 0
    · exact .inl h0
    · right
      have hlm : lv ≤ m := by rw [hm]; simp only [if_true]; omega
      obtain ⟨b, off, spot⟩ := a
      obtain ⟨c0, _, _, _⟩ := hc 0 (by omega)
      have hspot : spot = none := by
        cases spot with
        | none => rfl
        | some s => exfalso; revert c0; unfold Addr.add; simp [World.cell?]; split <;> simp
      subst hspot
      refine ⟨b, off, (List.range lv).map fun i => (intOf (V0 i), intOf (V1 i)), rfl, by simp, World.block_lt_of_cell? W _ c0, fun i x hx => ?_⟩
      simp only [List.getElem?_map, Option.map_eq_some_iff] at hx
      obtain ⟨j, hj, rfl⟩ := hx
      rw [List.getElem?_eq_some_iff] at hj
      obtain ⟨hi, rfl⟩ := hj
      simp only [List.length_range, List.getElem_range] at hi ⊢
      obtain ⟨g0, g1, t0, t1⟩ := hc i (by omega)
      obtain ⟨n0, e0, _, _⟩ := DataW.trod_int Try.underlying3 t0
      obtain ⟨n1, e1, _, _⟩ := DataW.trod_int Try.underlying3 t1
      simp only [List.cons.injEq, and_true] at e0 e1
      rw [Addr.add_lit] at g0 g1
      rw [← Nat.add_assoc] at g1
      rw [g0, g1, e0, e1]
      exact ⟨rfl, rfl⟩

theorem motionTours_any (rows cols top bottom : Int) (o : Bool) (v : Value) (len : Nat) (q : Option Addr) (cap : Nat) (W : World) (hv : v = .slice q len cap) (h : len = 0 ∨ ∃ (b off : Nat) (xs : List (Int × Int)), q = some ⟨b, off, none⟩ ∧ len = xs.length ∧ b < W.heap.size ∧
      ∀ i x, xs[i]? = some x → W.cell? ⟨b, off + i * 2, none⟩ = some (.int .i64 x.1) ∧ W.cell? ⟨b, off + i * 2 + 1, none⟩ = some (.int .i64 x.2)) :
    Calls Try.prog 5 #[.agg #[.int .i64 rows, .int .i64 cols, .int .i64 top, .int .i64 bottom, .bool o], v] W fun e w' => e = .returned (.bool true) ∧ Below W.heap.size W w' := by
  subst hv
  cases hR : rightB rows cols top bottom
  · exact motionTours_not rows cols top bottom o q len cap W (.inl hR)
  · by_cases h40 : 40 < len
    · exact motionTours_not rows cols top bottom o q len cap W (.inr h40)
    · rcases h with rfl | ⟨b, off, xs, rfl, rfl, hb, hc⟩
      · exact motionTours_nil rows cols top bottom o q cap W hR
      · exact motionTours_some rows cols top bottom o b off cap xs W hb hc (by omega) hR

set_option maxRecDepth 100000 in
theorem motionTours_lifted (os : Os) (started : os.Started) (H : Type) (enc : TypeId × Value → H) :
    ReturnsInHanded {} Try.checked os 5 .any (Rows.motionToursSpec.pre6 enc Try.prog Try.f5 Rows.motionToursRow.domain false) (Rows.motionToursSpec.post enc Try.prog Try.f5 false true false false) := by
  refine returnsInHanded_of_change (C := Try.checked) Try.own started (by kernel_rfl) Try.func5
    (ChangeSpec.witness6 (enc := enc) (C := Try.checked) false ⟨#[], #[.agg #[.int .i64 0, .int .i64 0, .int .i64 0, .int .i64 0, .bool false], .slice none 0 0], []⟩ 8 (by kernel_rfl) (by kernel_rfl) (by kernel_rfl) (by kernel_rfl)) ?_
  intro W base args ds gs before hval0 hW hcnd _
  have hval : ∀ (j : Nat) t v, Try.f5.params[j]? = some t → args[j]? = some v → Value.okWide Try.prog W .any base t v := hval0
  have hW' := hW
  obtain ⟨p, q, hA0, hV, rfl, hfz, hnd⟩ := hW
  have hA : DataW.TrodAll enc Try.prog W 0 (fun _ => true) true Try.f5.params.toList args.toList ds p := hA0
  rw [Try.params5] at hA hval
  obtain ⟨v0, v1, d0, d1, p0, p1, rfl, rfl, rfl, h0, h1⟩ := trodAll_two hA
  obtain ⟨rfl, rfl⟩ := trodVars_none hV
  obtain ⟨rows, cols, top, bottom, o, rfl⟩ := open_area (hval 0 _ v0 rfl rfl) h0
  obtain ⟨len, q, cap, hv1, hq⟩ := open_ways (hval 1 _ v1 rfl rfl) h1
  clear hA0 hval0
  refine (motionTours_any rows cols top bottom o v1 len q cap W hv1 hq).mono fun e W' ⟨he, hw⟩ => ?_
  exact ⟨_, he, post_law Try.laidOut rfl hW' (by kernel_rfl) rfl Try.underlying4 rfl hw⟩

theorem motionTours_holds : Rows.MotionToursSaid :=
  OpenClaim.holds_of_wide 5 Try.f5 rfl rfl rfl rfl rfl rfl rfl ⟨rfl, rfl, rfl, rfl, rfl⟩ rfl rfl rfl rfl rfl (by kernel_rfl) Try.func5 (by kernel_rfl)
    (of_decide_eq_true (by kernel_rfl)) (by unfold Func.isWrapper; rw [if_neg (of_decide_eq_false (by kernel_rfl))]; exact ⟨rfl, rfl⟩)
    (fun os started H enc _ => motionTours_lifted os started H enc)

end Go.Proofs.Ytfcogdpkelcfbaa
