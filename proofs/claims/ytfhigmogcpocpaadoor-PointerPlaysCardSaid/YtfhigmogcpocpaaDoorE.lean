/- pointer: the law's helper about Do; a nil pointer. -/
import Derived.Test.YtfhigmogcpocpaaDoorD
import Derived.Outline
set_option linter.unusedSimpArgs false
set_option linter.unusedVariables false
set_option linter.unnecessarySimpa false
namespace Go.Proofs.YtfhigmogcpocpaaDoor
open Go.RowKit

theorem do_nil (k b r c : Int) (sh al ct : Bool) (w : World) : Calls Tryd.prog 13 #[.pointer none, .agg #[.int .i64 k, .int .i64 b, .int .i64 r, .int .i64 c, .bool sh, .bool al, .bool ct]] w fun e w' => e = .returned (.tuple #[.slice none 0 0, .int .i64 1]) ∧ Below w.heap.size w w' := by
  go_enter Tryd.func13, Tryd.ntmps13
  go_wp2_with fail
  go_ret2
  exact ⟨rfl, (by repeat (first | with_reducible exact Below.refl _ _ | with_reducible assumption | with_reducible exact GW.grow _ | with_reducible refine bl_alloc ?_ _ | with_reducible refine Below.drew ?_ | (with_reducible refine Below.setCell ?_ ?_ _; rotate_left; focus (simp; first | done | omega)) | with_reducible refine bl_trans ?_ (GW.grow _) | (with_reducible refine bl_trans ?_ (by assumption))))⟩
theorem do_p (D o : Nat) (p : Pt) (k b r c : Int) (sh al ct : Bool) (w : World) (h : PtB w D o p) (ht : Tab w) (hD : 0 ≠ D) (hv : validE k b r c = true) : Calls Tryd.prog 13 #[.pointer (some ⟨D, o, none⟩), .agg #[.int .i64 k, .int .i64 b, .int .i64 r, .int .i64 c, .bool sh, .bool al, .bool ct]] w (DoE D o p k b r c sh al ct w) := by
  obtain ⟨m, e, x, y, z, a0, a1, t⟩ := p
  exact do_ok D o m e x y z a0 a1 t k b r c sh al ct w h ht hD hv
def DoesE (D o : Nat) (p : Pt) (k b r c : Int) (w : World) (e : Ending) (w' : World) : Prop := e = .returned (.bool true) ∧ PtB w' D o (afterP p k b r c) ∧ Keep D o w w'
theorem does_ok (D o : Nat) (p : Pt) (k b r c : Int) (sh al ct : Bool) (want : ByteArray) (w : World) (h : PtB w D o p) (ht : Tab w) (hD : 0 ≠ D) (hv : validE k b r c = true) (hw : doS p k b r c sh al ct = want) : Calls Tryd.prog 9 #[.pointer (some ⟨D, o, none⟩), .agg #[.int .i64 k, .int .i64 b, .int .i64 r, .int .i64 c, .bool sh, .bool al, .bool ct], .string want, .int .i64 0] w (DoesE D o p k b r c w) := by
  have cD := fun W (hb : Below w.heap.size w W) => do_p D o p k b r c sh al ct W (h.below hb) (ht.below hb) hD hv
  unfold DoE at cD
  unfold DoesE
  rw [hw] at cD
  go_enter Tryd.func9, Tryd.ntmps9
  go_wp2_with (first | (go_at_call 13; (with_reducible refine (cD _ (bl_alloc (Below.refl _ _) _)).mono ?_); rintro e w1 ⟨v, xs, rfl, hrd, hxs, hpt, hbar⟩; have kc := run_str (P := Tryd.prog) 45 9 5 Tryd.underlying45 Tryd.underlying5 Tryd.underlying9 hrd; rw [hxs] at kc; have hg : Keep D o w w1 := (Keep.of_below (bl_alloc (Below.refl _ _) _)).trans hbar))
  go_ret
  exact ⟨rfl, hpt, hg⟩
theorem does_bad (D o : Nat) (p : Pt) (k b r c : Int) (sh al ct : Bool) (w : World) (hv : validE k b r c = false) : Calls Tryd.prog 9 #[.pointer (some ⟨D, o, none⟩), .agg #[.int .i64 k, .int .i64 b, .int .i64 r, .int .i64 c, .bool sh, .bool al, .bool ct], .string ⟨#[]⟩, .int .i64 2] w fun e w' => e = .returned (.bool true) ∧ Below w.heap.size w w' := by
  have kc := fun W => run_str (P := Tryd.prog) 45 9 5 Tryd.underlying45 Tryd.underlying5 Tryd.underlying9 (Rd.nil W .u8)
  rw [show strOfNums ([] : List Int) = ⟨#[]⟩ from rfl] at kc
  go_enter Tryd.func9, Tryd.ntmps9
  go_wp2_with (first | (go_at_call 13; (with_reducible refine (do_bad D o p k b r c sh al ct _ hv).mono ?_); rintro e w1 ⟨rfl, hb⟩; (first | obtain ⟨X, rfl⟩ := GW.of2 hb | obtain ⟨X, rfl⟩ := GW.of hb); clear hb))
  go_ret
  exact ⟨rfl, (by repeat (first | with_reducible exact Below.refl _ _ | with_reducible assumption | with_reducible exact GW.grow _ | with_reducible refine bl_alloc ?_ _ | with_reducible refine Below.drew ?_ | (with_reducible refine Below.setCell ?_ ?_ _; rotate_left; focus (simp; first | done | omega)) | with_reducible refine bl_trans ?_ (GW.grow _) | (with_reducible refine bl_trans ?_ (by assumption))))⟩
theorem does_nil (k b r c : Int) (sh al ct : Bool) (w : World) : Calls Tryd.prog 9 #[.pointer none, .agg #[.int .i64 k, .int .i64 b, .int .i64 r, .int .i64 c, .bool sh, .bool al, .bool ct], .string ⟨#[]⟩, .int .i64 1] w fun e w' => e = .returned (.bool true) ∧ Below w.heap.size w w' := by
  have kc := fun W => run_str (P := Tryd.prog) 45 9 5 Tryd.underlying45 Tryd.underlying5 Tryd.underlying9 (Rd.nil W .u8)
  rw [show strOfNums ([] : List Int) = ⟨#[]⟩ from rfl] at kc
  go_enter Tryd.func9, Tryd.ntmps9
  go_wp2_with (first | (go_at_call 13; (with_reducible refine (do_nil k b r c sh al ct _).mono ?_); rintro e w1 ⟨rfl, hb⟩; (first | obtain ⟨X, rfl⟩ := GW.of2 hb | obtain ⟨X, rfl⟩ := GW.of hb); clear hb))
  go_ret
  exact ⟨rfl, (by repeat (first | with_reducible exact Below.refl _ _ | with_reducible assumption | with_reducible exact GW.grow _ | with_reducible refine bl_alloc ?_ _ | with_reducible refine Below.drew ?_ | (with_reducible refine Below.setCell ?_ ?_ _; rotate_left; focus (simp; first | done | omega)) | with_reducible refine bl_trans ?_ (GW.grow _) | (with_reducible refine bl_trans ?_ (by assumption))))⟩
theorem set_nil (m : Int) (x : Bool) (w : World) : Calls Tryd.prog 7 #[.pointer none, .int .i64 m, .bool x] w fun e w' => e = .returned (.int .i64 1) ∧ Below w.heap.size w w' := by
  go_enter Tryd.func7, Tryd.ntmps7
  go_wp2_with fail
  go_ret
  exact ⟨rfl, Below.refl _ _⟩
theorem mode_nil (w : World) : Calls Tryd.prog 18 #[.pointer none] w fun e w' => e = .returned (.int .i64 0) ∧ Below w.heap.size w w' := by
  go_enter Tryd.func18, Tryd.ntmps18
  go_wp2_with fail
  go_ret
  exact ⟨rfl, Below.refl _ _⟩
theorem exact_nil (w : World) : Calls Tryd.prog 19 #[.pointer none] w fun e w' => e = .returned (.bool false) ∧ Below w.heap.size w w' := by
  go_enter Tryd.func19, Tryd.ntmps19
  go_wp2_with fail
  go_ret
  exact ⟨rfl, Below.refl _ _⟩
theorem held_nil (b : Int) (w : World) : Calls Tryd.prog 20 #[.pointer none, .int .i64 b] w fun e w' => e = .returned (.bool false) ∧ Below w.heap.size w w' := by
  go_enter Tryd.func20, Tryd.ntmps20
  go_wp2_with fail
  first | refine wp_grow2 (by kernel_rfl) (by kernel_rfl) ?_ | refine wp_grow (by kernel_rfl) (by kernel_rfl) ?_
  repeat (go_big_quiet_step (fail))
  refine wpQuiet_nil ?_
  rintro _ ⟨X, rfl⟩
  go_wp2_with fail
  go_ret
  exact ⟨rfl, X.grow⟩
theorem copy_nil (w : World) : Calls Tryd.prog 16 #[.pointer none] w fun e w' => e = .returned (.pointer none) ∧ Below w.heap.size w w' := by
  go_enter Tryd.func16, Tryd.ntmps16
  go_wp2_with fail
  go_ret
  exact ⟨rfl, Below.refl _ _⟩

end Go.Proofs.YtfhigmogcpocpaaDoor
