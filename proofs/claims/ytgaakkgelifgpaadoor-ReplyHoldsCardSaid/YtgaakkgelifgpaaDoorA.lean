/- modes: the model, and the small functions. -/
import Derived.Test.YtgaakkgelifgpaaDoorSl
import Derived.Test.YtgaakkgelifgpaaDoorLate
import Derived.Test.YtgaakkgelifgpaaDoorShelf
import Derived.Outline
set_option linter.unusedSimpArgs false
set_option linter.unusedVariables false
set_option linter.unnecessarySimpa false
namespace Go.Proofs.YtgaakkgelifgpaaDoor
open Go.RowKit

structure Md where
  aw : Bool
  ori : Bool
  ins : Bool
  vis : Bool
  app : Bool
  pas : Bool
  sgr : Bool
  ptr : Int
  alt : Int
deriving DecidableEq
def ptrL : List Int := [1000, 1002, 1003]
def altL : List Int := [47, 1047, 1049]
def validM (m : Md) : Bool := (decide (m.ptr = 0) || ptrL.contains m.ptr) && (decide (m.alt = 0) || altL.contains m.alt)
/-- The two tables of numbers, as they are laid. -/
structure Glob (w : World) : Prop where
  p : ∀ j, j < 3 → w.cell? ⟨0, j, none⟩ = some (.int .i64 (ptrL.getD j 0))
  s : ∀ j, j < 3 → w.cell? ⟨1, j, none⟩ = some (.int .i64 (altL.getD j 0))
  pl : 0 < w.heap.size
  sl : 1 < w.heap.size
theorem Glob.below {w w' : World} (h : Glob w) (hb : Below w.heap.size w w') : Glob w' :=
  ⟨fun j hj => by rw [hb.cell (p := ⟨_, _, none⟩) h.pl]; exact h.p j hj, fun j hj => by rw [hb.cell (p := ⟨_, _, none⟩) h.sl]; exact h.s j hj, Nat.lt_of_lt_of_le h.pl hb.size, Nat.lt_of_lt_of_le h.sl hb.size⟩
theorem inP (x : Int) (w : World) (h : Glob w) : Calls Tryd.prog 43 #[.slice (some ⟨0, 0, none⟩) 3 3, .int .i64 x] w fun e w' => e = .returned (.bool (ptrL.contains x)) ∧ w = w' :=
  (Tryd.slices_Contains_int 0 0 3 3 ptrL x w (by decide) (by decide) (fun j hj => by rw [Nat.zero_add]; exact h.p j hj)).mono fun e w' ⟨he, hw⟩ => ⟨he, hw.symm⟩
theorem inS (x : Int) (w : World) (h : Glob w) : Calls Tryd.prog 43 #[.slice (some ⟨1, 0, none⟩) 3 3, .int .i64 x] w fun e w' => e = .returned (.bool (altL.contains x)) ∧ w = w' :=
  (Tryd.slices_Contains_int 1 0 3 3 altL x w (by decide) (by decide) (fun j hj => by rw [Nat.zero_add]; exact h.s j hj)).mono fun e w' ⟨he, hw⟩ => ⟨he, hw.symm⟩
theorem inPg {W : World} (x : Int) (X : GW W) (h : Glob W) : Calls Tryd.prog 43 #[.slice (some ⟨0, 0, none⟩) 3 3, .int .i64 x] X.world fun e w' => e = .returned (.bool (ptrL.contains x)) ∧ ∃ Y : GW W, w' = Y.world :=
  (inP x X.world (h.below X.grow)).mono fun e w' ⟨he, hw⟩ => ⟨he, X, hw.symm⟩
theorem inSg {W : World} (x : Int) (X : GW W) (h : Glob W) : Calls Tryd.prog 43 #[.slice (some ⟨1, 0, none⟩) 3 3, .int .i64 x] X.world fun e w' => e = .returned (.bool (altL.contains x)) ∧ ∃ Y : GW W, w' = Y.world :=
  (inS x X.world (h.below X.grow)).mono fun e w' ⟨he, hw⟩ => ⟨he, X, hw.symm⟩
theorem new_any (w : World) : Calls Tryd.prog 24 #[] w fun e w' => e = .returned (.agg #[.bool true, .bool false, .bool false, .bool true, .bool false, .bool false, .bool false, .int .i64 0, .int .i64 0]) ∧ Below w.heap.size w w' := by
  go_enter Tryd.func24, Tryd.ntmps24
  go_wp2_with fail
  refine ret_row (n := 9) rfl rfl Tryd.underlying38 rfl (by kernel_rfl) rfl ⟨_, by simp (maxDischargeDepth := 6) [go_sem] <;> rfl, rfl, ?_⟩
  exact ⟨rfl, (by repeat (first | with_reducible exact Below.refl _ _ | with_reducible assumption | with_reducible exact GW.grow _ | with_reducible refine bl_alloc ?_ _ | with_reducible refine Below.drew ?_ | (with_reducible refine Below.setCell ?_ ?_ _; rotate_left; focus (simp; first | done | omega)) | with_reducible refine bl_trans ?_ (GW.grow _) | (with_reducible refine bl_trans ?_ (by assumption))))⟩
/-- The switch of a mode: the place of its field. -/
def plainO (p n : Int) : Option Nat := if p = 0 ∧ n = 4 then some 2 else if p ≠ 63 then none else if n = 1 then some 4 else if n = 6 then some 1 else if n = 7 then some 0 else if n = 25 then some 3 else if n = 1006 then some 6 else if n = 2004 then some 5 else none
def choiceO (p n : Int) : Option Nat := if p ≠ 63 then none else if ptrL.contains n then some 7 else if altL.contains n then some 8 else none
set_option maxHeartbeats 2000000 in
theorem plain_any (D : Nat) (p n : Int) (w : World) (hD : D < w.heap.size) : Calls Tryd.prog 44 #[.pointer (some ⟨D, 0, none⟩), .int .i32 p, .int .i64 n] w fun e w' => e = .returned (.pointer ((plainO p n).map fun k => ⟨D, k, none⟩)) ∧ w = w' := by
  go_enter Tryd.func44, Tryd.ntmps44
  go_wp2_with fail
  all_goals
    go_ret
    refine ⟨?_, rfl⟩
    simp_all [plainO]
theorem choice_any (D : Nat) (p n : Int) (w : World) (hD : D < w.heap.size) (hg : Glob w) : Calls Tryd.prog 45 #[.pointer (some ⟨D, 0, none⟩), .int .i32 p, .int .i64 n] w fun e w' => e = .returned (.pointer ((choiceO p n).map fun k => ⟨D, k, none⟩)) ∧ w = w' := by
  have c1 := inP n w hg
  have c2 := inS n w hg
  go_enter Tryd.func45, Tryd.ntmps45
  go_wp2_with (first | (go_at_call 43; (with_reducible refine c1.mono ?_); rintro e w' ⟨rfl, rfl⟩) | (go_at_call 43; (with_reducible refine c2.mono ?_); rintro e w' ⟨rfl, rfl⟩))
  all_goals
    go_ret
    refine ⟨?_, rfl⟩
    simp_all [choiceO]

end Go.Proofs.YtgaakkgelifgpaaDoor
