/- modes: Apply, and the laws' helpers. -/
import Derived.Test.YtcmflmmidipckaaDoorL
import Derived.Outline
set_option linter.unusedSimpArgs false
set_option linter.unusedVariables false
set_option linter.unnecessarySimpa false
namespace Go.Proofs.YtcmflmmidipckaaDoor
open Go.RowKit

def stepM (p : Int) (on : Bool) (m : Md) (n : Int) : Md := if isM p n = true then setM m n on else m
def applyM (m : Md) (p : Int) (l : List Int) (on : Bool) : Md := l.foldl (stepM p on) m
theorem applyM_succ (m : Md) (p : Int) (l : List Int) (on : Bool) (k : Nat) (h : k < l.length) : applyM m p (l.take (k + 1)) on = stepM p on (applyM m p (l.take k) on) l[k] := by
  unfold applyM
  rw [List.take_succ_eq_append_getElem h, List.foldl_append]; rfl
def applyR (m : Md) (p : Int) (l : List Int) (on : Bool) : Md := if validM m = true then applyM m p l on else zeroM
theorem text_no (m : Md) (w : World) (hg : Glob w) (hv : validM m = false) : Calls Tryd.prog 25 #[.agg #[.bool m.aw, .bool m.ori, .bool m.ins, .bool m.vis, .bool m.app, .bool m.pas, .bool m.sgr, .int .i64 m.ptr, .int .i64 m.alt]] w fun e w' => e = .returned (.tuple #[.string ⟨#[]⟩, .int .i64 2]) ∧ Below w.heap.size w w' := by
  have cV := fun W (hb : Below w.heap.size w W) => valid_any m W (hg.below hb)
  rw [hv] at cV
  go_enter Tryd.func25, Tryd.ntmps25
  go_wp2_with (go_at_call 10; (with_reducible refine (cV _ (bl_alloc (Below.refl _ _) _)).mono ?_); rintro e w1 ⟨rfl, hb1⟩)
  go_ret2
  exact ⟨rfl, bl_trans (bl_alloc (Below.refl _ _) _) hb1⟩
set_option maxHeartbeats 4000000 in
set_option maxRecDepth 100000 in
theorem apply_any (m : Md) (p : Int) (v : Value) (xs : List Int) (on : Bool) (w : World) (hg : Glob w) (h : Rd w .i64 v xs) : Calls Tryd.prog 24 #[.agg #[.bool m.aw, .bool m.ori, .bool m.ins, .bool m.vis, .bool m.app, .bool m.pas, .bool m.sgr, .int .i64 m.ptr, .int .i64 m.alt], .int .i32 p, v, .bool on] w fun e w' => e = .returned (.tuple #[.agg #[.bool (applyR m p xs on).aw, .bool (applyR m p xs on).ori, .bool (applyR m p xs on).ins, .bool (applyR m p xs on).vis, .bool (applyR m p xs on).app, .bool (applyR m p xs on).pas, .bool (applyR m p xs on).sgr, .int .i64 (applyR m p xs on).ptr, .int .i64 (applyR m p xs on).alt], .int .i64 (getE m)]) ∧ Below w.heap.size w w' := by
  obtain ⟨pp, cap, rfl, l1, m1, c1⟩ := h
  unfold maxLen at m1
  have C1 := Lib.hid c1
  clear c1
  have cV := fun W (hb : Below w.heap.size w W) => valid_any m W (hg.below hb)
  cases hv : validM m
  · have e1 : applyR m p xs on = zeroM := by unfold applyR; rw [hv]; rfl
    have e2 : getE m = 2 := by unfold getE; rw [hv]; rfl
    rw [e1, e2]
    rw [hv] at cV
    go_enter Tryd.func24, Tryd.ntmps24
    go_wp2_with (go_at_call 10; (with_reducible refine (cV _ (bl_alloc (bl_alloc (Below.refl _ _) _) _)).mono ?_); rintro e w1 ⟨rfl, hb1⟩; obtain ⟨X, rfl⟩ := GW.of hb1; clear hb1)
    refine ret_row_tmp (n := 9) rfl rfl Tryd.underlying23 rfl (by kernel_rfl) rfl ⟨_, by simp (maxDischargeDepth := 6) [go_sem] <;> rfl, rfl, ?_⟩
    exact ⟨rfl, (by repeat (first | with_reducible exact Below.refl _ _ | with_reducible assumption | with_reducible exact GW.grow _ | with_reducible refine bl_alloc ?_ _ | with_reducible refine Below.drew ?_ | (with_reducible refine Below.setCell ?_ ?_ _; rotate_left; focus (simp; first | done | omega)) | with_reducible refine bl_trans ?_ (GW.grow _) | (with_reducible refine bl_trans ?_ (by assumption))))⟩
  · rw [hv] at cV
    have e1 : applyR m p xs on = applyM m p xs on := by unfold applyR; rw [hv]; rfl
    have e2 : getE m = 0 := by unfold getE; rw [hv]; rfl
    rw [e1, e2]
    obtain ⟨m', hm'⟩ : ∃ m', applyM m p xs on = m' := ⟨_, rfl⟩
    rw [hm']
    have HM := Lib.hid hm'
    clear hm'
    go_enter Tryd.func24, Tryd.ntmps24
    go_wp2_with (first | (go_at_call 10; (with_reducible refine (cV _ (bl_alloc (bl_alloc (Below.refl _ _) _) _)).mono ?_); rintro e w1 ⟨rfl, hb1⟩; have hl1 : Below w.heap.size w w1 := bl_trans (bl_alloc (bl_alloc (Below.refl _ _) _) _) hb1; have hd1 : MdB w1 w.heap.size m := (hb1.block w.heap.size (by simp; omega)).trans ((Box.new w _ _ rfl).alloc _); have hz1 : Box w1 (w.heap.size + 1) _ _ := (hb1.block (w.heap.size + 1) (by simp)).trans (Box.new _ _ _ (by simp)); clear hb1))
    go_loopw [18] (fun i wr => ∃ (k : Nat), k ≤ xs.length ∧ i = .int .i64 k ∧ MdB wr w.heap.size (applyM m p (xs.take k) on) ∧ Box wr (w.heap.size + 1) #[.bool false, .bool false, .bool false, .bool false, .bool false, .bool false, .bool false, .int .i64 0, .int .i64 0] 23 ∧ Below w.heap.size w wr) (fun i _ => xs.length - (intOf i).toNat)
    case atStart => exact ⟨0, Nat.zero_le _, rfl, hd1, hz1, hl1⟩
    case round =>
      obtain ⟨k, hk, rfl, hdr, hzr, hbel⟩ := hrel
      by_cases hlt : k < xs.length
      · obtain ⟨b1, o1, rfl, q1, d1⟩ := Rd.at C1.out l1 hlt
        have d3 : wr.cell? ⟨b1, o1 + k, none⟩ = some (.int .i64 xs[k]) := by rw [hbel.cell (p := ⟨b1, _, none⟩) q1]; exact d1
        have HA := Lib.hid (applyM_succ m p xs on k hlt)
        clear d1
        generalize xs[k] = n at *
        have r1 : (0 : Int) ≤ (k : Int) := by omega
        have r2 : (k : Int) < (xs.length : Int) := by omega
        have cC := change_any w.heap.size _ p n on wr hdr (hg.below hbel)
        go_wp2_with (go_at_call 27; (with_reducible refine cC.mono ?_); rintro e w2 ⟨rfl, hd2, hbar⟩; have hz2 : Box w2 (w.heap.size + 1) _ _ := hbar.box (by omega) hzr; have hl2 : Below w.heap.size w w2 := Bar.to_below hbel hbar (Nat.le_refl _))
        go_roundw
        case rel => exact ⟨k + 1, by omega, by go_num, by rw [HA.out]; exact hd2, hz2, hl2⟩
        case measure => simp [intOf]; omega
      · have e : xs.take k = xs := List.take_of_length_le (by omega)
        rw [e, HM.out] at hdr
        have hy : Box wr w.heap.size _ _ := hdr
        have hcy := hy.cell
        have hly := hy.lt
        have hcz := hzr.cell
        have hfz := hzr.free
        have hlz := hzr.lt
        go_wp2_with fail
        refine ret_row_tmp (n := 9) rfl rfl Tryd.underlying23 rfl (by kernel_rfl) rfl ⟨_, by simp (maxDischargeDepth := 6) [go_sem, Box.row hzr, hlz] <;> rfl, rfl, ?_⟩
        exact ⟨rfl, (by repeat (first | with_reducible exact Below.refl _ _ | with_reducible assumption | with_reducible exact GW.grow _ | with_reducible refine bl_alloc ?_ _ | with_reducible refine Below.drew ?_ | (with_reducible refine Below.setCell ?_ ?_ _; rotate_left; focus (simp; first | done | omega)) | with_reducible refine bl_trans ?_ (GW.grow _) | (with_reducible refine bl_trans ?_ (by assumption))))⟩
theorem sets_t (m : Md) (p n : Int) (on : Bool) (r : Md) (no : Int) (w : World) (hg : Glob w) (hr : setR m p n on = r) (he : setE m p n = no) : Calls Tryd.prog 12 #[.agg #[.bool m.aw, .bool m.ori, .bool m.ins, .bool m.vis, .bool m.app, .bool m.pas, .bool m.sgr, .int .i64 m.ptr, .int .i64 m.alt], .int .i32 p, .int .i64 n, .bool on, .agg #[.bool r.aw, .bool r.ori, .bool r.ins, .bool r.vis, .bool r.app, .bool r.pas, .bool r.sgr, .int .i64 r.ptr, .int .i64 r.alt], .int .i64 no] w fun e w' => e = .returned (.bool true) ∧ Below w.heap.size w w' := by
  have cS := fun W (hb : Below w.heap.size w W) => set_any m p n on W (hg.below hb)
  rw [hr, he] at cS
  go_enter Tryd.func12, Tryd.ntmps12
  go_wp2_with (go_at_call 21; (with_reducible refine (cS _ (bl_alloc (bl_alloc (Below.refl _ _) _) _)).mono ?_); rintro e w1 ⟨rfl, hb1⟩; obtain ⟨X, rfl⟩ := GW.of hb1; clear hb1)
  all_goals
    go_ret
    exact ⟨rfl, (by repeat (first | with_reducible exact Below.refl _ _ | with_reducible assumption | with_reducible exact GW.grow _ | with_reducible refine bl_alloc ?_ _ | with_reducible refine Below.drew ?_ | (with_reducible refine Below.setCell ?_ ?_ _; rotate_left; focus (simp; first | done | omega)) | with_reducible refine bl_trans ?_ (GW.grow _) | (with_reducible refine bl_trans ?_ (by assumption))))⟩
theorem gets_t (m : Md) (p n r no : Int) (w : World) (hg : Glob w) (hr : getR m p n = r) (he : getE m = no) : Calls Tryd.prog 13 #[.agg #[.bool m.aw, .bool m.ori, .bool m.ins, .bool m.vis, .bool m.app, .bool m.pas, .bool m.sgr, .int .i64 m.ptr, .int .i64 m.alt], .int .i32 p, .int .i64 n, .int .i64 r, .int .i64 no] w fun e w' => e = .returned (.bool true) ∧ Below w.heap.size w w' := by
  have cS := fun W (hb : Below w.heap.size w W) => get_any m p n W (hg.below hb)
  rw [hr, he] at cS
  go_enter Tryd.func13, Tryd.ntmps13
  go_wp2_with (first | (go_at_call 22; (with_reducible refine (cS _ (Below.refl _ _)).mono ?_); rintro e w1 ⟨rfl, hb1⟩) | (go_at_call 22; (with_reducible refine (cS _ (bl_alloc (Below.refl _ _) _)).mono ?_); rintro e w1 ⟨rfl, hb1⟩))
  go_ret
  exact ⟨rfl, (by repeat (first | with_reducible exact Below.refl _ _ | with_reducible assumption | with_reducible exact GW.grow _ | with_reducible refine bl_alloc ?_ _ | with_reducible refine Below.drew ?_ | (with_reducible refine Below.setCell ?_ ?_ _; rotate_left; focus (simp; first | done | omega)) | with_reducible refine bl_trans ?_ (GW.grow _) | (with_reducible refine bl_trans ?_ (by assumption))))⟩
def textR (m : Md) : ByteArray := if validM m = true then ⟨(textK m 13).toArray⟩ else ⟨#[]⟩
theorem text_u (m : Md) (w : World) (hg : Glob w) (ho : GlobO w) (ht : Tab w) : Calls Tryd.prog 25 #[.agg #[.bool m.aw, .bool m.ori, .bool m.ins, .bool m.vis, .bool m.app, .bool m.pas, .bool m.sgr, .int .i64 m.ptr, .int .i64 m.alt]] w fun e w' => e = .returned (.tuple #[.string (textR m), .int .i64 (getE m)]) ∧ Below w.heap.size w w' := by
  cases hv : validM m
  · have e1 : textR m = ⟨#[]⟩ := by unfold textR; rw [hv]; rfl
    have e2 : getE m = 2 := by unfold getE; rw [hv]; rfl
    rw [e1, e2]; exact text_no m w hg hv
  · have e1 : textR m = ⟨(textK m 13).toArray⟩ := by unfold textR; rw [hv]; rfl
    have e2 : getE m = 0 := by unfold getE; rw [hv]; rfl
    rw [e1, e2]; exact text_any m w hg ho ht hv
theorem texts_t (m : Md) (s : ByteArray) (no : Int) (w : World) (hg : Glob w) (ho : GlobO w) (ht : Tab w) (hr : textR m = s) (he : getE m = no) : Calls Tryd.prog 19 #[.agg #[.bool m.aw, .bool m.ori, .bool m.ins, .bool m.vis, .bool m.app, .bool m.pas, .bool m.sgr, .int .i64 m.ptr, .int .i64 m.alt], .string s, .int .i64 no] w fun e w' => e = .returned (.bool true) ∧ Below w.heap.size w w' := by
  have cS := fun W (hb : Below w.heap.size w W) => text_u m W (hg.below hb) (ho.below hb) (ht.below hb)
  rw [hr, he] at cS
  go_enter Tryd.func19, Tryd.ntmps19
  go_wp2_with (first | (go_at_call 25; (with_reducible refine (cS _ (Below.refl _ _)).mono ?_); rintro e w1 ⟨rfl, hb1⟩) | (go_at_call 25; (with_reducible refine (cS _ (bl_alloc (Below.refl _ _) _)).mono ?_); rintro e w1 ⟨rfl, hb1⟩))
  go_ret
  exact ⟨rfl, (by repeat (first | with_reducible exact Below.refl _ _ | with_reducible assumption | with_reducible exact GW.grow _ | with_reducible refine bl_alloc ?_ _ | with_reducible refine Below.drew ?_ | (with_reducible refine Below.setCell ?_ ?_ _; rotate_left; focus (simp; first | done | omega)) | with_reducible refine bl_trans ?_ (GW.grow _) | (with_reducible refine bl_trans ?_ (by assumption))))⟩

end Go.Proofs.YtcmflmmidipckaaDoor
