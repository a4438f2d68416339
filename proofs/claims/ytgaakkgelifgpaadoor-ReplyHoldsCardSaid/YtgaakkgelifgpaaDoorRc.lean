/- reply: Answer. -/
import Derived.Test.YtgaakkgelifgpaaDoorRd
import Derived.Laws.Runes
import Derived.Outline
set_option linter.unusedSimpArgs false
set_option linter.unusedVariables false
set_option linter.unnecessarySimpa false
namespace Go.Proofs.YtgaakkgelifgpaaDoor
open Go.RowKit

def firstP (xs : List Int) : Int := max 0 (xs.headD 0)
theorem Rd.nth0 {w : World} {k : IntKind} {p : Option Addr} {n c : Nat} {x : Int} {xs : List Int} (h : Rd w k (.slice p n c) (x :: xs)) : ∃ b off, p = some ⟨b, off, none⟩ ∧ b < w.heap.size ∧ w.cell? ⟨b, off, none⟩ = some (.int k x) := by
  obtain ⟨p', cap', e, h1, h2, h3⟩ := h
  cases e
  obtain ⟨b, o, e, q, d⟩ := Rd.at h3 h1 (i := 0) (by simp)
  exact ⟨b, o, e, q, by simpa using d⟩
theorem get0_any (v : Value) (xs : List Int) (w : World) (h : Rd w .i64 v xs) : Calls Tryd.prog 31 #[v, .int .i64 0, .int .i64 0] w fun e w' => (∃ g, e = .returned (.int .i64 g) ∧ max 0 g = firstP xs) ∧ Below w.heap.size w w' := by
  cases xs with
  | nil =>
    obtain ⟨p, c, rfl, _, _, _⟩ := h
    go_enter Tryd.func31, Tryd.ntmps31
    go_wp2_with fail
    go_ret
    exact ⟨⟨_, rfl, rfl⟩, Below.refl _ _⟩
  | cons x xs =>
    obtain ⟨p, c, rfl, h1, h2, _⟩ := id h
    obtain ⟨b, off, rfl, hb, hc⟩ := h.nth0
    clear h
    have hl : (0 : Int) < ((x :: xs).length : Int) := by simp <;> omega
    have hl2 : 0 < (x :: xs).length := by simp
    generalize (x :: xs).length = n at *
    unfold firstP
    by_cases hx : x < 0
    · go_enter Tryd.func31, Tryd.ntmps31
      go_wp2_with fail
      go_ret
      exact ⟨⟨_, rfl, by simp; omega⟩, Below.refl _ _⟩
    · go_enter Tryd.func31, Tryd.ntmps31
      go_wp2_with fail
      go_ret
      exact ⟨⟨_, rfl, by simp⟩, Below.refl _ _⟩
def ansP (kind rune pre : Int) (inter : ByteArray) (n : Int) (rows cols top bottom : Int) (o : Bool) (r c : Int) (p : Bool) (m : Md) : ByteArray × Int :=
  if kind = 3 then (if inter.toList = [] ∧ rune = 90 then (attS 0, 0) else (⟨#[]⟩, 0))
  else if kind ≠ 4 then (⟨#[]⟩, 0)
  else if (inter ++ Utf8.encode rune).toList = [99] then (if attE pre = 0 ∧ n = 0 then (attS pre, 0) else (⟨#[]⟩, 0))
  else if (inter ++ Utf8.encode rune).toList = [110] then (if pre = 0 ∧ (n = 5 ∨ n = 6) then (statS n rows cols top bottom o r c p, statE n rows cols top bottom o r c p) else (⟨#[]⟩, 0))
  else if (inter ++ Utf8.encode rune).toList = [36, 112] then (if pre = 0 ∨ pre = 63 then (modeS m pre n, modeE m pre n) else (⟨#[]⟩, 0))
  else (⟨#[]⟩, 0)
def AnsE (r : ByteArray × Int) (w : World) (e : Ending) (w' : World) : Prop := e = .returned (.tuple #[.string r.1, .int .i64 r.2]) ∧ Below w.heap.size w w'

set_option maxHeartbeats 4000000 in
theorem ans_esc (kind rune pre : Int) (inter text : ByteArray) (v : Value) (xs : List Int) (rows cols top bottom : Int) (o : Bool) (r c : Int) (p : Bool) (m : Md) (w : World) (hv : Rd w .i64 v xs) (hk : kind ≠ 4) : Calls Tryd.prog 13 #[.agg #[.int .i64 kind, .int .i32 rune, .int .i32 pre, .string inter, v, .string text], .agg #[.int .i64 rows, .int .i64 cols, .int .i64 top, .int .i64 bottom, .bool o], .agg #[.int .i64 r, .int .i64 c, .bool p], .agg #[.bool m.aw, .bool m.ori, .bool m.ins, .bool m.vis, .bool m.app, .bool m.pas, .bool m.sgr, .int .i64 m.ptr, .int .i64 m.alt]] w (AnsE (ansP kind rune pre inter (firstP xs) rows cols top bottom o r c p m) w) := by
  have hk' : (kind == 4) = false := by simpa using hk
  obtain ⟨vp, vn, vc, rfl⟩ := hv.shape
  by_cases h3 : kind = 3
  · subst h3
    by_cases hi : inter.toList = []
    · by_cases hr : rune = 90
      · subst hr
        have e : ansP 3 90 pre inter (firstP xs) rows cols top bottom o r c p m = (attS 0, 0) := by simp [ansP, hi]
        rw [e]
        go_enter Tryd.func13, Tryd.ntmps13
        go_wp2_with (first | (go_at_call 21; (with_reducible refine (att_any 0 _).mono ?_); rintro e w1 ⟨rfl, hb1⟩))
        go_ret2
        exact ⟨rfl, bl_trans (bl_alloc (bl_alloc (bl_alloc (bl_alloc (Below.refl _ _) _) _) _) _) hb1⟩
      · have e : ansP 3 rune pre inter (firstP xs) rows cols top bottom o r c p m = (⟨#[]⟩, 0) := by simp [ansP, hi, hr]
        rw [e]
        go_enter Tryd.func13, Tryd.ntmps13
        go_wp2_with fail
        go_ret2
        exact ⟨rfl, (by repeat (first | with_reducible exact Below.refl _ _ | with_reducible assumption | with_reducible exact GW.grow _ | with_reducible refine bl_alloc ?_ _ | with_reducible refine Below.drew ?_ | (with_reducible refine Below.setCell ?_ ?_ _; rotate_left; focus (simp; first | done | omega)) | with_reducible refine bl_trans ?_ (GW.grow _) | (with_reducible refine bl_trans ?_ (by assumption))))⟩
    · have e : ansP 3 rune pre inter (firstP xs) rows cols top bottom o r c p m = (⟨#[]⟩, 0) := by simp [ansP, hi]
      rw [e]
      go_enter Tryd.func13, Tryd.ntmps13
      go_wp2_with fail
      go_ret2
      exact ⟨rfl, (by repeat (first | with_reducible exact Below.refl _ _ | with_reducible assumption | with_reducible exact GW.grow _ | with_reducible refine bl_alloc ?_ _ | with_reducible refine Below.drew ?_ | (with_reducible refine Below.setCell ?_ ?_ _; rotate_left; focus (simp; first | done | omega)) | with_reducible refine bl_trans ?_ (GW.grow _) | (with_reducible refine bl_trans ?_ (by assumption))))⟩
  · have e : ansP kind rune pre inter (firstP xs) rows cols top bottom o r c p m = (⟨#[]⟩, 0) := by simp [ansP, h3, hk]
    rw [e]
    have h3' : (kind == 3) = false := by simpa using h3
    go_enter Tryd.func13, Tryd.ntmps13
    go_wp2_with fail
    go_ret2
    exact ⟨rfl, (by repeat (first | with_reducible exact Below.refl _ _ | with_reducible assumption | with_reducible exact GW.grow _ | with_reducible refine bl_alloc ?_ _ | with_reducible refine Below.drew ?_ | (with_reducible refine Below.setCell ?_ ?_ _; rotate_left; focus (simp; first | done | omega)) | with_reducible refine bl_trans ?_ (GW.grow _) | (with_reducible refine bl_trans ?_ (by assumption))))⟩

theorem enc_size (r : Int) : (Utf8.encode r).size ≤ 4 := by
  unfold Utf8.encode
  simp only
  generalize (if Utf8.valid r = true then r.toNat else Utf8.runeError) = c
  split
  · show 1 ≤ 4; omega
  · split
    · show 2 ≤ 4; omega
    · split
      · show 3 ≤ 4; omega
      · show 4 ≤ 4; omega
theorem four_new (w w1 : World) (c0 c1 c2 c3 : Array Value) (t0 t1 t2 t3 : TypeId) (hb : Below ((((w.alloc (.cells c0 t0)).alloc (.cells c1 t1)).alloc (.cells c2 t2)).alloc (.cells c3 t3)).heap.size ((((w.alloc (.cells c0 t0)).alloc (.cells c1 t1)).alloc (.cells c2 t2)).alloc (.cells c3 t3)) w1) :
    Below w.heap.size w w1 ∧ Box w1 w.heap.size c0 t0 ∧ Box w1 (w.heap.size + 1) c1 t1 ∧ Box w1 (w.heap.size + 1 + 1) c2 t2 ∧ Box w1 (w.heap.size + 1 + 1 + 1) c3 t3 :=
  ⟨bl_trans (bl_alloc (bl_alloc (bl_alloc (bl_alloc (Below.refl _ _) _) _) _) _) hb, (hb.block _ (by simp <;> omega)).trans ((((Box.new w _ _ rfl).alloc _).alloc _).alloc _), (hb.block _ (by simp <;> omega)).trans (((Box.new _ _ _ (by simp)).alloc _).alloc _), (hb.block _ (by simp <;> omega)).trans ((Box.new _ _ _ (by simp)).alloc _), (hb.block _ (by simp)).trans (Box.new _ _ _ (by simp))⟩

set_option maxHeartbeats 4000000 in
theorem ans_ctl (kind rune pre : Int) (inter text : ByteArray) (v : Value) (xs : List Int) (rows cols top bottom : Int) (o : Bool) (r c : Int) (p : Bool) (m : Md) (w : World) (hv : Rd w .i64 v xs) (hk : kind = 4) (hin : inter.size ≤ 140737488355328) (hgl : Glob w) (ht : Tab w) : Calls Tryd.prog 13 #[.agg #[.int .i64 kind, .int .i32 rune, .int .i32 pre, .string inter, v, .string text], .agg #[.int .i64 rows, .int .i64 cols, .int .i64 top, .int .i64 bottom, .bool o], .agg #[.int .i64 r, .int .i64 c, .bool p], .agg #[.bool m.aw, .bool m.ori, .bool m.ins, .bool m.vis, .bool m.app, .bool m.pas, .bool m.sgr, .int .i64 m.ptr, .int .i64 m.alt]] w (AnsE (ansP kind rune pre inter (firstP xs) rows cols top bottom o r c p m) w) := by
  subst hk
  have cG := fun W (hb : Below w.heap.size w W) => get0_any v xs W (hv.below hb)
  obtain ⟨vp, vn, vc, rfl⟩ := hv.shape
  have he := enc_size rune
  have hsz : ¬ 9223372036854775807 < inter.size + (Utf8.encode rune).size := by omega
  obtain ⟨n, hn⟩ : ∃ n, firstP xs = n := ⟨_, rfl⟩
  have hn0 : 0 ≤ n := by rw [← hn]; unfold firstP; omega
  rw [hn] at cG ⊢
  clear hn hv
  by_cases k1 : (inter ++ Utf8.encode rune).toList = [99]
  · by_cases h0 : attE pre = 0 ∧ n = 0
    · have e : ansP 4 rune pre inter n rows cols top bottom o r c p m = (attS pre, 0) := by simp [ansP, k1, h0]
      rw [e]
      obtain ⟨h1, h2⟩ := h0
      have cA := fun W => att_any pre W
      rw [h1] at cA
      go_enter Tryd.func13, Tryd.ntmps13
      go_wp2_with (first | (go_at_call 31; (with_reducible refine (cG _ (bl_alloc (bl_alloc (bl_alloc (bl_alloc (Below.refl _ _) _) _) _) _)).mono ?_); rintro e w1 ⟨⟨g, rfl, hg⟩, hb1⟩; obtain ⟨hl1, x0, x1, x2, x3⟩ := four_new _ _ _ _ _ _ _ _ _ _ hb1; have y0 := x0.cell; have y1 := x1.cell; have y2 := x2.cell; have y3 := x3.cell; have z0 := x0.lt; have z1 := x1.lt; have z2 := x2.lt; have z3 := x3.lt; clear hb1) | (go_at_call 21; (with_reducible refine (cA _).mono ?_); rintro e w2 ⟨rfl, hb2⟩))
      go_ret2
      exact ⟨rfl, bl_trans hl1 hb2⟩
    · have e : ansP 4 rune pre inter n rows cols top bottom o r c p m = (⟨#[]⟩, 0) := by simp [ansP, k1]; intro h1 h2; exact absurd ⟨h1, h2⟩ h0
      rw [e]
      have cA := fun W => att_any pre W
      by_cases h1 : attE pre = 0
      · have h2 : ¬ n = 0 := fun h2 => h0 ⟨h1, h2⟩
        have h2' : (n == 0) = false := by simpa using h2
        rw [h1] at cA
        go_enter Tryd.func13, Tryd.ntmps13
        go_wp2_with (first | (go_at_call 31; (with_reducible refine (cG _ (bl_alloc (bl_alloc (bl_alloc (bl_alloc (Below.refl _ _) _) _) _) _)).mono ?_); rintro e w1 ⟨⟨g, rfl, hg⟩, hb1⟩; obtain ⟨hl1, x0, x1, x2, x3⟩ := four_new _ _ _ _ _ _ _ _ _ _ hb1; have y0 := x0.cell; have y1 := x1.cell; have y2 := x2.cell; have y3 := x3.cell; have z0 := x0.lt; have z1 := x1.lt; have z2 := x2.lt; have z3 := x3.lt; clear hb1) | (go_at_call 21; (with_reducible refine (cA _).mono ?_); rintro e w2 ⟨rfl, hb2⟩))
        go_ret2
        exact ⟨rfl, bl_trans hl1 hb2⟩
      · have h1' : attE pre = 9 := by unfold attE at h1 ⊢; split <;> simp_all
        rw [h1'] at cA
        go_enter Tryd.func13, Tryd.ntmps13
        go_wp2_with (first | (go_at_call 31; (with_reducible refine (cG _ (bl_alloc (bl_alloc (bl_alloc (bl_alloc (Below.refl _ _) _) _) _) _)).mono ?_); rintro e w1 ⟨⟨g, rfl, hg⟩, hb1⟩; obtain ⟨hl1, x0, x1, x2, x3⟩ := four_new _ _ _ _ _ _ _ _ _ _ hb1; have y0 := x0.cell; have y1 := x1.cell; have y2 := x2.cell; have y3 := x3.cell; have z0 := x0.lt; have z1 := x1.lt; have z2 := x2.lt; have z3 := x3.lt; clear hb1) | (go_at_call 21; (with_reducible refine (cA _).mono ?_); rintro e w2 ⟨rfl, hb2⟩))
        go_ret2
        exact ⟨rfl, bl_trans hl1 hb2⟩
  by_cases k2 : (inter ++ Utf8.encode rune).toList = [110]
  · by_cases h0 : pre = 0 ∧ (n = 5 ∨ n = 6)
    · have e : ansP 4 rune pre inter n rows cols top bottom o r c p m = (statS n rows cols top bottom o r c p, statE n rows cols top bottom o r c p) := by simp [ansP, k1, k2, h0]
      rw [e]
      obtain ⟨rfl, h2⟩ := h0
      have cS := fun W (ht : Tab W) => status_any n rows cols top bottom o r c p W ht
      have h2' : ¬ n = 5 → n = 6 := fun h => by omega
      by_cases h5 : n = 5
      · subst h5
        go_enter Tryd.func13, Tryd.ntmps13
        go_wp2_with (first | (go_at_call 31; (with_reducible refine (cG _ (bl_alloc (bl_alloc (bl_alloc (bl_alloc (Below.refl _ _) _) _) _) _)).mono ?_); rintro e w1 ⟨⟨g, rfl, hg⟩, hb1⟩; obtain ⟨hl1, x0, x1, x2, x3⟩ := four_new _ _ _ _ _ _ _ _ _ _ hb1; have y0 := x0.cell; have y1 := x1.cell; have y2 := x2.cell; have y3 := x3.cell; have z0 := x0.lt; have z1 := x1.lt; have z2 := x2.lt; have z3 := x3.lt; clear hb1) | (go_at_call 16; (with_reducible refine (cS _ (ht.below hl1)).mono ?_); rintro e w2 ⟨rfl, hb2⟩))
        go_ret2
        exact ⟨rfl, bl_trans hl1 hb2⟩
      · obtain rfl : n = 6 := h2' h5
        go_enter Tryd.func13, Tryd.ntmps13
        go_wp2_with (first | (go_at_call 31; (with_reducible refine (cG _ (bl_alloc (bl_alloc (bl_alloc (bl_alloc (Below.refl _ _) _) _) _) _)).mono ?_); rintro e w1 ⟨⟨g, rfl, hg⟩, hb1⟩; obtain ⟨hl1, x0, x1, x2, x3⟩ := four_new _ _ _ _ _ _ _ _ _ _ hb1; have y0 := x0.cell; have y1 := x1.cell; have y2 := x2.cell; have y3 := x3.cell; have z0 := x0.lt; have z1 := x1.lt; have z2 := x2.lt; have z3 := x3.lt; clear hb1) | (go_at_call 16; (with_reducible refine (cS _ (ht.below hl1)).mono ?_); rintro e w2 ⟨rfl, hb2⟩))
        go_ret2
        exact ⟨rfl, bl_trans hl1 hb2⟩
    · have e : ansP 4 rune pre inter n rows cols top bottom o r c p m = (⟨#[]⟩, 0) := by unfold ansP; rw [if_neg (by decide), if_neg (by decide), if_neg k1, if_pos k2, if_neg h0]
      rw [e]
      by_cases hp : pre = 0
      · have h5 : ¬ n = 5 := fun h => h0 ⟨hp, .inl h⟩
        have h6 : ¬ n = 6 := fun h => h0 ⟨hp, .inr h⟩
        have h5' : (n == 5) = false := by simpa using h5
        have h6' : (n == 6) = false := by simpa using h6
        go_enter Tryd.func13, Tryd.ntmps13
        go_wp2_with (go_at_call 31; (with_reducible refine (cG _ (bl_alloc (bl_alloc (bl_alloc (bl_alloc (Below.refl _ _) _) _) _) _)).mono ?_); rintro e w1 ⟨⟨g, rfl, hg⟩, hb1⟩; obtain ⟨hl1, x0, x1, x2, x3⟩ := four_new _ _ _ _ _ _ _ _ _ _ hb1; have y0 := x0.cell; have y1 := x1.cell; have y2 := x2.cell; have y3 := x3.cell; have z0 := x0.lt; have z1 := x1.lt; have z2 := x2.lt; have z3 := x3.lt; clear hb1)
        go_ret2
        exact ⟨rfl, hl1⟩
      · have hp' : (pre == 0) = false := by simpa using hp
        go_enter Tryd.func13, Tryd.ntmps13
        go_wp2_with (go_at_call 31; (with_reducible refine (cG _ (bl_alloc (bl_alloc (bl_alloc (bl_alloc (Below.refl _ _) _) _) _) _)).mono ?_); rintro e w1 ⟨⟨g, rfl, hg⟩, hb1⟩; obtain ⟨hl1, x0, x1, x2, x3⟩ := four_new _ _ _ _ _ _ _ _ _ _ hb1; have y0 := x0.cell; have y1 := x1.cell; have y2 := x2.cell; have y3 := x3.cell; have z0 := x0.lt; have z1 := x1.lt; have z2 := x2.lt; have z3 := x3.lt; clear hb1)
        go_ret2
        exact ⟨rfl, hl1⟩
  by_cases k3 : (inter ++ Utf8.encode rune).toList = [36, 112]
  · by_cases h0 : pre = 0 ∨ pre = 63
    · have e : ansP 4 rune pre inter n rows cols top bottom o r c p m = (modeS m pre n, modeE m pre n) := by unfold ansP; rw [if_neg (by decide), if_neg (by decide), if_neg k1, if_neg k2, if_pos k3, if_pos h0]
      rw [e]
      have cM := fun W (hg : Glob W) (ht : Tab W) => mode_any m pre n W hg ht
      generalize modeS m pre n = sm at *
      generalize modeE m pre n = em at *
      rcases h0 with rfl | rfl
      all_goals
        go_enter Tryd.func13, Tryd.ntmps13
        go_wp2_with (first | (go_at_call 31; (with_reducible refine (cG _ (bl_alloc (bl_alloc (bl_alloc (bl_alloc (Below.refl _ _) _) _) _) _)).mono ?_); rintro e w1 ⟨⟨g, rfl, hg⟩, hb1⟩; obtain ⟨hl1, x0, x1, x2, x3⟩ := four_new _ _ _ _ _ _ _ _ _ _ hb1; have y0 := x0.cell; have y1 := x1.cell; have y2 := x2.cell; have y3 := x3.cell; have z0 := x0.lt; have z1 := x1.lt; have z2 := x2.lt; have z3 := x3.lt; clear hb1) | (go_at_call 20; (with_reducible refine (cM _ (hgl.below hl1) (ht.below hl1)).mono ?_); rintro e w2 ⟨rfl, hb2⟩))
        go_ret2
        exact ⟨rfl, bl_trans hl1 hb2⟩
    · have e : ansP 4 rune pre inter n rows cols top bottom o r c p m = (⟨#[]⟩, 0) := by unfold ansP; rw [if_neg (by decide), if_neg (by decide), if_neg k1, if_neg k2, if_pos k3, if_neg h0]
      rw [e]
      have h1 : ¬ pre = 0 := fun h => h0 (.inl h)
      have h2 : ¬ pre = 63 := fun h => h0 (.inr h)
      have h1' : (pre == 0) = false := by simpa using h1
      have h2' : (pre == 63) = false := by simpa using h2
      go_enter Tryd.func13, Tryd.ntmps13
      go_wp2_with (go_at_call 31; (with_reducible refine (cG _ (bl_alloc (bl_alloc (bl_alloc (bl_alloc (Below.refl _ _) _) _) _) _)).mono ?_); rintro e w1 ⟨⟨g, rfl, hg⟩, hb1⟩; obtain ⟨hl1, x0, x1, x2, x3⟩ := four_new _ _ _ _ _ _ _ _ _ _ hb1; have y0 := x0.cell; have y1 := x1.cell; have y2 := x2.cell; have y3 := x3.cell; have z0 := x0.lt; have z1 := x1.lt; have z2 := x2.lt; have z3 := x3.lt; clear hb1)
      go_ret2
      exact ⟨rfl, hl1⟩
  · have e : ansP 4 rune pre inter n rows cols top bottom o r c p m = (⟨#[]⟩, 0) := by unfold ansP; rw [if_neg (by decide), if_neg (by decide), if_neg k1, if_neg k2, if_neg k3]
    rw [e]
    have k1' : ((inter ++ Utf8.encode rune).toList == [99]) = false := beq_eq_false_iff_ne.2 k1
    have k2' : ((inter ++ Utf8.encode rune).toList == [110]) = false := beq_eq_false_iff_ne.2 k2
    have k3' : ((inter ++ Utf8.encode rune).toList == [36, 112]) = false := beq_eq_false_iff_ne.2 k3
    go_enter Tryd.func13, Tryd.ntmps13
    go_wp2_with (go_at_call 31; (with_reducible refine (cG _ (bl_alloc (bl_alloc (bl_alloc (bl_alloc (Below.refl _ _) _) _) _) _)).mono ?_); rintro e w1 ⟨⟨g, rfl, hg⟩, hb1⟩; obtain ⟨hl1, x0, x1, x2, x3⟩ := four_new _ _ _ _ _ _ _ _ _ _ hb1; have y0 := x0.cell; have y1 := x1.cell; have y2 := x2.cell; have y3 := x3.cell; have z0 := x0.lt; have z1 := x1.lt; have z2 := x2.lt; have z3 := x3.lt; clear hb1)
    go_ret2
    exact ⟨rfl, hl1⟩
theorem ans_any (kind rune pre : Int) (inter text : ByteArray) (v : Value) (xs : List Int) (rows cols top bottom : Int) (o : Bool) (r c : Int) (p : Bool) (m : Md) (w : World) (hv : Rd w .i64 v xs) (hin : inter.size ≤ 140737488355328) (hgl : Glob w) (ht : Tab w) : Calls Tryd.prog 13 #[.agg #[.int .i64 kind, .int .i32 rune, .int .i32 pre, .string inter, v, .string text], .agg #[.int .i64 rows, .int .i64 cols, .int .i64 top, .int .i64 bottom, .bool o], .agg #[.int .i64 r, .int .i64 c, .bool p], .agg #[.bool m.aw, .bool m.ori, .bool m.ins, .bool m.vis, .bool m.app, .bool m.pas, .bool m.sgr, .int .i64 m.ptr, .int .i64 m.alt]] w (AnsE (ansP kind rune pre inter (firstP xs) rows cols top bottom o r c p m) w) := by
  by_cases hk : kind = 4
  · exact ans_ctl kind rune pre inter text v xs rows cols top bottom o r c p m w hv hk hin hgl ht
  · exact ans_esc kind rune pre inter text v xs rows cols top bottom o r c p m w hv hk

end Go.Proofs.YtgaakkgelifgpaaDoor
