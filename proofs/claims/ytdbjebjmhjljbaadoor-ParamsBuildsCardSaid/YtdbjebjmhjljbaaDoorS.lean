/- params: what the laws' own helpers say. -/
import Derived.Test.YtdbjebjmhjljbaaDoorR
import Derived.Test.YtdbjebjmhjljbaaDoorF
import Derived.Outline
set_option linter.unusedSimpArgs false
set_option linter.unusedVariables false
set_option linter.unnecessarySimpa false
namespace Go.Proofs.YtdbjebjmhjljbaaDoor
open Go.RowKit

def fineS (s : ByteArray) : Bool := (bytesOf s).all fineR
def parseL (s : ByteArray) : List Int := if fineS s = true then (bldQ (bytesOf s)).1 else []
def parseE (s : ByteArray) : Int := if fineS s = true then 0 else 6
theorem fineS_iff (s : ByteArray) : fineS s = true ↔ ∀ c ∈ bytesOf s, fineR c = true := by unfold fineS; exact List.all_eq_true
theorem parse_u (s : ByteArray) (w : World) (hs : s.size ≤ 1000000) :
    Calls Tryd.prog 23 #[.string s] w fun e w' => ∃ v, e = .returned (.tuple #[v, .int .i64 (parseE s)]) ∧ Own w' w.heap.size 3 .i64 v (parseL s) ∧ Below w.heap.size w w' := by
  by_cases h : fineS s = true
  · have e1 : parseL s = (bldQ (bytesOf s)).1 := if_pos h
    have e2 : parseE s = 0 := if_pos h
    rw [e1, e2]
    exact parse_any s w hs ((fineS_iff s).1 h)
  · have e1 : parseL s = [] := if_neg h
    have e2 : parseE s = 6 := if_neg h
    rw [e1, e2]
    exact (parse_no s w hs (fun h' => h ((fineS_iff s).2 h'))).mono fun e w' ⟨he, hb⟩ => ⟨_, he, Own.nil _ _ _ _, hb⟩
def textS (xs : List Int) : ByteArray := if validP xs = true then ⟨(textB xs).toArray⟩ else ⟨#[]⟩
def textE (xs : List Int) : Int := if validP xs = true then 0 else 2
theorem text_u (v : Value) (xs : List Int) (w : World) (h : Rd w .i64 v xs) (ht : Tab w) :
    Calls Tryd.prog 22 #[v] w fun e w' => e = .returned (.tuple #[.string (textS xs), .int .i64 (textE xs)]) ∧ Below w.heap.size w w' := by
  by_cases hv : validP xs = true
  · rw [show textS xs = ⟨(textB xs).toArray⟩ from if_pos hv, show textE xs = 0 from if_pos hv]
    exact text_any v xs w h hv ht
  · rw [show textS xs = ⟨#[]⟩ from if_neg hv, show textE xs = 2 from if_neg hv]
    exact text_no v xs w h (by simpa using hv)
theorem parses_t (s : ByteArray) (no : Int) (v : Value) (xs : List Int) (w : World) (hs : s.size ≤ 1000000) (h : Rd w .i64 v xs) (hl : parseL s = xs) (he : parseE s = no) :
    Calls Tryd.prog 17 #[.string s, .int .i64 no, v] w fun e w' => e = .returned (.bool true) ∧ Below w.heap.size w w' := by
  have h0 := h
  obtain ⟨p, cap, rfl, _⟩ := h0
  subst hl he
  go_enter Tryd.func17, Tryd.ntmps17
  go_wp2_with (first | (go_at_call 23; (with_reducible refine (parse_u s _ hs).mono ?_); rintro e w1 ⟨u, rfl, hu, hb1⟩; obtain ⟨p1, n1, c1, hu1⟩ := hu.rd.shape; subst hu1) | (go_at_call 28; (with_reducible refine (same_true _ _ _ _ _ hu.rd (h.below hb1) (Lib.hid rfl)).mono ?_); rintro e w2 ⟨rfl, hb2⟩))
  go_ret
  exact ⟨rfl, bl_trans hb1 hb2⟩
theorem text_t (v : Value) (xs : List Int) (s : ByteArray) (no : Int) (w : World) (h : Rd w .i64 v xs) (ht : Tab w) (hl : textS xs = s) (he : textE xs = no) :
    Calls Tryd.prog 15 #[v, .string s, .int .i64 no] w fun e w' => e = .returned (.bool true) ∧ Below w.heap.size w w' := by
  have h0 := h
  obtain ⟨p, cap, rfl, _⟩ := h0
  subst hl he
  go_enter Tryd.func15, Tryd.ntmps15
  go_wp2_with (first | (go_at_call 22; (with_reducible refine (text_u _ xs _ h ht).mono ?_); rintro e w1 ⟨rfl, hb1⟩))
  go_ret
  exact ⟨rfl, hb1⟩
theorem BldV.below {w w' : World} {D : Nat} {t : TypeId} {pre rest : List Value} {ws : List Int} {ov : Bool} (h : BldV w D t pre rest ws ov) (hb : Below w.heap.size w w') : BldV w' D t pre rest ws ov := by
  obtain ⟨ls, h1, h2, h3, h4⟩ := h
  exact ⟨ls, h1, h2, h3, (hb.block D h4.lt).trans h4⟩
theorem has_t (D : Nat) (t : TypeId) (ws : List Int) (ov : Bool) (v : Value) (xs : List Int) (w : World) (hd : BldV w D t [] [] ws ov) (h : Rd w .i64 v xs) (he : ws = xs) :
    Calls Tryd.prog 21 #[.pointer (some ⟨D, 0, none⟩), v] w fun e w' => e = .returned (.bool true) ∧ Below w.heap.size w w' := by
  have h0 := h
  obtain ⟨p, cap, rfl, _⟩ := h0
  subst he
  have cL : Calls Tryd.prog 27 #[.pointer (some ⟨D, 0, none⟩)] w (RetOwn w 3 .i64 ws) := list_any D t [] [] ws ov w hd
  go_enter Tryd.func21, Tryd.ntmps21
  go_wp2_with (first | (go_at_call 27; (with_reducible refine cL.mono ?_); rintro e w1 ⟨u, rfl, hu, hb1⟩; obtain ⟨p1, n1, c1, hu1⟩ := hu.rd.shape; subst hu1) | (go_at_call 28; (with_reducible refine (same_true _ _ _ _ _ hu.rd (h.below hb1) (Lib.hid rfl)).mono ?_); rintro e w2 ⟨rfl, hb2⟩))
  go_ret
  exact ⟨rfl, bl_trans hb1 hb2⟩
theorem has_nil (w : World) : Calls Tryd.prog 21 #[.pointer none, .slice none 0 0] w fun e w' => e = .returned (.bool true) ∧ Below w.heap.size w w' := by
  go_enter Tryd.func21, Tryd.ntmps21
  go_wp2_with (first | (go_at_call 27; (with_reducible refine (list_nil _).mono ?_); rintro e w1 ⟨rfl, rfl⟩) | (go_at_call 28; (with_reducible refine (same_true _ _ [] [] _ (Rd.nil _ _) (Rd.nil _ _) (Lib.hid rfl)).mono ?_); rintro e w2 ⟨rfl, hb2⟩))
  go_ret
  exact ⟨rfl, hb2⟩
theorem get_c (v : Value) (l : List Int) (i m x : Int) (w : World) (h : Rd w .i64 v l) (hx : getP l i m = x) : Calls Tryd.prog 12 #[v, .int .i64 i, .int .i64 m] w fun e w' => e = .returned (.int .i64 x) ∧ w = w' := by
  rw [← hx]; exact get_any v l i m w h

end Go.Proofs.YtdbjebjmhjljbaaDoor
