/- paste: Clean, Paste, Look. -/
import Derived.Test.YtnihneffgbhjjaaDoorC
import Derived.Test.YtnihneffgbhjjaaDoorB
import Derived.Test.YtnihneffgbhjjaaDoorT
import Derived.Test.YtnihneffgbhjjaaDoorLate3
import Derived.Outline
import Derived.Shelf.Vars
set_option linter.unusedSimpArgs false
set_option linter.unusedVariables false
set_option linter.unnecessarySimpa false
namespace Go.Proofs.YtnihneffgbhjjaaDoor
open Go.RowKit

/-- What the listed variables give. -/
structure Gl (w : World) : Prop where
  u : Lib.Utf8Tabs 0 1 w
  m : ∃ m, w.cell? ⟨2, 0, none⟩ = some (.int .i64 m)
theorem Gl.below {w w' : World} (h : Gl w) (hb : Below w.heap.size w w') : Gl w' := ⟨⟨fun c hc => by
    rw [hb.cell (p := ⟨0, c, none⟩) (World.block_lt_of_cell? w _ (h.u.1 c hc))]
    exact h.u.1 c hc, fun i hi => by
    have h1 := h.u.2 i hi
    exact ⟨by rw [hb.cell (p := ⟨1, 2 * i, none⟩) (World.block_lt_of_cell? w _ h1.1)]; exact h1.1, by rw [hb.cell (p := ⟨1, 2 * i + 1, none⟩) (World.block_lt_of_cell? w _ h1.2)]; exact h1.2⟩⟩,
  h.m.imp fun m hm => (hb.cell (p := ⟨2, 0, none⟩) (World.block_lt_of_cell? w _ hm)).trans hm⟩
/-- The cleaned runes of bytes, and their bytes. -/
def clnD (l : List Int) : List Int := clnR 0 (decL l)
def clnB (l : List Int) : List Int := encL (clnD l)
theorem decL_len (l : List Int) (hl : ∀ x ∈ l, Byte x) : (decL l).length ≤ l.length + 1 := by
  have h1 := feed_len l [] .nil hl
  have h2 : (endO (feedS [] l)).length ≤ 1 := by unfold endO; split <;> simp
  unfold decL
  rw [List.length_append]
  simp only [List.length_nil] at h1
  omega
theorem decL_valid (l : List Int) (hl : ∀ x ∈ l, Byte x) : ∀ r ∈ decL l, validR r = true := by
  intro r hr
  unfold decL at hr
  rcases List.mem_append.1 hr with h | h
  · exact feed_valid l [] .nil hl r h
  · unfold endO at h; split at h <;> simp at h
    subst h; decide
theorem clnD_valid (l : List Int) (hl : ∀ x ∈ l, Byte x) : ∀ r ∈ clnD l, validR r = true := clnR_valid 0 _ (decL_valid l hl)
theorem clnD_len (l : List Int) (hl : ∀ x ∈ l, Byte x) : (clnD l).length ≤ l.length + 1 := Nat.le_trans (clnR_le 0 _) (decL_len l hl)
theorem clnB_len (l : List Int) (hl : ∀ x ∈ l, Byte x) : (clnB l).length ≤ 4 * l.length + 4 := by
  have h1 := (encL_length (clnD l)).2
  have h2 := clnD_len l hl
  unfold clnB; omega
theorem clnB_byte (l : List Int) : ∀ x ∈ clnB l, Byte x := encL_byte _
def ClE (ys : List Int) (w : World) (e : Ending) (w' : World) : Prop := ∃ v, e = .returned (.tuple #[v, .int .i64 0]) ∧ Rd w' .u8 v ys ∧ Below w.heap.size w w'
def ClNo (w : World) (e : Ending) (w' : World) : Prop := e = .returned (.tuple #[.slice none 0 0, .int .i64 5]) ∧ Below w.heap.size w w'
theorem clean_no (vb : Value) (l : List Int) (w : World) (hb : Rd w .u8 vb l) (hlen : 1048576 < l.length) : Calls Tryd.prog 16 #[vb] w (ClNo w) := by
  obtain ⟨p, cap, rfl, h1, h2, h3⟩ := hb
  clear h3
  unfold maxLen at h2
  go_enter Tryd.func16, Tryd.ntmps16
  go_wp2_with fail
  go_ret2
  exact ⟨rfl, Below.refl _ _⟩
set_option maxHeartbeats 1000000 in
theorem clean_ok (vb : Value) (l : List Int) (w : World) (hb : Rd w .u8 vb l) (hl : ∀ x ∈ l, Byte x) (hlen : l.length ≤ 1048576) : Calls Tryd.prog 16 #[vb] w (ClE (clnB l) w) := by
  obtain ⟨p, cap, rfl, h1, h2, h3⟩ := hb
  have hb : Rd w .u8 (.slice p l.length cap) l := ⟨p, cap, rfl, h1, h2, h3⟩
  clear h3 h2 h1
  have cC := fun W (h : Below w.heap.size w W) => clean_any _ l W (hb.below h) hl (by omega)
  unfold CleanE at cC
  have e : ∀ l, encL (clnR 0 (decL l)) = clnB l := fun _ => rfl
  rw [e] at cC
  clear e
  have hsz : (strOfNums (clnB l)).size ≤ maxLen := by have := clnB_len l hl; rw [strOf_size]; unfold maxLen; omega
  have hyb := clnB_byte l
  have hbs := bytesOf_strOf (clnB l) hyb
  have hbs := Lib.hid hbs
  generalize clnB l = ys at *
  go_enter Tryd.func16, Tryd.ntmps16
  go_wp2_with (first | (go_at_call 22; (with_reducible refine (cC _ (Below.refl _ _)).mono ?_); rintro e w1 ⟨rfl, hb1⟩) | (refine wpList_bytes rfl _ 9 22 5 rfl Tryd.underlying9 Tryd.underlying22 Tryd.underlying5 _ rfl hsz ?_; intro v w4 hrd hfr hb4))
  go_ret2
  rw [hbs.out] at hrd
  exact ⟨_, rfl, hrd, bl_trans hb1 hb4⟩

/-- What Paste hands back. -/
def pasteB (br : Bool) (l : List Int) : List Int := if clnB l = [] ∨ br = false then clnB l else [27, 91, 50, 48, 48, 126] ++ clnB l ++ [27, 91, 50, 48, 49, 126]
theorem paste_no (vb : Value) (br : Bool) (l : List Int) (w : World) (hb : Rd w .u8 vb l) (hlen : 1048576 < l.length) : Calls Tryd.prog 20 #[vb, .bool br] w (ClNo w) := by
  obtain ⟨p, n, cap, hv⟩ := hb.shape
  subst hv
  have cC := fun W (h : Below w.heap.size w W) => clean_no _ l W (hb.below h) hlen
  unfold ClNo at cC
  go_enter Tryd.func20, Tryd.ntmps20
  go_wp2_with (first | (go_at_call 16; (with_reducible refine (cC _ (Below.refl _ _)).mono ?_); rintro e w1 ⟨rfl, hb1⟩))
  go_ret2
  exact ⟨rfl, hb1⟩
set_option maxHeartbeats 1000000 in
theorem paste_ok (vb : Value) (br : Bool) (l : List Int) (w : World) (hb : Rd w .u8 vb l) (hl : ∀ x ∈ l, Byte x) (hlen : l.length ≤ 1048576) : Calls Tryd.prog 20 #[vb, .bool br] w (ClE (pasteB br l) w) := by
  obtain ⟨p, n, cap, hv⟩ := hb.shape
  subst hv
  have cC := fun W (h : Below w.heap.size w W) => clean_ok _ l W (hb.below h) hl hlen
  unfold ClE at cC
  have hsz : (clnB l).length ≤ 4 * l.length + 4 := clnB_len l hl
  have hyb := clnB_byte l
  have HP : Hid (pasteB br l = if clnB l = [] ∨ br = false then clnB l else [27, 91, 50, 48, 48, 126] ++ clnB l ++ [27, 91, 50, 48, 49, 126]) := Lib.hid rfl
  generalize pasteB br l = out at *
  generalize clnB l = ys at *
  by_cases h0 : ys = []
  · subst h0
    rw [if_pos (.inl rfl)] at HP
    have HP := HP.out
    subst HP
    go_enter Tryd.func20, Tryd.ntmps20
    go_wp2_with (first | (go_at_call 16; (with_reducible refine (cC _ (Below.refl _ _)).mono ?_); rintro e w1 ⟨v, rfl, hrd, hb1⟩; obtain ⟨p1, c1, hv1, hq1, hq2, hq3⟩ := hrd; subst hv1; have hrd2 : Rd w1 .u8 (.slice p1 0 c1) [] := ⟨p1, c1, rfl, hq1, hq2, hq3⟩; clear hq1 hq2 hq3))
    go_ret2
    exact ⟨_, rfl, hrd2, hb1⟩
  · have hpos : 0 < ys.length := List.length_pos_iff.2 h0
    have hz0 : ((ys.length : Int) == 0) = false := by rw [beq_eq_false_iff_ne]; omega
    cases br
    · rw [if_pos (.inr rfl)] at HP
      have HP := HP.out
      subst HP
      go_enter Tryd.func20, Tryd.ntmps20
      go_wp2_with (first | (go_at_call 16; (with_reducible refine (cC _ (Below.refl _ _)).mono ?_); rintro e w1 ⟨v, rfl, hrd, hb1⟩; obtain ⟨p1, c1, hv1, hq1, hq2, hq3⟩ := hrd; subst hv1; have hrd : Rd w1 .u8 (.slice p1 out.length c1) out := ⟨p1, c1, rfl, hq1, hq2, hq3⟩; clear hq1 hq2 hq3))
      go_ret2
      exact ⟨_, rfl, hrd, hb1⟩
    · rw [if_neg (by simp [h0])] at HP
      have hbs : bytesOf (((⟨#[27, 91, 50, 48, 48, 126]⟩ : ByteArray) ++ strOfNums ys) ++ (⟨#[27, 91, 50, 48, 49, 126]⟩ : ByteArray)) = out := by
        rw [HP.out]
        have e : ((⟨#[27, 91, 50, 48, 48, 126]⟩ : ByteArray) ++ strOfNums ys) ++ (⟨#[27, 91, 50, 48, 49, 126]⟩ : ByteArray) = strOfNums ([27, 91, 50, 48, 48, 126] ++ ys ++ [27, 91, 50, 48, 49, 126]) := by rw [strOf_append, strOf_append]; rfl
        rw [e, bytesOf_strOf _ (fun x hx => by
          simp only [List.mem_append] at hx
          rcases hx with (hx | hx) | hx
          · simp at hx; unfold Byte; omega
          · exact hyb x hx
          · simp at hx; unfold Byte; omega)]
      have hbs := Lib.hid hbs
      have hsz1 : (strOfNums ys).size ≤ 4 * l.length + 4 := by rw [strOf_size]; exact hsz
      have hsz2 : (((⟨#[27, 91, 50, 48, 48, 126]⟩ : ByteArray) ++ strOfNums ys) ++ (⟨#[27, 91, 50, 48, 49, 126]⟩ : ByteArray)).size ≤ maxLen := by
        rw [ByteArray.size_append, ByteArray.size_append]
        show 6 + _ + 6 ≤ maxLen
        unfold maxLen; omega
      have HY : Hid (∀ W v, Rd W .u8 v ys → (convert 22 9 v).run Tryd.prog W = .ok (.string (strOfNums ys)) W) := Lib.hid fun W v h => run_str (P := Tryd.prog) 22 9 5 Tryd.underlying22 Tryd.underlying5 Tryd.underlying9 h
      generalize strOfNums ys = S at *
      clear HP h0
      go_enter Tryd.func20, Tryd.ntmps20
      go_wp2_with (first | (go_at_call 16; (with_reducible refine (cC _ (Below.refl _ _)).mono ?_); rintro e w1 ⟨v, rfl, hrd, hb1⟩; obtain ⟨p1, c1, hv1, hq1, hq2, hq3⟩ := hrd; subst hv1; have kc := HY.out w1 (.slice p1 ys.length c1) ⟨p1, c1, rfl, hq1, hq2, hq3⟩; clear hq1 hq2 hq3) | (refine wpList_bytes rfl _ 9 22 5 rfl Tryd.underlying9 Tryd.underlying22 Tryd.underlying5 _ rfl hsz2 ?_; intro v w4 hrd hfr hb4))
      go_ret2
      rw [hbs.out] at hrd
      exact ⟨_, rfl, hrd, bl_trans hb1 hb4⟩

end Go.Proofs.YtnihneffgbhjjaaDoor
