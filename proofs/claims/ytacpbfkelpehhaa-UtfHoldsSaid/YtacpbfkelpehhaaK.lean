/- utf: the examples of the chapter. -/
import Derived.Test.YtacpbfkelpehhaaY
import Derived.Outline
set_option linter.unusedSimpArgs false
set_option linter.unusedVariables false
set_option linter.unnecessarySimpa false
namespace Go.Proofs.Ytacpbfkelpehhaa
open Go.RowKit
attribute [local go_sem ↓] Go.wp_at_zero Go.wp_at_succ

theorem same_true (v1 v2 : Value) (xs ys : List Int) (w : World) (h1 : Rd w .i32 v1 xs) (h2 : Rd w .i32 v2 ys) (h : Hid (xs = ys)) :
    Calls Try.prog 10 #[v1, v2] w fun e w' => e = .returned (.bool true) ∧ Below w.heap.size w w' := by
  have := h.out
  subst this
  have e : sameB xs xs = true := by simp [sameB]
  rw [← e]
  exact same_any v1 v2 xs xs w h1 h2
theorem step_c (D : Nat) (t : TypeId) (rest : List Value) (bv : Value) (bs : List Int) (c : Int) (o s : List Int) (w : World) (hd : DecV w D t rest bv bs) (hwf : Wf bs) (hc : Byte c) (ho : stepO bs c = o) (hs : stepS bs c = s) :
    Calls Try.prog 21 #[.pointer (some ⟨D, 0, none⟩), .int .u8 c] w (Stepped D t rest w o s) := by
  subst ho hs; exact step_any D t rest bv bs c w hd hwf hwf.bytes hc
theorem feed_c (D : Nat) (t : TypeId) (rest : List Value) (bv vb : Value) (bs l o s : List Int) (w : World) (hd : DecV w D t rest bv bs) (hwf : Wf bs) (hb : Rd w .u8 vb l) (hap : Apart vb D) (hl : ∀ x ∈ l, Byte x) (hlen : l.length ≤ 1000000000) (ho : feedO bs l = o) (hs : feedS bs l = s) :
    Calls Try.prog 17 #[.pointer (some ⟨D, 0, none⟩), vb] w (Fed D t rest bv w o s) := by
  subst ho hs; exact feed_any D t rest bv vb bs l w hd hwf hb hap hl hlen
theorem end_c (D : Nat) (t : TypeId) (rest : List Value) (bv : Value) (bs o : List Int) (w : World) (hd : DecV w D t rest bv bs) (ho : endO bs = o) :
    Calls Try.prog 19 #[.pointer (some ⟨D, 0, none⟩)] w (Ended D t rest bv w o) := by
  subst ho; exact end_any D t rest bv bs w hd
theorem valid_c (r : Int) (b : Bool) (w : World) (h : validR r = b) : Calls Try.prog 13 #[.int .i32 r] w fun e w' => e = .returned (.bool b) ∧ w = w' := by
  rw [← h]; exact valid_any r w
theorem kd0 : decL (bytesOf ⟨#[97, 195, 169, 226, 130, 172, 240, 159, 152, 128]⟩) = [97, 233, 8364, 128512] := by decide
theorem kd1 : decL (bytesOf ⟨#[226, 130, 65]⟩) = [65533, 65] := by decide
theorem kd2 : decL (bytesOf ⟨#[192, 175]⟩) = [65533, 65533] := by decide
theorem kd3 : decL (bytesOf ⟨#[237, 160, 128]⟩) = [65533, 65533, 65533] := by decide
theorem kd4 : decL (bytesOf ⟨#[244, 144, 128, 128]⟩) = [65533, 65533, 65533, 65533] := by decide
theorem kd5 : decL (bytesOf ⟨#[226, 130]⟩) = [65533] := by decide
theorem ke0 : strOfNums (encL [97, 233, 8364, 128512]) = ⟨#[97, 195, 169, 226, 130, 172, 240, 159, 152, 128]⟩ := by decide
theorem ke1 : strOfNums (encL [55296, 1114112, -1]) = ⟨#[239, 191, 189, 239, 191, 189, 239, 191, 189]⟩ := by decide
theorem ks1 : strOfNums [240, 159] = ⟨#[240, 159]⟩ := by decide
theorem ks2 : strOfNums [195] = ⟨#[195]⟩ := by decide
theorem DecV.below {w w' : World} {D : Nat} {t : TypeId} {rest : List Value} {bv : Value} {bs : List Int} (h : DecV w D t rest bv bs) (hb : Below w.heap.size w w') : DecV w' D t rest bv bs := h.kept (grown_none hb) (by simp) (by cases bv.ownBlock <;> simp)

set_option maxRecDepth 100000 in
set_option maxHeartbeats 4000000 in
theorem known_any (w : World) : Calls Try.prog 9 #[] w fun e w' => e = .returned (.bool true) ∧ Below w.heap.size w w' := by
  go_enter Try.func9, Try.ntmps9
  go_wp2_with (first | (go_at_call 23; (with_reducible refine (decodes_any ⟨#[97, 195, 169, 226, 130, 172, 240, 159, 152, 128]⟩ (by decide) _ [97, 233, 8364, 128512] _ (Rd.lit4 _ _ _ _ _ _ _ _ (by simp)) kd0).mono ?_); rintro e d0 ⟨rfl, hb0⟩) | (go_at_call 23; (with_reducible refine (decodes_any ⟨#[226, 130, 65]⟩ (by decide) _ [65533, 65] _ (Rd.lit2 _ _ _ _ _ _ (by simp)) kd1).mono ?_); rintro e d1 ⟨rfl, hb1⟩) | (go_at_call 23; (with_reducible refine (decodes_any ⟨#[192, 175]⟩ (by decide) _ [65533, 65533] _ (Rd.lit2 _ _ _ _ _ _ (by simp)) kd2).mono ?_); rintro e d2 ⟨rfl, hb2⟩) | (go_at_call 23; (with_reducible refine (decodes_any ⟨#[237, 160, 128]⟩ (by decide) _ [65533, 65533, 65533] _ (Rd.lit3 _ _ _ _ _ _ _ (by simp)) kd3).mono ?_); rintro e d3 ⟨rfl, hb3⟩) | (go_at_call 23; (with_reducible refine (decodes_any ⟨#[244, 144, 128, 128]⟩ (by decide) _ [65533, 65533, 65533, 65533] _ (Rd.lit4 _ _ _ _ _ _ _ _ (by simp)) kd4).mono ?_); rintro e d4 ⟨rfl, hb4⟩) | (go_at_call 23; (with_reducible refine (decodes_any ⟨#[226, 130]⟩ (by decide) _ [65533] _ (Rd.lit1 _ _ _ _ _ (by simp)) kd5).mono ?_); rintro e d5 ⟨rfl, hb5⟩; have hbD : Below w.heap.size w d5 := bl_trans (bl_alloc (bl_trans (bl_alloc (bl_trans (bl_alloc (bl_trans (bl_alloc (bl_trans (bl_alloc (bl_trans (bl_alloc (bl_trans (bl_alloc (Below.refl _ _) _) hb0) _) hb7) _) hb1) _) hb2) _) hb3) _) hb4) _) hb5) | (go_at_call 24; (with_reducible refine (encodes_any ⟨#[97, 195, 169, 226, 130, 172, 240, 159, 152, 128]⟩ _ [97, 233, 8364, 128512] _ (Rd.lit4 _ _ _ _ _ _ _ _ (by simp)) (by decide) ke0).mono ?_); rintro e d7 ⟨rfl, hb7⟩) | (go_at_call 17; (with_reducible refine (feed_c d5.heap.size 35 [] (.slice none 0 0) _ [] [240, 159] [] [240, 159] _ ((DecV.zero d5 _ rfl).below ((Below.refl _ _).alloc (Nat.le_refl _) _)) .nil (Rd.lit2 _ _ _ _ _ _ (by simp)) (Apart.at (by simp)) (by simp [Byte]) (by simp) (by decide) (by decide)).mono ?_); rintro e e1 ⟨v, bv1, rfl, hv, hbar1, hd1, hfr1, hoff1⟩; have hl1 := Bar.to_below (bl_alloc (bl_alloc hbD _) _) hbar1 hbD.size; obtain ⟨p1, c1, hv1', _, _, _⟩ := hv.rd; subst hv1') | (go_at_call 18; (with_reducible refine (pending_any _ _ _ _ _ _ hd1 (by simp)).mono ?_); rintro e e2 ⟨v, rfl, hv, hbl⟩; have kc1 := run_str (P := Try.prog) 22 9 5 Try.underlying22 Try.underlying5 Try.underlying9 hv.rd; rw [ks1] at kc1; have hd2 := hd1.below hbl; have hl2 := bl_trans hl1 hbl; clear hd1) | (go_at_call 21; (with_reducible refine (step_c _ _ _ _ [240, 159] 152 [] [240, 159, 152] _ hd2 (by constructor <;> omega) (by simp [Byte]) (by decide) (by decide)).mono ?_); rintro e e3 ⟨v, bv2, rfl, hv, hvf, hbar, hd3, hbf⟩; have hl3 := Bar.to_below hl2 hbar hbD.size; obtain ⟨p3, c3, hv3', _, _, _⟩ := hv; subst hv3'; clear hd2 hv kc1) | (go_at_call 21; (with_reducible refine (step_c _ _ _ _ [240, 159, 152] 195 [65533] [195] _ hd3 (by constructor <;> omega) (by simp [Byte]) (by decide) (by decide)).mono ?_); rintro e e4 ⟨v4, bv3, rfl, hv4, hvf, hbar, hd4, hbf⟩; have hl4 := Bar.to_below hl3 hbar hbD.size; clear hd3) | (go_at_call 10; (with_reducible refine (same_true _ _ [65533] [65533] _ (hv4.below ((Below.refl _ _).alloc (Nat.le_refl _) _)) (Rd.lit1 _ _ _ _ _ (by simp)) (Lib.hid rfl)).mono ?_); rintro e e5 ⟨rfl, hbl⟩; have hd5 := hd4.below (((Below.refl _ _).alloc (Nat.le_refl _) _).trans (hbl.mono (by simp))); have hl5 := bl_trans (bl_alloc hl4 _) hbl; clear hd4) | (go_at_call 18; (with_reducible refine (pending_any _ _ _ _ _ _ hd5 (by simp)).mono ?_); rintro e e6 ⟨v, rfl, hv, hbl⟩; have kc2 := run_str (P := Try.prog) 22 9 5 Try.underlying22 Try.underlying5 Try.underlying9 hv.rd; rw [ks2] at kc2; have hd6 := hd5.below hbl; have hl6 := bl_trans hl5 hbl; clear hd5) | (go_at_call 21; (with_reducible refine (step_c _ _ _ _ [195] 169 [233] [] _ hd6 (by constructor <;> omega) (by simp [Byte]) (by decide) (by decide)).mono ?_); rintro e e7 ⟨v7, bv4, rfl, hv7, hvf, hbar, hd7, hbf⟩; have hl7 := Bar.to_below hl6 hbar hbD.size; clear hd6 kc2) | (go_at_call 10; (with_reducible refine (same_true _ _ [233] [233] _ (hv7.below ((Below.refl _ _).alloc (Nat.le_refl _) _)) (Rd.lit1 _ _ _ _ _ (by simp)) (Lib.hid rfl)).mono ?_); rintro e e8 ⟨rfl, hbl⟩; have hd8 := hd7.below (((Below.refl _ _).alloc (Nat.le_refl _) _).trans (hbl.mono (by simp))); have hl8 := bl_trans (bl_alloc hl7 _) hbl; clear hd7) | (go_at_call 19; (with_reducible refine (end_c _ _ _ _ [] [] _ hd8 (by decide)).mono ?_); rintro e e9 ⟨v, bv5, rfl, hv, hvf, hbar, hd9, hbf⟩; have hl9 := Bar.to_below hl8 hbar hbD.size; obtain ⟨p9, c9, hv9', _, _, _⟩ := hv; subst hv9'; clear hd8) | (go_at_call 24; (with_reducible refine (encodes_any ⟨#[239, 191, 189, 239, 191, 189, 239, 191, 189]⟩ _ [55296, 1114112, -1] _ (Rd.lit3 _ _ _ _ _ _ _ (by simp)) (by decide) ke1).mono ?_); rintro e e10 ⟨rfl, hbl⟩; have hl10 := bl_trans (bl_alloc hl9 _) hbl) | (go_at_call 13; (with_reducible refine (valid_c 57343 false _ (by decide)).mono ?_); rintro e w' ⟨rfl, rfl⟩) | (go_at_call 13; (with_reducible refine (valid_c 57344 true _ (by decide)).mono ?_); rintro e w' ⟨rfl, rfl⟩) | (go_at_call 13; (with_reducible refine (valid_c 1114111 true _ (by decide)).mono ?_); rintro e w' ⟨rfl, rfl⟩))
  go_ret
  exact ⟨rfl, hl10⟩

end Go.Proofs.Ytacpbfkelpehhaa
