/- utf: the decoder's Step, whole. -/
import Derived.Test.YtnihneffgbhjjaaDoorUEw
import Derived.Test.YtnihneffgbhjjaaDoorLate
import Derived.Outline
set_option linter.unusedSimpArgs false
set_option linter.unusedVariables false
set_option linter.unnecessarySimpa false
namespace Go.Proofs.YtnihneffgbhjjaaDoor
open Go.RowKit

theorem DecV.rd {w : World} {D : Nat} {t : TypeId} {rest : List Value} {bv : Value} {bs : List Int} (h : DecV w D t rest bv bs) : Rd w .u8 bv bs := by
  obtain ⟨m, lo, hi, _, hr, _⟩ := h; exact hr
theorem DecV.lt {w : World} {D : Nat} {t : TypeId} {rest : List Value} {bv : Value} {bs : List Int} (h : DecV w D t rest bv bs) : D < w.heap.size := by
  obtain ⟨m, lo, hi, hx, _⟩ := h; exact hx.lt
theorem DecV.kept {w w' : World} {D : Nat} {t : TypeId} {rest : List Value} {bv : Value} {bs : List Int} {row : Option Nat} (h : DecV w D t rest bv bs) (hg : w.grownBy w' row) (h1 : row ≠ some D) (h2 : bv.ownBlock = none ∨ bv.ownBlock ≠ row) : DecV w' D t rest bv bs := by
  obtain ⟨m, lo, hi, hx, hr, ha, hf⟩ := h
  exact ⟨m, lo, hi, (hg.block D hx.lt (fun e => h1 e.symm)).trans hx, hr.kept hg h2, ha, hf⟩
theorem step_nilptr (c : Int) (w : World) : Calls Tryd.prog 41 #[.pointer none, .int .u8 c] w fun e w' => e = .returned (.slice none 0 0) ∧ w = w' := by
  go_enter Tryd.func41, Tryd.ntmps41
  go_wp2_with fail
  go_ret
  exact ⟨rfl, rfl⟩

set_option maxRecDepth 100000 in
theorem step_empty (D : Nat) (t : TypeId) (rest : List Value) (bv : Value) (c : Int) (w : World) (hd : DecV w D t rest bv []) (hc : 0 ≤ c ∧ c < 256) :
    Calls Tryd.prog 41 #[.pointer (some ⟨D, 0, none⟩), .int .u8 c] w (Stepped D t rest w (beginO c) (beginS c)) := by
  obtain ⟨m, lo, hi, hx, hrd, hap, _⟩ := hd
  obtain ⟨p, cap, rfl, l1, m1, c1⟩ := hrd
  have x1 := hx.cell
  have x2 := hx.free
  have x3 := hx.lt
  simp only [List.cons_append, List.nil_append] at x1
  clear c1
  go_enter Tryd.func41, Tryd.ntmps41
  go_wp2_with (go_at_call 50; refine (begin_any D t rest _ m lo hi c w hx hc).mono ?_; rintro e w1 ⟨v, bv', rfl, hv⟩)
  go_ret
  exact ⟨v, bv', rfl, hv⟩

set_option maxRecDepth 100000 in
set_option maxHeartbeats 1000000 in
theorem step_broken (D : Nat) (t : TypeId) (rest : List Value) (b off cap : Nat) (bs : List Int) (m lo hi c : Int) (w : World) (hx : Box w D ([Value.slice (some ⟨b, off, none⟩) bs.length cap, .int .i64 m, .int .u8 lo, .int .u8 hi] ++ rest).toArray t) (hc : c < lo ∨ hi < c) (hc2 : 0 ≤ c ∧ c < 256)
    (hl : 0 < bs.length) :
    Calls Tryd.prog 41 #[.pointer (some ⟨D, 0, none⟩), .int .u8 c] w (Stepped D t rest w (65533 :: beginO c) (beginS c)) := by
  have x1 := hx.cell
  have x2 := hx.free
  have x3 := hx.lt
  simp only [List.cons_append, List.nil_append] at x1
  have z3 : (bs.length : Int) ≠ 0 := by omega
  have hx2 := hx.alloc (.cells #[.int .i32 65533] 21)
  have hbO : (beginO c).length ≤ 1 := by unfold beginO; (repeat' split) <;> simp
  by_cases hlo : c < lo
  all_goals (try (have hhi : hi < c := by omega))
  all_goals
    clear hc
    go_enter Tryd.func41, Tryd.ntmps41
    go_wp2_with (first | (go_at_call 50; refine (begin_any D t rest _ m lo hi c _ hx2 hc2).mono ?_; rintro e w1 ⟨v, bv', rfl, hv1, hv2, hv3, hv4⟩) | (at_builtin; refine wpList_appw rfl _ _ 25 21 .i32 4 rfl Tryd.underlying25 el32 w.heap.size _ _ [65533] (beginO c) (Own.bar (Own.lit1 w _ _ _ _ _ rfl (Nat.le_refl _)) hv3 (by simp [Value.ownBlock]; omega)) hv1 rfl rfl (by simp [maxLen]; omega) (by simp; omega) (by have := hv3.size; simp at this; omega) ?_; intro v' w2 hown' hgrow hwhere))
    go_ret
    have hs := hv3.size
    simp at hs
    have hrow : ∀ g, Value.ownBlock (.slice (some ⟨w.heap.size, 0, none⟩) 1 1) = some g → g = w.heap.size := fun g h => by simp [Value.ownBlock] at h; exact h.symm
    have hbar : Bar D w w2 := Bar.app (Bar.trans (Bar.alloc (Bar.refl D w) _) hv3) hgrow (fun g h => by rw [hrow g h]; exact Nat.le_refl _)
    have hfr : ∀ g, v'.ownBlock = some g → w.heap.size ≤ g := fun g h => ((Own.block hown') g h).1
    have hbv := Rd.fresh hv4.1.rd hv4.2
    refine ⟨v', bv', rfl, Own.rd hown', (Own.rd hown').freshOf hfr, hbar, hv4.1.kept hgrow (by simp [Value.ownBlock]; omega) ?_, hv4.2.older (by simp)⟩
    refine .inr fun e => ?_
    have := hbv w.heap.size (by rw [e]; rfl)
    simp at this
    omega

/-- Step, whatever is pending. -/
theorem step_any (D : Nat) (t : TypeId) (rest : List Value) (bv : Value) (bs : List Int) (c : Int) (w : World) (hd : DecV w D t rest bv bs) (hwf : Wf bs) (hby : ∀ x ∈ bs, Byte x) (hc : Byte c) :
    Calls Tryd.prog 41 #[.pointer (some ⟨D, 0, none⟩), .int .u8 c] w (Stepped D t rest w (stepO bs c) (stepS bs c)) := by
  by_cases hn : bs = []
  · subst hn
    rw [show stepO [] c = beginO c by simp [stepO], show stepS [] c = beginS c by simp [stepS]]
    exact step_empty D t rest bv c w hd hc
  · obtain ⟨m, lo, hi, hx, hrd, hap, hf⟩ := hd
    obtain ⟨hm, hlo, hhi⟩ := hf hn
    obtain ⟨p, cap, rfl, l1, m1, c1⟩ := hrd
    have hl := List.length_pos_iff.2 hn
    rcases c1 with ⟨rfl, rfl⟩ | ⟨b, off, rfl, hlb, hcell⟩
    · omega
    · cases hb : inB bs c with
      | false =>
        rw [show stepO bs c = 65533 :: beginO c by simp [stepO, hb, hn], show stepS bs c = beginS c by simp [stepS, hb]]
        have : ¬ (lo ≤ c ∧ c ≤ hi) := by rw [hlo, hhi]; simpa [inB] using hb
        exact step_broken D t rest b off cap bs m lo hi c w hx (by omega) hc hl
      | true =>
        have hin : lo ≤ c ∧ c ≤ hi := by rw [hlo, hhi]; simpa [inB] using hb
        have hne : b ≠ D := hap b off _ _ rfl
        have hlen := hwf.len
        have hmb : 1 ≤ moreOf bs ∧ moreOf bs ≤ 3 := by
          cases hwf with
          | nil => exact absurd rfl hn
          | one a h1 h2 => simp [moreOf, needOf]; (repeat' split) <;> omega
          | two a b h1 h2 h3 h4 h5 h6 h7 h8 => simp [moreOf, needOf]; (repeat' split) <;> omega
          | three a b c h1 h2 h3 h4 h5 h6 h7 h8 => simp [moreOf, needOf]; (repeat' split) <;> omega
        by_cases h1 : 1 < moreOf bs
        · rw [show stepO bs c = [] by simp [stepO, hb, hn, h1], show stepS bs c = bs ++ [c] by simp [stepS, hb, hn, h1]]
          exact step_more D t rest b off cap bs m lo hi c w hx hin hne hlb l1 m1 ⟨hl, hlen⟩ hcell (by omega) hm
        · rw [show stepO bs c = [runeOf (bs ++ [c])] by simp [stepO, hb, hn, h1], show stepS bs c = [] by simp [stepS, hb, hn, h1]]
          exact step_whole D t rest b off cap bs m lo hi c w hx hin hne hlb l1 m1 ⟨hl, hlen⟩ hcell (by omega) (fun x hx => by rcases List.mem_append.1 hx with h | h; exact hby x h; simp at h; subst h; exact hc)

end Go.Proofs.YtnihneffgbhjjaaDoor
