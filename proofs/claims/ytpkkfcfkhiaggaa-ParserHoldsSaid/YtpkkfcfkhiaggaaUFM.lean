/- utf: the decoder's Step, whole. utf: Feed, End, Pending, Copy, Decode. utf: End, Pending, Copy, Decode; a nil decoder. -/
import Derived.Test.YtpkkfcfkhiaggaaUEw
import Derived.Test.YtpkkfcfkhiaggaaLate
import Derived.Outline
set_option linter.unusedSimpArgs false
set_option linter.unusedVariables false
set_option linter.unnecessarySimpa false
namespace Go.Proofs.Ytpkkfcfkhiaggaa
open Go.RowKit

theorem DecV.rd {w : World} {D : Nat} {t : TypeId} {rest : List Value} {bv : Value} {bs : List Int} (h : DecV w D t rest bv bs) : Rd w .u8 bv bs := by
  obtain ⟨m, lo, hi, _, hr, _⟩ := h; exact hr
theorem DecV.lt {w : World} {D : Nat} {t : TypeId} {rest : List Value} {bv : Value} {bs : List Int} (h : DecV w D t rest bv bs) : D < w.heap.size := by
  obtain ⟨m, lo, hi, hx, _⟩ := h; exact hx.lt
theorem DecV.kept {w w' : World} {D : Nat} {t : TypeId} {rest : List Value} {bv : Value} {bs : List Int} {row : Option Nat} (h : DecV w D t rest bv bs) (hg : w.grownBy w' row) (h1 : row ≠ some D) (h2 : bv.ownBlock = none ∨ bv.ownBlock ≠ row) : DecV w' D t rest bv bs := by
  obtain ⟨m, lo, hi, hx, hr, ha, hf⟩ := h
  exact ⟨m, lo, hi, (hg.block D hx.lt (fun e => h1 e.symm)).trans hx, hr.kept hg h2, ha, hf⟩
theorem step_nilptr (c : Int) (w : World) : Calls Try.prog 57 #[.pointer none, .int .u8 c] w fun e w' => e = .returned (.slice none 0 0) ∧ w = w' := by
  go_enter Try.func57, Try.ntmps57
  go_wp2_with fail
  go_ret
  exact ⟨rfl, rfl⟩

set_option maxRecDepth 100000 in
theorem step_empty (D : Nat) (t : TypeId) (rest : List Value) (bv : Value) (c : Int) (w : World) (hd : DecV w D t rest bv []) (hc : 0 ≤ c ∧ c < 256) :
    Calls Try.prog 57 #[.pointer (some ⟨D, 0, none⟩), .int .u8 c] w (Stepped D t rest w (beginO c) (beginS c)) := by
  obtain ⟨m, lo, hi, hx, hrd, hap, _⟩ := hd
  obtain ⟨p, cap, rfl, l1, m1, c1⟩ := hrd
  have x1 := hx.cell
  have x2 := hx.free
  have x3 := hx.lt
  simp only [List.cons_append, List.nil_append] at x1
  clear c1
  go_enter Try.func57, Try.ntmps57
  go_wp2_with (go_at_call 73; refine (begin_any D t rest _ m lo hi c w hx hc).mono ?_; rintro e w1 ⟨v, bv', rfl, hv⟩)
  go_ret
  exact ⟨v, bv', rfl, hv⟩

set_option maxRecDepth 100000 in
set_option maxHeartbeats 1000000 in
theorem step_broken (D : Nat) (t : TypeId) (rest : List Value) (b off cap : Nat) (bs : List Int) (m lo hi c : Int) (w : World) (hx : Box w D ([Value.slice (some ⟨b, off, none⟩) bs.length cap, .int .i64 m, .int .u8 lo, .int .u8 hi] ++ rest).toArray t) (hc : c < lo ∨ hi < c) (hc2 : 0 ≤ c ∧ c < 256)
    (hl : 0 < bs.length) :
    Calls Try.prog 57 #[.pointer (some ⟨D, 0, none⟩), .int .u8 c] w (Stepped D t rest w (65533 :: beginO c) (beginS c)) := by
  have x1 := hx.cell
  have x2 := hx.free
  have x3 := hx.lt
  simp only [List.cons_append, List.nil_append] at x1
  have z3 : (bs.length : Int) ≠ 0 := by omega
  have hx2 := hx.alloc (.cells #[.int .i32 65533] 21)
  have hbO : (beginO c).length ≤ 1 := by unfold beginO; (repeat' split) <;> simp
  by_cases hlo : c < lo
  all_goals (try (have hhi : hi < c := by omega))
  all_goals
    clear hc
    go_enter Try.func57, Try.ntmps57
    go_wp2_with (first | (go_at_call 73; refine (begin_any D t rest _ m lo hi c _ hx2 hc2).mono ?_; rintro e w1 ⟨v, bv', rfl, hv1, hv2, hv3, hv4⟩) | (at_builtin; refine wpList_appw rfl _ _ 45 21 .i32 4 rfl Try.underlying45 el32 w.heap.size _ _ [65533] (beginO c) (Own.bar (Own.lit1 w _ _ _ _ _ rfl (Nat.le_refl _)) hv3 (by simp [Value.ownBlock]; omega)) hv1 rfl rfl (by simp [maxLen]; omega) (by simp; omega) (by have := hv3.size; simp at this; omega) ?_; intro v' w2 hown' hgrow hwhere))
    go_ret
    have hs := hv3.size
    simp at hs
    have hrow : ∀ g, Value.ownBlock (.slice (some ⟨w.heap.size, 0, none⟩) 1 1) = some g → g = w.heap.size := fun g h => by simp [Value.ownBlock] at h; exact h.symm
    have hbar : Bar D w w2 := Bar.app (Bar.trans (Bar.alloc (Bar.refl D w) _) hv3) hgrow (fun g h => by rw [hrow g h]; exact Nat.le_refl _)
    have hfr : ∀ g, v'.ownBlock = some g → w.heap.size ≤ g := fun g h => ((Own.block hown') g h).1
    have hbv := Rd.fresh hv4.1.rd hv4.2
    refine ⟨v', bv', rfl, Own.rd hown', (Own.rd hown').freshOf hfr, hbar, hv4.1.kept hgrow (by simp [Value.ownBlock]; omega) ?_, hv4.2.older (by simp)⟩
    refine .inr fun e => ?_
    have := hbv w.heap.size (by rw [e]; rfl)
    simp at this
    omega

/-- Step, whatever is pending. -/
theorem step_any (D : Nat) (t : TypeId) (rest : List Value) (bv : Value) (bs : List Int) (c : Int) (w : World) (hd : DecV w D t rest bv bs) (hwf : Wf bs) (hby : ∀ x ∈ bs, Byte x) (hc : Byte c) :
    Calls Try.prog 57 #[.pointer (some ⟨D, 0, none⟩), .int .u8 c] w (Stepped D t rest w (stepO bs c) (stepS bs c)) := by
  by_cases hn : bs = []
  · subst hn
    rw [show stepO [] c = beginO c by simp [stepO], show stepS [] c = beginS c by simp [stepS]]
    exact step_empty D t rest bv c w hd hc
  · obtain ⟨m, lo, hi, hx, hrd, hap, hf⟩ := hd
    obtain ⟨hm, hlo, hhi⟩ := hf hn
    obtain ⟨p, cap, rfl, l1, m1, c1⟩ := hrd
    have hl := List.length_pos_iff.2 hn
    rcases c1 with ⟨rfl, rfl⟩ | ⟨b, off, rfl, hlb, hcell⟩
    · omega
    · cases hb : inB bs c with
      | false =>
        rw [show stepO bs c = 65533 :: beginO c by simp [stepO, hb, hn], show stepS bs c = beginS c by simp [stepS, hb]]
        have : ¬ (lo ≤ c ∧ c ≤ hi) := by rw [hlo, hhi]; simpa [inB] using hb
        exact step_broken D t rest b off cap bs m lo hi c w hx (by omega) hc hl
      | true =>
        have hin : lo ≤ c ∧ c ≤ hi := by rw [hlo, hhi]; simpa [inB] using hb
        have hne : b ≠ D := hap b off _ _ rfl
        have hlen := hwf.len
        have hmb : 1 ≤ moreOf bs ∧ moreOf bs ≤ 3 := by
          cases hwf with
          | nil => exact absurd rfl hn
          | one a h1 h2 => simp [moreOf, needOf]; (repeat' split) <;> omega
          | two a b h1 h2 h3 h4 h5 h6 h7 h8 => simp [moreOf, needOf]; (repeat' split) <;> omega
          | three a b c h1 h2 h3 h4 h5 h6 h7 h8 => simp [moreOf, needOf]; (repeat' split) <;> omega
        by_cases h1 : 1 < moreOf bs
        · rw [show stepO bs c = [] by simp [stepO, hb, hn, h1], show stepS bs c = bs ++ [c] by simp [stepS, hb, hn, h1]]
          exact step_more D t rest b off cap bs m lo hi c w hx hin hne hlb l1 m1 ⟨hl, hlen⟩ hcell (by omega) hm
        · rw [show stepO bs c = [runeOf (bs ++ [c])] by simp [stepO, hb, hn, h1], show stepS bs c = [] by simp [stepS, hb, hn, h1]]
          exact step_whole D t rest b off cap bs m lo hi c w hx hin hne hlb l1 m1 ⟨hl, hlen⟩ hcell (by omega) (fun x hx => by rcases List.mem_append.1 hx with h | h; exact hby x h; simp at h; subst h; exact hc)

end Go.Proofs.Ytpkkfcfkhiaggaa
namespace Go.Proofs.Ytpkkfcfkhiaggaa
open Go.RowKit

theorem feedO_succ (bs l : List Int) (k : Nat) (h : k < l.length) : feedO bs (l.take (k + 1)) = feedO bs (l.take k) ++ stepO (feedS bs (l.take k)) l[k] := by
  rw [List.take_succ_eq_append_getElem h, feedO_append]; simp [feedO]
theorem feedS_succ (bs l : List Int) (k : Nat) (h : k < l.length) : feedS bs (l.take (k + 1)) = stepS (feedS bs (l.take k)) l[k] := by
  rw [List.take_succ_eq_append_getElem h, feedS_append]; rfl
theorem stepO_len (bs : List Int) (c : Int) : (stepO bs c).length ≤ 2 := by
  have : (beginO c).length ≤ 1 := by unfold beginO; (repeat' split) <;> simp
  unfold stepO; (repeat' split) <;> simp <;> omega
theorem Wf.bytes {bs : List Int} (h : Wf bs) : ∀ x ∈ bs, Byte x := by
  unfold Byte
  cases h with
  | nil => simp
  | one a h1 h2 => simp; omega
  | two a b h1 h2 h3 h4 => simp; omega
  | three a b c h1 h2 h3 h4 h5 h6 h7 h8 => simp; omega

/-- What Feed says. -/
def Fed (D : Nat) (t : TypeId) (rest : List Value) (bv : Value) (w : World) (o s : List Int) (e : Ending) (w' : World) : Prop :=
  ∃ v bv', e = .returned v ∧ Own w' w.heap.size 21 .i32 v o ∧ Bar D w w' ∧ DecV w' D t rest bv' s ∧ (bv' = bv ∨ Fresh w bv') ∧ Off bv' v

set_option maxRecDepth 100000 in
set_option maxHeartbeats 1000000 in
theorem feed_any (D : Nat) (t : TypeId) (rest : List Value) (bv vb : Value) (bs l : List Int) (w : World) (hd : DecV w D t rest bv bs) (hwf : Wf bs) (hb : Rd w .u8 vb l) (hap : Apart vb D) (hl : ∀ x ∈ l, Byte x) (hlen : l.length ≤ 1000000000) :
    Calls Try.prog 31 #[.pointer (some ⟨D, 0, none⟩), vb] w (Fed D t rest bv w (feedO bs l) (feedS bs l)) := by
  obtain ⟨p1, cap1, rfl, l1, m1, c1⟩ := hb
  have hD := hd.lt
  have hbl := hwf.len
  unfold maxLen at m1
  go_enter Try.func31, Try.ntmps31
  go_wp2_with fail
  go_loopw [5, 10] (fun v i wr => ∃ (k : Nat) (bv' : Value), k ≤ l.length ∧ i = .int .i64 k ∧ Own wr w.heap.size 21 .i32 v (feedO bs (l.take k)) ∧ Bar D w wr ∧ DecV wr D t rest bv' (feedS bs (l.take k)) ∧ (bv' = bv ∨ Fresh w bv') ∧ Off bv' v) (fun _ i _ => l.length - (intOf i).toNat)
  case atStart => exact ⟨0, bv, by omega, rfl, Own.nil _ _ _ _, Bar.refl _ _, hd, .inl rfl, fun g h => by simp [Value.ownBlock]⟩
  case round =>
    obtain ⟨k, bv', hk, rfl, hown, hbar, hdv, hfr, hoff⟩ := hrel
    by_cases hlt : k < l.length
    · obtain ⟨b1, o1, rfl, q1, d1⟩ := Rd.at c1 l1 hlt
      have hne : b1 ≠ D := hap _ _ _ _ rfl
      have d3 : wr.cell? ⟨b1, o1 + k, none⟩ = some (.int .u8 l[k]) := by rw [World.cell?_of_block (hbar.block b1 hne q1)]; exact d1
      clear c1 d1
      have r1 : (0 : Int) ≤ (k : Int) := by omega
      have r2 : (k : Int) < (l.length : Int) := by omega
      have hwk : Wf (feedS bs (l.take k)) := feedS_wf _ _ hwf (fun c hc => hl c (List.mem_of_mem_take hc))
      have hbk : Byte l[k] := hl _ (List.getElem_mem _)
      have hfl := feed_len (l.take k) bs hwf (fun c hc => hl c (List.mem_of_mem_take hc))
      have htl : (l.take k).length ≤ k := List.length_take_le _ _
      have hol := stepO_len (feedS bs (l.take k)) l[k]
      have hsz := hbar.size
      have e1 := Lib.hid (feedO_succ bs l k hlt)
      have e2 := Lib.hid (feedS_succ bs l k hlt)
      go_wp2_with (first | (go_at_call 57; refine (step_any D t rest bv' _ l[k] wr hdv hwk hwk.bytes hbk).mono ?_; rintro e w1 ⟨v1, bv1, rfl, hv1, hv2, hv3, hv4, hv5⟩) | (at_builtin; refine wpList_appw rfl _ _ 45 21 .i32 4 rfl Try.underlying45 el32 w.heap.size _ _ (feedO bs (l.take k)) (stepO (feedS bs (l.take k)) l[k]) (Own.bar hown hv3 (hown.off hD)) hv1 rfl rfl (by simp [maxLen]; omega) (by omega) (by have := hv3.size; omega) ?_; intro v' w2 hown' hgrow hwhere))
      go_roundw
      have hrel2 : Own w2 w.heap.size 21 .i32 v' (feedO bs (l.take (k + 1))) ∧ Bar D w w2 ∧ DecV w2 D t rest bv1 (feedS bs (l.take (k + 1))) ∧ (bv1 = bv ∨ Fresh w bv1) ∧ Off bv1 v' := by
        have hw1 := hv3.size
        have hin := hv4.rd.in
        have hfb := Rd.fresh hv4.rd hv5
        refine ⟨by rw [e1.out]; exact hown', Bar.app (hbar.trans hv3) hgrow (fun g h => ((hown.block) g h).1), ?_, .inr (hv5.older hsz), ?_⟩
        · rw [e2.out]
          refine hv4.kept hgrow (hown.off hD) ?_
          cases hbo : bv1.ownBlock with
          | none => exact .inl rfl
          | some g => refine .inr fun e => ?_; have := hfb g hbo; have := (hown.block g e.symm).2; omega
        · intro g hg e
          have := hfb g hg
          have h3 := hin g hg
          rcases hwhere with h | h
          · rw [h] at e; have := (hown.block g e).2; omega
          · rw [h] at e; injection e; omega
      clear hown' hgrow hwhere
      case rel => first | exact ⟨k + 1, bv1, by omega, by go_num, hrel2⟩ | ((repeat apply Exists.intro); exact ⟨⟨k + 1, bv1, by omega, by go_num, hrel2⟩, rfl⟩)
      case measure => simp [intOf]; omega
    · go_wp2_with fail
      go_ret
      rw [List.take_of_length_le (by omega)] at hown hdv
      exact ⟨_, bv', rfl, hown, hbar, hdv, hfr, hoff⟩

end Go.Proofs.Ytpkkfcfkhiaggaa
namespace Go.Proofs.Ytpkkfcfkhiaggaa
open Go.RowKit

def Ended (D : Nat) (t : TypeId) (rest : List Value) (bv : Value) (w : World) (o : List Int) (e : Ending) (w' : World) : Prop :=
  ∃ v bv', e = .returned v ∧ Rd w' .i32 v o ∧ Fresh w v ∧ Bar D w w' ∧ DecV w' D t rest bv' [] ∧ (bv' = bv ∨ Fresh w bv')

theorem pending_any (D : Nat) (t : TypeId) (rest : List Value) (bv : Value) (bs : List Int) (w : World) (hd : DecV w D t rest bv bs) (hl : bs.length ≤ 3) :
    Calls Try.prog 35 #[.pointer (some ⟨D, 0, none⟩)] w (RetOwn w 5 .u8 bs) := by
  obtain ⟨m, lo, hi, hx, hrd, hap, hf⟩ := hd
  have x1 := hx.cell
  have x2 := hx.free
  have x3 := hx.lt
  simp only [List.cons_append, List.nil_append] at x1
  clear hf
  go_enter Try.func35, Try.ntmps35
  go_wp2_with (at_builtin; refine wpList_app rfl _ _ 22 5 .u8 1 rfl Try.underlying22 el8 w.heap.size _ _ [] bs (Own.nil _ _ _ _) hrd rfl rfl (by simp [maxLen]; omega) (by simp; omega) (Nat.le_refl _) ?_; intro v' w2 hown' hgrow hwhere)
  go_ret
  exact ⟨_, rfl, by simpa using hown', hgrow⟩
theorem pending_nil (w : World) : Calls Try.prog 35 #[.pointer none] w fun e w' => e = .returned (.slice none 0 0) ∧ w = w' := by
  go_enter Try.func35, Try.ntmps35
  go_wp2_with fail
  go_ret
  exact ⟨rfl, rfl⟩

/-- A decoder of its own that has the same bytes pending. -/
def Copied (w : World) (bv : Value) (bs : List Int) (e : Ending) (w' : World) : Prop :=
  e = .returned (.pointer (some ⟨w.heap.size, 0, none⟩)) ∧ DecV w' w.heap.size 25 [] bv bs ∧ Below w.heap.size w w'
theorem DecV.zero (w : World) (n : Nat) (hn : n = w.heap.size) : DecV (w.alloc (.cells #[.slice none 0 0, .int .i64 0, .int .u8 0, .int .u8 0] 25)) n 25 [] (.slice none 0 0) [] :=
  ⟨0, 0, 0, Box.new _ _ _ hn, Rd.nil _ _, Apart.nil _ _ _, fun h => absurd rfl h⟩
end Go.Proofs.Ytpkkfcfkhiaggaa
