/- utf: Feed, End, Pending, Copy, Decode. -/
import Derived.Test.YtnihneffgbhjjaaDoorUF
import Derived.Test.YtnihneffgbhjjaaDoorLate
import Derived.Outline
set_option linter.unusedSimpArgs false
set_option linter.unusedVariables false
set_option linter.unnecessarySimpa false
namespace Go.Proofs.YtnihneffgbhjjaaDoor
open Go.RowKit

theorem feedO_succ (bs l : List Int) (k : Nat) (h : k < l.length) : feedO bs (l.take (k + 1)) = feedO bs (l.take k) ++ stepO (feedS bs (l.take k)) l[k] := by
  rw [List.take_succ_eq_append_getElem h, feedO_append]; simp [feedO]
theorem feedS_succ (bs l : List Int) (k : Nat) (h : k < l.length) : feedS bs (l.take (k + 1)) = stepS (feedS bs (l.take k)) l[k] := by
  rw [List.take_succ_eq_append_getElem h, feedS_append]; rfl
theorem stepO_len (bs : List Int) (c : Int) : (stepO bs c).length ≤ 2 := by
  have : (beginO c).length ≤ 1 := by unfold beginO; (repeat' split) <;> simp
  unfold stepO; (repeat' split) <;> simp <;> omega
theorem Wf.bytes {bs : List Int} (h : Wf bs) : ∀ x ∈ bs, Byte x := by
  unfold Byte
  cases h with
  | nil => simp
  | one a h1 h2 => simp; omega
  | two a b h1 h2 h3 h4 => simp; omega
  | three a b c h1 h2 h3 h4 h5 h6 h7 h8 => simp; omega

/-- What Feed says. -/
def Fed (D : Nat) (t : TypeId) (rest : List Value) (bv : Value) (w : World) (o s : List Int) (e : Ending) (w' : World) : Prop :=
  ∃ v bv', e = .returned v ∧ Own w' w.heap.size 21 .i32 v o ∧ Bar D w w' ∧ DecV w' D t rest bv' s ∧ (bv' = bv ∨ Fresh w bv') ∧ Off bv' v

set_option maxRecDepth 100000 in
set_option maxHeartbeats 1000000 in
theorem feed_any (D : Nat) (t : TypeId) (rest : List Value) (bv vb : Value) (bs l : List Int) (w : World) (hd : DecV w D t rest bv bs) (hwf : Wf bs) (hb : Rd w .u8 vb l) (hap : Apart vb D) (hl : ∀ x ∈ l, Byte x) (hlen : l.length ≤ 1000000000) :
    Calls Tryd.prog 35 #[.pointer (some ⟨D, 0, none⟩), vb] w (Fed D t rest bv w (feedO bs l) (feedS bs l)) := by
  obtain ⟨p1, cap1, rfl, l1, m1, c1⟩ := hb
  have hD := hd.lt
  have hbl := hwf.len
  unfold maxLen at m1
  go_enter Tryd.func35, Tryd.ntmps35
  go_wp2_with fail
  go_loopw [5, 10] (fun v i wr => ∃ (k : Nat) (bv' : Value), k ≤ l.length ∧ i = .int .i64 k ∧ Own wr w.heap.size 21 .i32 v (feedO bs (l.take k)) ∧ Bar D w wr ∧ DecV wr D t rest bv' (feedS bs (l.take k)) ∧ (bv' = bv ∨ Fresh w bv') ∧ Off bv' v) (fun _ i _ => l.length - (intOf i).toNat)
  case atStart => exact ⟨0, bv, by omega, rfl, Own.nil _ _ _ _, Bar.refl _ _, hd, .inl rfl, fun g h => by simp [Value.ownBlock]⟩
  case round =>
    obtain ⟨k, bv', hk, rfl, hown, hbar, hdv, hfr, hoff⟩ := hrel
    by_cases hlt : k < l.length
    · obtain ⟨b1, o1, rfl, q1, d1⟩ := Rd.at c1 l1 hlt
      have hne : b1 ≠ D := hap _ _ _ _ rfl
      have d3 : wr.cell? ⟨b1, o1 + k, none⟩ = some (.int .u8 l[k]) := by rw [World.cell?_of_block (hbar.block b1 hne q1)]; exact d1
      clear c1 d1
      have r1 : (0 : Int) ≤ (k : Int) := by omega
      have r2 : (k : Int) < (l.length : Int) := by omega
      have hwk : Wf (feedS bs (l.take k)) := feedS_wf _ _ hwf (fun c hc => hl c (List.mem_of_mem_take hc))
      have hbk : Byte l[k] := hl _ (List.getElem_mem _)
      have hfl := feed_len (l.take k) bs hwf (fun c hc => hl c (List.mem_of_mem_take hc))
      have htl : (l.take k).length ≤ k := List.length_take_le _ _
      have hol := stepO_len (feedS bs (l.take k)) l[k]
      have hsz := hbar.size
      have e1 := Lib.hid (feedO_succ bs l k hlt)
      have e2 := Lib.hid (feedS_succ bs l k hlt)
      go_wp2_with (first | (go_at_call 41; refine (step_any D t rest bv' _ l[k] wr hdv hwk hwk.bytes hbk).mono ?_; rintro e w1 ⟨v1, bv1, rfl, hv1, hv2, hv3, hv4, hv5⟩) | (at_builtin; refine wpList_appw rfl _ _ 25 21 .i32 4 rfl Tryd.underlying25 el32 w.heap.size _ _ (feedO bs (l.take k)) (stepO (feedS bs (l.take k)) l[k]) (Own.bar hown hv3 (hown.off hD)) hv1 rfl rfl (by simp [maxLen]; omega) (by omega) (by have := hv3.size; omega) ?_; intro v' w2 hown' hgrow hwhere))
      go_roundw
      have hrel2 : Own w2 w.heap.size 21 .i32 v' (feedO bs (l.take (k + 1))) ∧ Bar D w w2 ∧ DecV w2 D t rest bv1 (feedS bs (l.take (k + 1))) ∧ (bv1 = bv ∨ Fresh w bv1) ∧ Off bv1 v' := by
        have hw1 := hv3.size
        have hin := hv4.rd.in
        have hfb := Rd.fresh hv4.rd hv5
        refine ⟨by rw [e1.out]; exact hown', Bar.app (hbar.trans hv3) hgrow (fun g h => ((hown.block) g h).1), ?_, .inr (hv5.older hsz), ?_⟩
        · rw [e2.out]
          refine hv4.kept hgrow (hown.off hD) ?_
          cases hbo : bv1.ownBlock with
          | none => exact .inl rfl
          | some g => refine .inr fun e => ?_; have := hfb g hbo; have := (hown.block g e.symm).2; omega
        · intro g hg e
          have := hfb g hg
          have h3 := hin g hg
          rcases hwhere with h | h
          · rw [h] at e; have := (hown.block g e).2; omega
          · rw [h] at e; injection e; omega
      clear hown' hgrow hwhere
      case rel => first | exact ⟨k + 1, bv1, by omega, by go_num, hrel2⟩ | ((repeat apply Exists.intro); exact ⟨⟨k + 1, bv1, by omega, by go_num, hrel2⟩, rfl⟩)
      case measure => simp [intOf]; omega
    · go_wp2_with fail
      go_ret
      rw [List.take_of_length_le (by omega)] at hown hdv
      exact ⟨_, bv', rfl, hown, hbar, hdv, hfr, hoff⟩

end Go.Proofs.YtnihneffgbhjjaaDoor
