/- parser: Step. Printed by mk_h.py. -/
import Derived.Test.YtpkkfcfkhiaggaaG
import Derived.Deep.CutBlock
import Derived.Deep.DeepCutAuto
import Derived.Outline
set_option linter.unusedSimpArgs false
set_option linter.unusedVariables false
set_option linter.unnecessarySimpa false
namespace Go.Proofs.Ytpkkfcfkhiaggaa
open Go.RowKit
open Go.Proofs.Ytpkkfcfkhiaggaa.Pm (fineR addB addO bldQ refL bldC BldV bldC_len)

set_option maxHeartbeats 4000000 in
set_option maxRecDepth 100000 in
/-- A step, but for the controls of two bytes as one rune. -/
theorem stepone_any (D : Nat) (X : Nat → Prop) (p : Ps) (r : Int) (w : World) (hpv : PV w D X p) (hX : ∀ g, X g → g < w.heap.size) (hr : ¬ (128 ≤ r ∧ r ≤ 159)) : Calls Try.prog 18 #[.pointer (some ⟨D, 0, none⟩), .int .i32 r] w (Stepd D X w (psOne p r)) := by
  obtain ⟨bv, tv, m, lo, hi, ls, h⟩ := hpv
  have hpv : PV w D X p := ⟨bv, tv, m, lo, hi, ls, h⟩
  obtain ⟨c4, c5, c6, c25, cf, cl⟩ := h.box.pf
  have cV := fun W => valid_any r W
  have cB1 : ∀ W, Calls Try.prog 36 #[.int .i32 r, .int .i32 128, .int .i32 159] W fun e w' => e = .returned (.bool false) ∧ W = w' := fun W => by have k := between_any r 128 159 W; rw [show decide ((128 : Int) ≤ r ∧ r ≤ 159) = false by rw [decide_eq_false_iff_not]; exact hr] at k; exact k
  clear hr
  unfold psOne
  by_cases h27 : r = 27
  · subst h27
    rw [if_pos rfl]
    by_cases h7 : p.st = 7
    · rw [if_pos h7]
      rw [h7] at c4
      have ks := fun (W : World) (hW : Below w.heap.size w W) => run_str (P := Try.prog) 22 9 5 Try.underlying22 Try.underlying5 Try.underlying9 (h.rt.below hW)
      have ks0 := ks w (Below.refl _ _)
      have cN : ∀ s, Calls Try.prog 37 #[.pointer (some ⟨D, 0, none⟩), .int .i64 1] (w.alloc (.cells s 52)) _ := fun s => enter_any D (fun g => X g ∨ g = w.heap.size) p 1 _ ((hpv.add (fun g e => by omega)).past ((Below.refl _ _).alloc (Nat.le_refl _) _))
      clear ks
      go_enter Try.func18, Try.ntmps18
      go_wp2_with (first | (go_at_call 36; (with_reducible refine (cB1 _).mono ?_); rintro e w1 ⟨rfl, rfl⟩) | (go_at_call 37; (with_reducible refine (cN _).mono ?_); rintro e w2 ⟨rfl, hb1, hp1⟩))
      all_goals
        go_ret
        exact stepd_lit (a := txA p.tx) h.box.2.lt ⟨by simp [txA], h.tb⟩ rfl hb1 hp1
    · rw [if_neg h7]
      have cN : Calls Try.prog 37 #[.pointer (some ⟨D, 0, none⟩), .int .i64 1] w _ := enter_any D X p 1 w hpv
      have b7 : (p.st == 7) = false := by rw [beq_eq_false_iff_ne]; omega
      go_enter Try.func18, Try.ntmps18
      go_wp2_with (first | (go_at_call 36; (with_reducible refine (cB1 _).mono ?_); rintro e w1 ⟨rfl, rfl⟩) | (go_at_call 37; (with_reducible refine cN.mono ?_); rintro e w2 ⟨rfl, hb1, hp1⟩))
      all_goals
        go_ret
        exact stepd_nil hb1 hp1
  rw [if_neg h27]
  by_cases h24 : r = 24 ∨ r = 26
  · rw [if_pos h24]
    have cG : ∀ v s, Calls Try.prog 38 #[.pointer (some ⟨D, 0, none⟩), v] (w.alloc (.cells s 52)) _ := fun v s => ground_any D (fun g => X g ∨ g = w.heap.size) p v _ ((hpv.add (fun g e => by omega)).past ((Below.refl _ _).alloc (Nat.le_refl _) _))
    rcases h24 with rfl | rfl
    · go_enter Try.func18, Try.ntmps18
      go_wp2_with (first | (go_at_call 36; (with_reducible refine (cB1 _).mono ?_); rintro e w1 ⟨rfl, rfl⟩) | (go_at_call 38; (with_reducible refine (cG _ _).mono ?_); rintro e w2 ⟨rfl, hb1, hp1⟩))
      all_goals
        go_ret
        exact stepd_lit (a := exA 24) h.box.2.lt ⟨by simp [exA], by simp [exA]⟩ rfl hb1 hp1
    · go_enter Try.func18, Try.ntmps18
      go_wp2_with (first | (go_at_call 36; (with_reducible refine (cB1 _).mono ?_); rintro e w1 ⟨rfl, rfl⟩) | (go_at_call 38; (with_reducible refine (cG _ _).mono ?_); rintro e w2 ⟨rfl, hb1, hp1⟩))
      all_goals
        go_ret
        exact stepd_lit (a := exA 26) h.box.2.lt ⟨by simp [exA], by simp [exA]⟩ rfl hb1 hp1
  rw [if_neg h24]
  have k24 : ¬ r = 24 := fun k => h24 (.inl k)
  have k26 : ¬ r = 26 := fun k => h24 (.inr k)
  clear h24
  by_cases h7 : p.st = 7
  · rw [if_pos h7]
    rw [h7] at c4
    have cK := string_any D X p r w hpv hX
    go_enter Try.func18, Try.ntmps18
    go_wp2_with (first | (go_at_call 36; (with_reducible refine (cB1 _).mono ?_); rintro e w1 ⟨rfl, rfl⟩) | (go_at_call 39; (with_reducible refine cK.mono ?_); rintro e w2 ⟨v, xs, rfl, k1, k2, k3, k4⟩))
    all_goals
      go_ret
      exact ⟨v, xs, rfl, k1, k2, k3, k4⟩
  rw [if_neg h7]
  have b7 : (p.st == 7) = false := by rw [beq_eq_false_iff_ne]; omega
  by_cases h8 : p.st = 8
  · rw [if_pos h8]
    rw [h8] at c4
    go_enter Try.func18, Try.ntmps18
    go_wp2_with (first | (go_at_call 36; (with_reducible refine (cB1 _).mono ?_); rintro e w1 ⟨rfl, rfl⟩))
    all_goals
      go_ret
      exact stepd_nil (Bar.refl _ _) hpv
  rw [if_neg h8]
  have b8 : (p.st == 8) = false := by rw [beq_eq_false_iff_ne]; omega
  by_cases h127 : r = 127 ∧ p.st ≠ 0
  · rw [if_pos h127]
    obtain ⟨h127, h0⟩ := h127
    subst h127
    have n0 : (p.st != 0) = true := by rw [bne_iff_ne]; exact h0
    go_enter Try.func18, Try.ntmps18
    go_wp2_with (first | (go_at_call 36; (with_reducible refine (cB1 _).mono ?_); rintro e w1 ⟨rfl, rfl⟩))
    all_goals
      go_ret
      exact stepd_nil (Bar.refl _ _) hpv
  rw [if_neg h127]
  have n127 : ((r == 127) && (p.st != 0)) = false := by
    rw [Bool.and_eq_false_iff]
    by_cases hq : r = 127
    · right
      rw [bne_eq_false_iff_eq]
      exact Decidable.not_not.1 (fun k => h127 ⟨hq, k⟩)
    · left; rw [beq_eq_false_iff_ne]; exact hq
  have hd : r ≠ 127 ∨ p.st = 0 := by
    by_cases hq : r = 127
    · right; exact Decidable.not_not.1 (fun k => h127 ⟨hq, k⟩)
    · exact .inl hq
  clear h127
  by_cases h32 : 0 ≤ r ∧ r < 32
  · rw [if_pos h32]
    obtain ⟨hr0, hr32⟩ := h32
    have q127 : ¬ r = 127 := by omega
    clear n127 hd
    go_enter Try.func18, Try.ntmps18
    go_wp2_with (first | (go_at_call 36; (with_reducible refine (cB1 _).mono ?_); rintro e w1 ⟨rfl, rfl⟩))
    all_goals
      go_ret
      exact stepd_lit (a := exA r) h.box.2.lt ⟨by simp [exA], by simp [exA]⟩ rfl (Bar.refl _ _) ((hpv.add (fun g e => by omega)).past ((Below.refl _ _).alloc (Nat.le_refl _) _))
  rw [if_neg h32]
  by_cases h12 : p.st = 1 ∨ p.st = 2
  · rw [if_pos h12]
    have q127 : ¬ r = 127 := by rcases hd with k | k; exact k; omega
    have cK := escaped_any D X p r w hpv
    clear n127 hd
    have HP := Lib.hid hpv
    rcases h12 with h1 | h1
    · rw [h1] at c4
      clear b7 b8 h7 h8
      go_enter Try.func18, Try.ntmps18
      go_wp2_with (first | (go_at_call 36; (with_reducible refine (cB1 _).mono ?_); rintro e w1 ⟨rfl, rfl⟩) | (go_at_call 40; (with_reducible refine cK.mono ?_); rintro e w2 ⟨v, xs, rfl, k1, k2, k3, k4⟩))
      all_goals
        go_ret
        exact ⟨v, xs, rfl, k1, k2, k3, k4⟩
    · rw [h1] at c4
      clear b7 b8 h7 h8
      go_enter Try.func18, Try.ntmps18
      go_wp2_with (first | (go_at_call 36; (with_reducible refine (cB1 _).mono ?_); rintro e w1 ⟨rfl, rfl⟩) | (go_at_call 40; (with_reducible refine cK.mono ?_); rintro e w2 ⟨v, xs, rfl, k1, k2, k3, k4⟩))
      all_goals
        go_ret
        exact ⟨v, xs, rfl, k1, k2, k3, k4⟩
  rw [if_neg h12]
  by_cases h36 : p.st = 3 ∨ p.st = 4 ∨ p.st = 5 ∨ p.st = 6
  · rw [if_pos h36]
    have q127 : ¬ r = 127 := by rcases hd with k | k; exact k; omega
    have cK := control_any D X p r w hpv
    clear n127 hd
    rcases h36 with h1 | h1 | h1 | h1
    · rw [h1] at c4
      clear b7 b8 h7 h8 h12
      go_enter Try.func18, Try.ntmps18
      go_wp2_with (first | (go_at_call 36; (with_reducible refine (cB1 _).mono ?_); rintro e w1 ⟨rfl, rfl⟩) | (go_at_call 41; (with_reducible refine cK.mono ?_); rintro e w2 ⟨v, xs, rfl, k1, k2, k3, k4⟩))
      all_goals
        go_ret
        exact ⟨v, xs, rfl, k1, k2, k3, k4⟩
    · rw [h1] at c4
      clear b7 b8 h7 h8 h12
      go_enter Try.func18, Try.ntmps18
      go_wp2_with (first | (go_at_call 36; (with_reducible refine (cB1 _).mono ?_); rintro e w1 ⟨rfl, rfl⟩) | (go_at_call 41; (with_reducible refine cK.mono ?_); rintro e w2 ⟨v, xs, rfl, k1, k2, k3, k4⟩))
      all_goals
        go_ret
        exact ⟨v, xs, rfl, k1, k2, k3, k4⟩
    · rw [h1] at c4
      clear b7 b8 h7 h8 h12
      go_enter Try.func18, Try.ntmps18
      go_wp2_with (first | (go_at_call 36; (with_reducible refine (cB1 _).mono ?_); rintro e w1 ⟨rfl, rfl⟩) | (go_at_call 41; (with_reducible refine cK.mono ?_); rintro e w2 ⟨v, xs, rfl, k1, k2, k3, k4⟩))
      all_goals
        go_ret
        exact ⟨v, xs, rfl, k1, k2, k3, k4⟩
    · rw [h1] at c4
      clear b7 b8 h7 h8 h12
      go_enter Try.func18, Try.ntmps18
      go_wp2_with (first | (go_at_call 36; (with_reducible refine (cB1 _).mono ?_); rintro e w1 ⟨rfl, rfl⟩) | (go_at_call 41; (with_reducible refine cK.mono ?_); rintro e w2 ⟨v, xs, rfl, k1, k2, k3, k4⟩))
      all_goals
        go_ret
        exact ⟨v, xs, rfl, k1, k2, k3, k4⟩
  rw [if_neg h36]
  have b1 : (p.st == 1) = false := by rw [beq_eq_false_iff_ne]; omega
  have b2 : (p.st == 2) = false := by rw [beq_eq_false_iff_ne]; omega
  have b3 : (p.st == 3) = false := by rw [beq_eq_false_iff_ne]; omega
  have b4 : (p.st == 4) = false := by rw [beq_eq_false_iff_ne]; omega
  have b5 : (p.st == 5) = false := by rw [beq_eq_false_iff_ne]; omega
  have b6 : (p.st == 6) = false := by rw [beq_eq_false_iff_ne]; omega
  clear h12 h36
  by_cases h127 : r = 127
  · rw [if_pos (.inl h127)]
    have h0 : p.st = 0 := hd.resolve_left (fun k => k h127)
    subst h127
    rw [h0] at c4
    clear n127 hd b1 b2 b3 b4 b5 b6 b7 b8 h7 h8
    go_enter Try.func18, Try.ntmps18
    go_wp2_with (first | (go_at_call 36; (with_reducible refine (cB1 _).mono ?_); rintro e w1 ⟨rfl, rfl⟩))
    all_goals
      go_ret
      exact stepd_nil (Bar.refl _ _) hpv
  clear n127 hd
  cases hv : validR r
  · rw [if_pos (.inr rfl)]
    rw [hv] at cV
    go_enter Try.func18, Try.ntmps18
    go_wp2_with (first | (go_at_call 36; (with_reducible refine (cB1 _).mono ?_); rintro e w1 ⟨rfl, rfl⟩) | (go_at_call 42; (with_reducible refine (cV _).mono ?_); rintro e w1 ⟨rfl, rfl⟩))
    all_goals
      go_ret
      exact stepd_nil (Bar.refl _ _) hpv
  · rw [if_neg (show ¬ (r = 127 ∨ true = false) from fun k => k.elim h127 (fun k => by cases k))]
    rw [hv] at cV
    go_enter Try.func18, Try.ntmps18
    go_wp2_with (first | (go_at_call 36; (with_reducible refine (cB1 _).mono ?_); rintro e w1 ⟨rfl, rfl⟩) | (go_at_call 42; (with_reducible refine (cV _).mono ?_); rintro e w1 ⟨rfl, rfl⟩))
    all_goals
      go_ret
      exact stepd_lit (a := prA r) h.box.2.lt ⟨by simp [prA], by simp [prA]⟩ rfl (Bar.refl _ _) ((hpv.add (fun g e => by omega)).past ((Below.refl _ _).alloc (Nat.le_refl _) _))

end Go.Proofs.Ytpkkfcfkhiaggaa
