/- parser: a rune of an escape sequence. Printed by mk_f.py. -/
import Derived.Test.YtpkkfcfkhiaggaaE
import Derived.Deep.CutBlock
import Derived.Deep.DeepCutAuto
import Derived.Outline
set_option linter.unusedSimpArgs false
set_option linter.unusedVariables false
set_option linter.unnecessarySimpa false
namespace Go.Proofs.Ytpkkfcfkhiaggaa
open Go.RowKit
open Go.Proofs.Ytpkkfcfkhiaggaa.Pm (fineR addB addO bldQ refL bldC BldV bldC_len)

set_option maxHeartbeats 4000000 in
set_option maxRecDepth 100000 in
theorem escaped_any (D : Nat) (X : Nat → Prop) (p : Ps) (r : Int) (w : World) (hpv : PV w D X p) : Calls Try.prog 40 #[.pointer (some ⟨D, 0, none⟩), .int .i32 r] w (Stepd D X w (escP p r)) := by
  obtain ⟨bv, tv, m, lo, hi, ls, h⟩ := hpv
  have hpv : PV w D X p := ⟨bv, tv, m, lo, hi, ls, h⟩
  obtain ⟨c4, c5, c6, c25, cf, cl⟩ := h.box.pf
  have hs : (strOfNums p.it).size = p.it.length := strOf_size _
  unfold escP
  by_cases hin : 32 ≤ r ∧ r ≤ 47
  · rw [if_pos hin]
    have cC : Calls Try.prog 62 #[.pointer (some ⟨D, 0, none⟩), .int .i32 r] (w.setCell ⟨D, 4, none⟩ (.int .i64 2)) _ := collect_any D X { p with st := 2 } r _ (hpv.setst 2) hin
    have hb0 : Bar D w (w.setCell ⟨D, 4, none⟩ (.int .i64 2)) := (Bar.refl D w).set _ _
    have cB1 : ∀ W, Calls Try.prog 36 #[.int .i32 r, .int .i32 32, .int .i32 47] W fun e w' => e = .returned (.bool true) ∧ W = w' := fun W => by have k := between_any r 32 47 W; rw [show decide ((32 : Int) ≤ r ∧ r ≤ 47) = true by rw [decide_eq_true_eq]; omega] at k; exact k
    go_enter Try.func40, Try.ntmps40
    go_wp2_with (first | (go_at_call 36; (with_reducible refine (cB1 _).mono ?_); rintro e w1 ⟨rfl, rfl⟩) | (go_at_call 62; (with_reducible refine cC.mono ?_); rintro e w2 ⟨rfl, hb1, hp1⟩))
    go_ret
    exact stepd_nil (hb0.trans hb1) hp1
  rw [if_neg hin]
  have cB1 : ∀ W, Calls Try.prog 36 #[.int .i32 r, .int .i32 32, .int .i32 47] W fun e w' => e = .returned (.bool false) ∧ W = w' := fun W => by have k := between_any r 32 47 W; rw [show decide ((32 : Int) ≤ r ∧ r ≤ 47) = false by rw [decide_eq_false_iff_not]; omega] at k; exact k
  by_cases hout : ¬ (48 ≤ r ∧ r ≤ 126)
  · rw [if_pos hout]
    have cG : ∀ v, Calls Try.prog 38 #[.pointer (some ⟨D, 0, none⟩), v] w _ := fun v => ground_any D X p v w hpv
    have cB2 : ∀ W, Calls Try.prog 36 #[.int .i32 r, .int .i32 48, .int .i32 126] W fun e w' => e = .returned (.bool false) ∧ W = w' := fun W => by have k := between_any r 48 126 W; rw [show decide ((48 : Int) ≤ r ∧ r ≤ 126) = false by rw [decide_eq_false_iff_not]; omega] at k; exact k
    go_enter Try.func40, Try.ntmps40
    go_wp2_with (first | (go_at_call 36; (with_reducible refine (cB1 _).mono ?_); rintro e w1 ⟨rfl, rfl⟩) | (go_at_call 36; (with_reducible refine (cB2 _).mono ?_); rintro e w1 ⟨rfl, rfl⟩) | (go_at_call 38; (with_reducible refine (cG _).mono ?_); rintro e w2 ⟨rfl, hb1, hp1⟩))
    go_ret
    exact stepd_nil hb1 hp1
  rw [if_neg hout]
  have cB2 : ∀ W, Calls Try.prog 36 #[.int .i32 r, .int .i32 48, .int .i32 126] W fun e w' => e = .returned (.bool true) ∧ W = w' := fun W => by have k := between_any r 48 126 W; rw [show decide ((48 : Int) ≤ r ∧ r ≤ 126) = true by rw [decide_eq_true_eq]; exact Decidable.not_not.1 hout] at k; exact k
  by_cases hl : 2 < p.it.length
  · rw [if_pos hl]
    have hlI : (2 : Int) < (p.it.length : Int) := by omega
    have cG : ∀ v, Calls Try.prog 38 #[.pointer (some ⟨D, 0, none⟩), v] w _ := fun v => ground_any D X p v w hpv
    go_enter Try.func40, Try.ntmps40
    go_wp2_with (first | (go_at_call 36; (with_reducible refine (cB1 _).mono ?_); rintro e w1 ⟨rfl, rfl⟩) | (go_at_call 36; (with_reducible refine (cB2 _).mono ?_); rintro e w1 ⟨rfl, rfl⟩) | (go_at_call 38; (with_reducible refine (cG _).mono ?_); rintro e w2 ⟨rfl, hb1, hp1⟩))
    go_ret
    exact stepd_nil hb1 hp1
  rw [if_neg hl]
  have hlI : ¬ (2 : Int) < (p.it.length : Int) := by omega
  have hok : okA (esA p.it r) := ⟨h.ib, by simp [esA]⟩
  by_cases h1 : p.st = 1
  · simp only [h1, true_and]
    rw [h1] at c4
    by_cases h91 : r = 91
    · subst h91
      rw [if_pos rfl]
      have cN : Calls Try.prog 37 #[.pointer (some ⟨D, 0, none⟩), .int .i64 3] w _ := enter_any D X p 3 w hpv
      go_enter Try.func40, Try.ntmps40
      go_wp2_with (first | (go_at_call 36; (with_reducible refine (cB1 _).mono ?_); rintro e w1 ⟨rfl, rfl⟩) | (go_at_call 36; (with_reducible refine (cB2 _).mono ?_); rintro e w1 ⟨rfl, rfl⟩) | (go_at_call 37; (with_reducible refine cN.mono ?_); rintro e w2 ⟨rfl, hb1, hp1⟩))
      go_ret
      exact stepd_nil hb1 hp1
    rw [if_neg h91]
    by_cases h93 : r = 93
    · subst h93
      rw [if_pos rfl]
      have cN : Calls Try.prog 37 #[.pointer (some ⟨D, 0, none⟩), .int .i64 7] w _ := enter_any D X p 7 w hpv
      go_enter Try.func40, Try.ntmps40
      go_wp2_with (first | (go_at_call 36; (with_reducible refine (cB1 _).mono ?_); rintro e w1 ⟨rfl, rfl⟩) | (go_at_call 36; (with_reducible refine (cB2 _).mono ?_); rintro e w1 ⟨rfl, rfl⟩) | (go_at_call 37; (with_reducible refine cN.mono ?_); rintro e w2 ⟨rfl, hb1, hp1⟩))
      go_ret
      exact stepd_nil hb1 hp1
    rw [if_neg h93]
    by_cases hsk : r = 80 ∨ r = 88 ∨ r = 94 ∨ r = 95
    · rw [if_pos hsk]
      have cN : Calls Try.prog 37 #[.pointer (some ⟨D, 0, none⟩), .int .i64 8] w _ := enter_any D X p 8 w hpv
      rcases hsk with rfl | rfl | rfl | rfl
      · go_enter Try.func40, Try.ntmps40
        go_wp2_with (first | (go_at_call 36; (with_reducible refine (cB1 _).mono ?_); rintro e w1 ⟨rfl, rfl⟩) | (go_at_call 36; (with_reducible refine (cB2 _).mono ?_); rintro e w1 ⟨rfl, rfl⟩) | (go_at_call 37; (with_reducible refine cN.mono ?_); rintro e w2 ⟨rfl, hb1, hp1⟩))
        go_ret
        exact stepd_nil hb1 hp1
      · go_enter Try.func40, Try.ntmps40
        go_wp2_with (first | (go_at_call 36; (with_reducible refine (cB1 _).mono ?_); rintro e w1 ⟨rfl, rfl⟩) | (go_at_call 36; (with_reducible refine (cB2 _).mono ?_); rintro e w1 ⟨rfl, rfl⟩) | (go_at_call 37; (with_reducible refine cN.mono ?_); rintro e w2 ⟨rfl, hb1, hp1⟩))
        go_ret
        exact stepd_nil hb1 hp1
      · go_enter Try.func40, Try.ntmps40
        go_wp2_with (first | (go_at_call 36; (with_reducible refine (cB1 _).mono ?_); rintro e w1 ⟨rfl, rfl⟩) | (go_at_call 36; (with_reducible refine (cB2 _).mono ?_); rintro e w1 ⟨rfl, rfl⟩) | (go_at_call 37; (with_reducible refine cN.mono ?_); rintro e w2 ⟨rfl, hb1, hp1⟩))
        go_ret
        exact stepd_nil hb1 hp1
      · go_enter Try.func40, Try.ntmps40
        go_wp2_with (first | (go_at_call 36; (with_reducible refine (cB1 _).mono ?_); rintro e w1 ⟨rfl, rfl⟩) | (go_at_call 36; (with_reducible refine (cB2 _).mono ?_); rintro e w1 ⟨rfl, rfl⟩) | (go_at_call 37; (with_reducible refine cN.mono ?_); rintro e w2 ⟨rfl, hb1, hp1⟩))
        go_ret
        exact stepd_nil hb1 hp1
    rw [if_neg hsk]
    have k80 : ¬ r = 80 := fun k => hsk (.inl k)
    have k88 : ¬ r = 88 := fun k => hsk (.inr (.inl k))
    have k94 : ¬ r = 94 := fun k => hsk (.inr (.inr (.inl k)))
    have k95 : ¬ r = 95 := fun k => hsk (.inr (.inr (.inr k)))
    clear hsk
    have cG : ∀ v s, Calls Try.prog 38 #[.pointer (some ⟨D, 0, none⟩), v] (w.alloc (.cells s 52)) _ := fun v s => ground_any D (fun g => X g ∨ g = w.heap.size) p v _ ((hpv.add (fun g e => by omega)).past ((Below.refl _ _).alloc (Nat.le_refl _) _))
    go_enter Try.func40, Try.ntmps40
    go_wp2_with (first | (go_at_call 36; (with_reducible refine (cB1 _).mono ?_); rintro e w1 ⟨rfl, rfl⟩) | (go_at_call 36; (with_reducible refine (cB2 _).mono ?_); rintro e w1 ⟨rfl, rfl⟩) | (go_at_call 38; (with_reducible refine (cG _ _).mono ?_); rintro e w2 ⟨rfl, hb1, hp1⟩))
    go_ret
    exact stepd_lit (a := esA p.it r) h.box.2.lt hok rfl hb1 hp1
  · rw [if_neg (fun k => h1 k.1), if_neg (fun k => h1 k.1), if_neg (fun k => h1 k.1)]
    have cG : ∀ v s, Calls Try.prog 38 #[.pointer (some ⟨D, 0, none⟩), v] (w.alloc (.cells s 52)) _ := fun v s => ground_any D (fun g => X g ∨ g = w.heap.size) p v _ ((hpv.add (fun g e => by omega)).past ((Below.refl _ _).alloc (Nat.le_refl _) _))
    go_enter Try.func40, Try.ntmps40
    go_wp2_with (first | (go_at_call 36; (with_reducible refine (cB1 _).mono ?_); rintro e w1 ⟨rfl, rfl⟩) | (go_at_call 36; (with_reducible refine (cB2 _).mono ?_); rintro e w1 ⟨rfl, rfl⟩) | (go_at_call 38; (with_reducible refine (cG _ _).mono ?_); rintro e w2 ⟨rfl, hb1, hp1⟩))
    go_ret
    exact stepd_lit (a := esA p.it r) h.box.2.lt hok rfl hb1 hp1

end Go.Proofs.Ytpkkfcfkhiaggaa
