/- parser: the reference, a rune of a control sequence. Printed by mk_r.py. -/
import Derived.Test.YtpkkfcfkhiaggaaQ
import Derived.Test.YtpkkfcfkhiaggaaMN
import Derived.Deep.CutBlock
import Derived.Deep.DeepCutAuto
import Derived.Outline
set_option linter.unusedSimpArgs false
set_option linter.unusedVariables false
set_option linter.unnecessarySimpa false
namespace Go.Proofs.Ytpkkfcfkhiaggaa
open Go.RowKit
open Go.Proofs.Ytpkkfcfkhiaggaa.Pm (fineR addB addO bldQ refL bldC BldV bldC_len)

theorem rparse_all (l : List Int) (W : World) (hf : ∀ x ∈ l, fineR x = true) (hsz : l.length ≤ 100000) : Calls Try.prog 65 #[.string (strOfNums l)] W fun e w' => ∃ v, e = .returned (.tuple #[v, .bool true]) ∧ Own w' W.heap.size 3 .i64 v (parsL l) ∧ Below W.heap.size W w' := by
  have hb : ∀ x ∈ l, Byte x := fun x hx => by have := (fine_iff x).1 (hf x hx); unfold Byte; omega
  have hbs := bytesOf_strOf l hb
  unfold parsL
  by_cases h0 : l = []
  · subst h0
    rw [if_pos rfl]
    exact (Pm.rparse_nil (strOfNums []) W rfl).mono (by rintro e w' ⟨rfl, rfl⟩; exact ⟨_, rfl, Own.nil _ _ _ _, Below.refl _ _⟩)
  · rw [if_neg h0]
    have := Pm.rparse_any (strOfNums l) W (by rw [strOf_size]; omega) (by rw [strOf_size]; intro e; exact h0 (List.eq_nil_of_length_eq_zero e)) (by rw [hbs]; exact hf)
    rw [hbs] at this
    exact this
theorem ints_mem {sq : List Int} {x : Int} (h : x ∈ ints sq) : x ∈ sq := by
  unfold ints rst at h
  have h := (List.dropWhile_suffix fineR).subset h
  split at h
  · exact List.mem_of_mem_tail h
  · exact h
theorem digs_len (sq : List Int) : (digs sq).length ≤ sq.length := by
  unfold digs rst
  refine Nat.le_trans (List.takeWhile_prefix fineR).length_le ?_
  split
  · rw [List.length_tail]; omega
  · exact Nat.le_refl _
set_option maxHeartbeats 8000000 in
set_option maxRecDepth 100000 in
theorem rcontrol_any (s : Rs) (q : Option Addr) (n c : Nat) (r : Int) (w : World) (hby : ∀ x ∈ s.sq, Byte x) (hsz : s.sq.length ≤ 100000) : Calls Try.prog 49 #[.agg #[.string (opS s.op), .string (strOfNums s.sq), .slice q n c], .int .i32 r] w (RSt q n c w (conR s r)) := by
  obtain ⟨o, sq, d⟩ := s
  simp only at hby hsz
  have hs : (strOfNums sq).size = sq.length := strOf_size _
  have cA : ∀ W, Calls Try.prog 47 #[.agg #[.string (opS o), .string (strOfNums sq), .slice q n c], .int .i32 r] W fun e w' => e = .returned (.agg #[.string (opS o), .string (strOfNums (sq ++ enc1 r)), .slice q n c]) ∧ Below W.heap.size W w' := fun W => by
    have := and_any (opS o) (strOfNums sq) q n c r W (by omega)
    rw [strOf_app] at this; exact this
  have cT : ∀ x W, Calls Try.prog 43 #[.agg #[.string (opS o), .string (strOfNums sq), .slice q n c], .string x] W fun e w' => e = .returned (.agg #[.string x, .string ⟨#[]⟩, .slice q n c]) ∧ Below W.heap.size W w' := fun x W => to_any (opS o) (strOfNums sq) x q n c W
  unfold conR
  by_cases hin : 32 ≤ r ∧ r < 64
  · rw [if_pos hin]
    show Calls Try.prog 49 _ _ (RSt q n c w (⟨o, sq ++ enc1 r, d⟩, []))
    obtain ⟨hin1, hin2⟩ := hin
    clear cT
    go_enter Try.func49, Try.ntmps49
    go_wp2_with (first | (go_at_call 47; (with_reducible refine (cA _).mono ?_); rintro e w1 ⟨rfl, hb1⟩; obtain ⟨X, rfl⟩ := GW.of hb1; clear hb1))
    refine ret_row_tmp (n := 3) rfl rfl Try.underlying35 rfl (by kernel_rfl) rfl ⟨_, by simp (maxDischargeDepth := 6) [go_sem] <;> rfl, rfl, ?_⟩
    exact ⟨.slice none 0 0, [], rfl, rfl, OwnX.nil _ _, (by repeat (first | with_reducible exact Below.refl _ _ | with_reducible assumption | with_reducible exact GW.grow _ | with_reducible refine bl_alloc ?_ _ | with_reducible refine Below.drew ?_ | (with_reducible refine Below.setCell ?_ ?_ _; rotate_left; focus (simp; first | done | omega)) | with_reducible refine bl_trans ?_ (GW.grow _) | (with_reducible refine bl_trans ?_ (by assumption))))⟩
  rw [if_neg hin]
  by_cases hout : r < 64 ∨ 126 < r
  · rw [if_pos hout]
    show Calls Try.prog 49 _ _ (RSt q n c w (⟨0, [], d⟩, []))
    clear cA
    by_cases h48 : r < 64
    · have h32 : ¬ 32 ≤ r := by omega
      clear hin hout
      go_enter Try.func49, Try.ntmps49
      go_wp2_with (first | (go_at_call 43; (with_reducible refine (cT _ _).mono ?_); rintro e w1 ⟨rfl, hb1⟩; obtain ⟨X, rfl⟩ := GW.of hb1; clear hb1))
      refine ret_row_tmp (n := 3) rfl rfl Try.underlying35 rfl (by kernel_rfl) rfl ⟨_, by simp (maxDischargeDepth := 6) [go_sem] <;> rfl, rfl, ?_⟩
      exact ⟨.slice none 0 0, [], rfl, rfl, OwnX.nil _ _, (by repeat (first | with_reducible exact Below.refl _ _ | with_reducible assumption | with_reducible exact GW.grow _ | with_reducible refine bl_alloc ?_ _ | with_reducible refine Below.drew ?_ | (with_reducible refine Below.setCell ?_ ?_ _; rotate_left; focus (simp; first | done | omega)) | with_reducible refine bl_trans ?_ (GW.grow _) | (with_reducible refine bl_trans ?_ (by assumption))))⟩
    · have h126 : 126 < r := by omega
      clear hin hout
      go_enter Try.func49, Try.ntmps49
      go_wp2_with (first | (go_at_call 43; (with_reducible refine (cT _ _).mono ?_); rintro e w1 ⟨rfl, hb1⟩; obtain ⟨X, rfl⟩ := GW.of hb1; clear hb1))
      refine ret_row_tmp (n := 3) rfl rfl Try.underlying35 rfl (by kernel_rfl) rfl ⟨_, by simp (maxDischargeDepth := 6) [go_sem] <;> rfl, rfl, ?_⟩
      exact ⟨.slice none 0 0, [], rfl, rfl, OwnX.nil _ _, (by repeat (first | with_reducible exact Below.refl _ _ | with_reducible assumption | with_reducible exact GW.grow _ | with_reducible refine bl_alloc ?_ _ | with_reducible refine Below.drew ?_ | (with_reducible refine Below.setCell ?_ ?_ _; rotate_left; focus (simp; first | done | omega)) | with_reducible refine bl_trans ?_ (GW.grow _) | (with_reducible refine bl_trans ?_ (by assumption))))⟩
  rw [if_neg hout]
  have h64 : ¬ r < 64 := by omega
  have h126 : ¬ 126 < r := by omega
  clear hin hout cA
  have cP := fun W => parts_any (strOfNums sq) W (by omega)
  rw [bytesOf_strOf sq hby] at cP
  cases hc : isC sq
  · rw [if_pos (.inl rfl)]
    rw [parts_no hc] at cP
    show Calls Try.prog 49 _ _ (RSt q n c w (⟨0, [], d⟩, []))
    clear hc
    go_enter Try.func49, Try.ntmps49
    go_wp2_with (first | (go_at_call 43; (with_reducible refine (cT _ _).mono ?_); rintro e w1 ⟨rfl, hb1⟩; obtain ⟨X, rfl⟩ := GW.of hb1; clear hb1) | (go_at_call 59; (with_reducible refine (cP _).mono ?_); rintro e w1 ⟨rfl, hb1⟩; obtain ⟨X, rfl⟩ := GW.of hb1; clear hb1; have hsz : w.heap.size + 2 ≤ X.world.heap.size := (by have := X.grow.size; simpa using this); have xR : Box X.world (w.heap.size + 1) #[.string ⟨#[]⟩, .string ⟨#[]⟩, .slice none 0 0] 35 := (by first | with_reducible assumption | (apply Box.as; (focus (repeat (first | with_reducible assumption | (with_reducible apply Box.new; simp; done) | with_reducible apply Box.gw | with_reducible apply Box.drew | with_reducible apply Box.alloc | with_reducible apply Box.set | (with_reducible apply Box.set_other; case hg => omega)))); rfl))))
    refine ret_row_tmp (n := 3) rfl rfl Try.underlying35 rfl (by kernel_rfl) rfl ⟨_, by simp (maxDischargeDepth := 6) [go_sem] <;> rfl, rfl, ?_⟩
    exact ⟨.slice none 0 0, [], rfl, rfl, OwnX.nil _ _, (by repeat (first | with_reducible exact Below.refl _ _ | with_reducible assumption | with_reducible exact GW.grow _ | with_reducible refine bl_alloc ?_ _ | with_reducible refine Below.drew ?_ | (with_reducible refine Below.setCell ?_ ?_ _; rotate_left; focus (simp; first | done | omega)) | with_reducible refine bl_trans ?_ (GW.grow _) | (with_reducible refine bl_trans ?_ (by assumption))))⟩
  have hpe : partsV sq = #[.int .i32 (pfx sq), .string (strOfNums (digs sq)), .string (strOfNums (ints sq)), .bool true] := by unfold partsV; rw [if_pos hc]
  rw [hpe] at cP
  have hz : (strOfNums (ints sq)).size = (ints sq).length := strOf_size _
  clear hpe hc
  by_cases hl : 2 < (ints sq).length
  · rw [if_pos (.inr hl)]
    have hlI : (2 : Int) < ((ints sq).length : Int) := by omega
    show Calls Try.prog 49 _ _ (RSt q n c w (⟨0, [], d⟩, []))
    go_enter Try.func49, Try.ntmps49
    go_wp2_with (first | (go_at_call 43; (with_reducible refine (cT _ _).mono ?_); rintro e w1 ⟨rfl, hb1⟩; obtain ⟨X, rfl⟩ := GW.of hb1; clear hb1) | (go_at_call 59; (with_reducible refine (cP _).mono ?_); rintro e w1 ⟨rfl, hb1⟩; obtain ⟨X, rfl⟩ := GW.of hb1; clear hb1; have hsz : w.heap.size + 2 ≤ X.world.heap.size := (by have := X.grow.size; simpa using this); have xR : Box X.world (w.heap.size + 1) #[.string ⟨#[]⟩, .string ⟨#[]⟩, .slice none 0 0] 35 := (by first | with_reducible assumption | (apply Box.as; (focus (repeat (first | with_reducible assumption | (with_reducible apply Box.new; simp; done) | with_reducible apply Box.gw | with_reducible apply Box.drew | with_reducible apply Box.alloc | with_reducible apply Box.set | (with_reducible apply Box.set_other; case hg => omega)))); rfl))))
    refine ret_row_tmp (n := 3) rfl rfl Try.underlying35 rfl (by kernel_rfl) rfl ⟨_, by simp (maxDischargeDepth := 6) [go_sem] <;> rfl, rfl, ?_⟩
    exact ⟨.slice none 0 0, [], rfl, rfl, OwnX.nil _ _, (by repeat (first | with_reducible exact Below.refl _ _ | with_reducible assumption | with_reducible exact GW.grow _ | with_reducible refine bl_alloc ?_ _ | with_reducible refine Below.drew ?_ | (with_reducible refine Below.setCell ?_ ?_ _; rotate_left; focus (simp; first | done | omega)) | with_reducible refine bl_trans ?_ (GW.grow _) | (with_reducible refine bl_trans ?_ (by assumption))))⟩
  · rw [if_neg (show ¬ (true = false ∨ 2 < (ints sq).length) from fun k => k.elim (fun k => by cases k) hl)]
    have hlI : ¬ (2 : Int) < ((ints sq).length : Int) := by omega
    have cR := fun W => rparse_all (digs sq) W (takeWhile_all _ _) (Nat.le_trans (digs_len sq) hsz)
    have hok : okA (coA (pfx sq) (parsL (digs sq)) (ints sq) r) := ⟨fun x hx => hby x (ints_mem hx), by simp [coA]⟩
    show Calls Try.prog 49 _ _ (RSt q n c w (⟨0, [], d⟩, [coA (pfx sq) (parsL (digs sq)) (ints sq) r]))
    go_enter Try.func49, Try.ntmps49
    go_wp2_with (first | (go_at_call 59; (with_reducible refine (cP _).mono ?_); rintro e w1 ⟨rfl, hb1⟩; obtain ⟨X, rfl⟩ := GW.of hb1; clear hb1; have hsz : w.heap.size + 2 ≤ X.world.heap.size := (by have := X.grow.size; simpa using this); have xR : Box X.world (w.heap.size + 1) #[.string ⟨#[]⟩, .string ⟨#[]⟩, .slice none 0 0] 35 := (by first | with_reducible assumption | (apply Box.as; (focus (repeat (first | with_reducible assumption | (with_reducible apply Box.new; simp; done) | with_reducible apply Box.gw | with_reducible apply Box.drew | with_reducible apply Box.alloc | with_reducible apply Box.set | (with_reducible apply Box.set_other; case hg => omega)))); rfl))) | (go_at_call 65; (with_reducible refine (cR _).mono ?_); rintro e w1 ⟨lv, rfl, hol, hb1⟩; obtain ⟨ql, nl, hle⟩ := Rd.lits hol.rd; subst hle; have hsb := hb1.size; have xR := Box.past hb1 xR; obtain ⟨X, rfl⟩ := GW.of hb1; clear hb1) | (go_at_call 43; (with_reducible refine (cT _ _).mono ?_); rintro e w1 ⟨rfl, hb1⟩; have hol2 := hol.kept hb1; have xR := Box.past hb1 xR; obtain ⟨X, rfl⟩ := GW.of hb1; clear hb1; have cO : Calls Try.prog 44 #[.agg #[.int .i64 4, .int .i32 r, .int .i32 (pfx sq), .string (strOfNums (ints sq)), .slice ql (parsL (digs sq)).length nl, .string ⟨#[]⟩]] X.world _ := rone_any (coA (pfx sq) (parsL (digs sq)) (ints sq) r) ql _ nl _ _ hol2 (Nat.le_trans hsb X.grow.size) hok) | (go_at_call 44; (with_reducible refine cO.mono ?_); rintro e w1 ⟨v1, rfl, ho1, hb1⟩; have xR := Box.past hb1 xR; have rc := xR.cell; have rf := xR.free; have rl := xR.lt; obtain ⟨X, rfl⟩ := GW.of hb1; clear hb1))
    have yE := set3 xR (.string ⟨#[]⟩) (.string ⟨#[]⟩) (.slice q n c)
    have yEl := yE.lt
    refine ret_row_tmp (n := 3) rfl rfl Try.underlying35 rfl (by kernel_rfl) rfl ⟨_, by simp (maxDischargeDepth := 6) [go_sem, Box.row yE, yEl] <;> rfl, rfl, ?_⟩
    exact ⟨v1, [(coA (pfx sq) (parsL (digs sq)) (ints sq) r, .slice ql (parsL (digs sq)).length nl)], rfl, rfl, (ho1.bar (Bar3 _ _ _ _ _) (by omega)).weaken (by omega), (by repeat (first | with_reducible exact Below.refl _ _ | with_reducible assumption | with_reducible exact GW.grow _ | with_reducible refine bl_alloc ?_ _ | with_reducible refine Below.drew ?_ | (with_reducible refine Below.setCell ?_ ?_ _; rotate_left; focus (simp; first | done | omega)) | with_reducible refine bl_trans ?_ (GW.grow _) | (with_reducible refine bl_trans ?_ (by assumption))))⟩

end Go.Proofs.Ytpkkfcfkhiaggaa
