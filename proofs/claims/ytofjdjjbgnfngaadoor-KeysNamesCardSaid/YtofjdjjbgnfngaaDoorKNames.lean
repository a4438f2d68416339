/- keys: KeysNames returns true for every input. No condition. -/
import Derived.Test.YtofjdjjbgnfngaaDoorQ
import Derived.Test.YtofjdjjbgnfngaaDoorG
import Derived.Test.YtofjdjjbgnfngaaDoorCards
import Derived.Test.YtofjdjjbgnfngaaDoorTie
import Derived.SevenTiedAt
import Derived.ChangeMaps5
import Derived.Deep.CutBlock
import Derived.Deep.DeepCutAuto
import Derived.Test.YtofjdjjbgnfngaaDoorLate3
import Derived.WalkLawsBesides
import Derived.Outline
set_option linter.unusedSimpArgs false
set_option linter.unusedVariables false
set_option linter.unnecessarySimpa false
namespace Go.Proofs.YtofjdjjbgnfngaaDoor
open Go.ChangeShapes Go.WideShapes Go.ChangeAt Go.RowKit

/-- append of two strings, as one step of a region whose order is drawn. -/
theorem step_appS2 {ops : Array Oper} {o : Oper} {a : Act} {w : World} {K : Act → World → Prop} {Q : Exit → Act → World → Prop} {E' : Prop} (hg : o.guard = none) (s x : Operand)
    (ho : o.op = .call { callee := .builtin .append, args := #[s, x], argTypes := #[37, 37] })
    (B : Nat) (v : Value) (ss : List ByteArray) (t u : ByteArray) (b : Nat) (hown : OwnS w B v ss) (hc0 : w.cell? ⟨b, 0, none⟩ = some (.string t)) (hc1 : w.cell? ⟨b, 1, none⟩ = some (.string u)) (hs : a.eval s = v) (hx : a.eval x = .slice (some ⟨b, 0, none⟩) 2 2) (hl : ss.length ≤ 1000) (hbase : B ≤ w.heap.size)
    (hK : ∀ v' w', OwnS w' B v' (ss ++ [t, u]) → Below B w w' → K (a.put o.dst v') w') :
    if Region.wanted o (yielded ops a.tmps) = true then Oper.wp Tryd.prog o a w K Q else E' := by
  have hw : Region.wanted o (yielded ops a.tmps) = true := by simp [Region.wanted, hg]
  rw [if_pos hw]
  obtain ⟨i0, hi, hz0, hz1, hz2⟩ := info_parts elS
  obtain ⟨v', w', hr, h2, h3, h4⟩ := run_append_where (P := Tryd.prog) w B 37 o.type 9 i0 (.string ⟨#[]⟩) 1 16 Tryd.underlying37 hi hz0 hz1 hz2 rfl (by decide) v ss.length (ss.map .string) hown ⟨b, 0, none⟩ 2 2 [.string t, .string u] (by simp) (fun j z hz => by
    match j with
    | 0 =>
      obtain rfl : Value.string t = z := by simpa using hz
      exact hc0
    | 1 =>
      obtain rfl : Value.string u = z := by simpa using hz
      exact hc1
    | n + 2 => simp at hz) (fun z hz => by
    simp only [List.mem_cons, List.not_mem_nil, or_false] at hz
    rcases hz with rfl | rfl <;> rfl) (by unfold maxLen; omega) (by omega) hbase
  unfold Oper.wp execOp
  simp only [ho, resolve, invoke, builtin, Sem.run_bind, Sem.run_pure, Result.andThen_ok, List.map_toArray, List.map_cons, List.map_nil, hs, hx, hr]
  exact hK v' w' (by unfold OwnS; rw [List.length_append, List.map_append]; exact h2) (grown_below h3 (fun k hk => (World.ownsRow.lt hown k hk).1) hbase)
def NmR (w : World) (v : Value) (wx : World) : Prop := ∃ ss : List ByteArray, (1 ≤ ss.length ∧ ss.length ≤ 3 ∧ (∀ (j : Nat) (x : ByteArray), ss[j]? = some x → x.size ≤ 60) ∧ (∀ x : ByteArray, ss[1]? = some x → byOk x = true)) ∧ OwnS wx (w.heap.size + 1) v ss ∧ Below w.heap.size w wx
set_option maxHeartbeats 8000000 in
set_option maxRecDepth 100000 in
theorem keysNames_any (s : ByteArray) (code rune : Int) (sh al ct : Bool) (at_ less : Int) (more : ByteArray) (w : World) (hg : Gl w) (hr : -2147483648 ≤ rune ∧ rune ≤ 2147483647) (ha : 0 ≤ at_ ∧ at_ < 256) (hl : 0 ≤ less ∧ less < 256) : Calls Tryd.prog 5 #[.string s, .agg #[.int .i64 code, .int .i32 rune, .bool sh, .bool al, .bool ct], .int .u8 at_, .int .u8 less, .string more] w fun e w' => e = .returned (.bool true) ∧ Below w.heap.size w w' := by
  have hB0 : Below w.heap.size w (w.alloc (.cells #[.int .i64 code, .int .i32 rune, .bool sh, .bool al, .bool ct] 24)) := bl_alloc (Below.refl _ _) _
  have hB : Below w.heap.size w ((w.alloc (.cells #[.int .i64 code, .int .i32 rune, .bool sh, .bool al, .bool ct] 24)).alloc (.cells #[.string s] 9)) := bl_alloc hB0 _
  by_cases hs : s.size ≤ 40
  case neg =>
    go_enter Tryd.func5, Tryd.ntmps5
    go_wp2_with (first | (go_at_call 12; (with_reducible refine (known_any _ (hg.below hB0)).mono ?_); rintro e w1 ⟨rfl, hb⟩))
    go_ret
    exact ⟨rfl, bl_trans hB0 hb⟩
  by_cases hm : more.size ≤ 10
  case neg =>
    go_enter Tryd.func5, Tryd.ntmps5
    go_wp2_with (first | (go_at_call 12; (with_reducible refine (known_any _ (hg.below hB0)).mono ?_); rintro e w1 ⟨rfl, hb⟩))
    go_ret
    exact ⟨rfl, bl_trans hB0 hb⟩
  have cR := fun W => rvalid_any code rune sh al ct W
  have hown0 : OwnS ((w.alloc (.cells #[.int .i64 code, .int .i32 rune, .bool sh, .bool al, .bool ct] 24)).alloc (.cells #[.string s] 9)) (w.heap.size + 1) (.slice (some ⟨w.heap.size + 1, 0, none⟩) 1 1) [s] := by
    have := ownS_lit (w.alloc (.cells #[.int .i64 code, .int .i32 rune, .bool sh, .bool al, .bool ct] 24)) [s] (by simp)
    simpa using this
  have hns : Hid (validK code rune = true → (nameS code rune sh al ct).size ≤ 16 ∧ byOk (nameS code rune sh al ct) = true) := Lib.hid fun hv => ⟨name_size code rune sh al ct hv, by_ok code rune sh al ct hv⟩
  have cN := fun W hv => rname_any code rune sh al ct W hv
  generalize nameS code rune sh al ct = nm at *
  go_enter Tryd.func5, Tryd.ntmps5
  go_upto_if 30 with (first | (go_at_call 9; (with_reducible refine (cR _).mono ?_); rintro e w1 ⟨rfl, hb⟩; (first | obtain ⟨X1, rfl⟩ := GW.of2 hb | obtain ⟨X1, rfl⟩ := GW.of hb); clear hb))
  go_cut [11] (fun v wx => NmR w v wx)
  case first =>
    cases hv : validK code rune
    · go_wp2_with fail
      go_meet
      exact ⟨[s], ⟨by simp, by simp, fun j x hx => by
        match j, hx with
        | 0, hx => (obtain rfl : s = x := by simpa using hx); omega
        | n + 1, hx => simp at hx, fun x hx => by simp at hx⟩, hown0.kept (GW.grow _), bl_trans hB (GW.grow _)⟩
    · have cN := fun W => cN W hv
      obtain ⟨hns, hby⟩ := hns.out hv
      have hby := Lib.hid hby
      go_upto_region 7 with (first | (go_at_call 14; (with_reducible refine (cN _).mono ?_); rintro e w1 ⟨rfl, hb⟩; (first | obtain ⟨X2, rfl⟩ := GW.of2 hb | obtain ⟨X2, rfl⟩ := GW.of hb); clear hb))
      obtain ⟨i, hi⟩ : ∃ i : Nat, at_ % ((nm.size : Int) + 1) = (i : Int) := ⟨(at_ % ((nm.size : Int) + 1)).toNat, by have := Int.emod_nonneg at_ (show ((nm.size : Int) + 1) ≠ 0 by omega); omega⟩
      have hi2 : i ≤ nm.size := by have := Int.emod_lt_of_pos at_ (show (0 : Int) < (nm.size : Int) + 1 by omega); omega
      rw [hi]
      clear hi
      go_upto_region 8 with fail
      obtain ⟨j0, hj⟩ : ∃ j : Nat, min (nm.size : Int) ((i : Int) + less) = (j : Int) := ⟨(min (nm.size : Int) ((i : Int) + less)).toNat, by omega⟩
      have hj2 : j0 ≤ nm.size := by omega
      rw [hj]
      clear hj
      have hsz : ((nm.extract 0 i ++ more) ++ nm.extract j0 nm.size).size ≤ 60 := by simp only [ByteArray.size_append, ByteArray.size_extract]; omega
      refine wp_region_V (fun _ _ => True) (by kernel_rfl) ?_
      have hTr : ∀ u1 u2 u3 : World, (fun _ _ => True : World → World → Prop) u1 u2 → (fun _ _ => True : World → World → Prop) u2 u3 → (fun _ _ => True : World → World → Prop) u1 u3 := fun _ _ _ _ _ => trivial
      have hGr : ∀ u1 u2 : World, Gr u1 u2 → (fun _ _ => True : World → World → Prop) u1 u2 := fun _ _ _ => trivial
      refine wpAnyV_takeS hTr hGr (A := ?A0) 0 rfl (by kernel_rfl) (by kernel_rfl) (by kernel_rfl) (fun _ _ _ _ h => h) ?q0 ?r0
      case q0 =>
        intro W hW
        try simp only [List.getElem_toArray, List.getElem_cons_zero, List.getElem_cons_succ]
        go_big_quiet_step (fail)
        refine wpQuiet_nil ?_
        rfl
      refine wpAnyV_takeS hTr hGr (A := ?A1) 1 rfl (by kernel_rfl) (by kernel_rfl) (by kernel_rfl) (fun _ _ _ _ h => h) ?q1 ?r1
      case q1 =>
        intro W hW
        try simp only [List.getElem_toArray, List.getElem_cons_zero, List.getElem_cons_succ]
        go_big_quiet_step (fail)
        refine wpQuiet_nil ?_
        rfl
      refine wpAnyV_takeS hTr hGr (A := ?A2) 2 rfl (by kernel_rfl) (by kernel_rfl) (by kernel_rfl) (fun _ _ _ _ h => h) ?q2 ?r2
      case q2 =>
        intro W hW
        try simp only [List.getElem_toArray, List.getElem_cons_zero, List.getElem_cons_succ]
        go_big_quiet_step (fail)
        refine wpQuiet_nil ?_
        rfl
      refine wpAnyV_takeS hTr hGr (A := ?A3) 3 rfl (by kernel_rfl) (by kernel_rfl) (by kernel_rfl) (fun _ _ _ _ h => h) ?q3 ?r3
      case q3 =>
        intro W hW
        try simp only [List.getElem_toArray, List.getElem_cons_zero, List.getElem_cons_succ]
        go_big_quiet_step (fail)
        refine wpQuiet_nil ?_
        rfl
      refine wpAnyV_takeS hTr hGr (A := ?A4) 4 rfl (by kernel_rfl) (by kernel_rfl) (by kernel_rfl) (fun _ _ _ _ h => h) ?q4 ?r4
      case q4 =>
        intro W hW
        try simp only [List.getElem_toArray, List.getElem_cons_zero, List.getElem_cons_succ]
        go_big_quiet_step (fail)
        refine wpQuiet_nil ?_
        rfl
      refine wpAnyV_takeS hTr hGr (A := ?A5) 5 rfl (by kernel_rfl) (by kernel_rfl) (by kernel_rfl) (fun _ _ _ _ h => h) ?q5 ?r5
      case q5 =>
        intro W hW
        try simp only [List.getElem_toArray, List.getElem_cons_zero, List.getElem_cons_succ]
        go_big_quiet_step (fail)
        refine wpQuiet_nil ?_
        rfl
      refine wpAnyV_takeS hTr hGr (A := ?A6) 6 rfl (by kernel_rfl) (by kernel_rfl) (by kernel_rfl) (fun _ _ _ _ h => h) ?q6 ?r6
      case q6 =>
        intro W hW
        try simp only [List.getElem_toArray, List.getElem_cons_zero, List.getElem_cons_succ]
        go_big_quiet_step (fail)
        refine wpQuiet_nil ?_
        rfl
      refine wpAnyV_takeS hTr hGr (A := ?A7) 7 rfl (by kernel_rfl) (by kernel_rfl) (by kernel_rfl) (fun _ _ _ _ h => h) ?q7 ?r7
      case q7 =>
        intro W hW
        try simp only [List.getElem_toArray, List.getElem_cons_zero, List.getElem_cons_succ]
        go_big_quiet_step (fail)
        refine wpQuiet_nil ?_
        rfl
      refine wpAnyV_takeS hTr hGr (A := ?A8) 8 rfl (by kernel_rfl) (by kernel_rfl) (by kernel_rfl) (fun _ _ _ _ h => h) ?q8 ?r8
      case q8 =>
        intro W hW
        try simp only [List.getElem_toArray, List.getElem_cons_zero, List.getElem_cons_succ]
        go_big_quiet_step (fail)
        refine wpQuiet_nil ?_
        rfl
      refine wpAnyV_takeS hTr hGr (A := ?A9) 9 rfl (by kernel_rfl) (by kernel_rfl) (by kernel_rfl) (fun _ _ _ _ h => h) ?q9 ?r9
      case q9 =>
        intro W hW
        try simp only [List.getElem_toArray, List.getElem_cons_zero, List.getElem_cons_succ]
        go_big_quiet_step (fail)
        refine wpQuiet_nil ?_
        rfl
      refine wpAnyV_takeS hTr hGr (A := ?A10) 10 rfl (by kernel_rfl) (by kernel_rfl) (by kernel_rfl) (fun _ _ _ _ h => h) ?q10 ?r10
      case q10 =>
        intro W hW
        try simp only [List.getElem_toArray, List.getElem_cons_zero, List.getElem_cons_succ]
        go_big_quiet_step (fail)
        refine wpQuiet_nil ?_
        rfl
      refine wpAnyV_one 11 (by kernel_rfl) ?_
      intro W hW
      have hbW : Below ((w.alloc (.cells #[.int .i64 code, .int .i32 rune, .bool sh, .bool al, .bool ct] 24)).alloc (.cells #[.string s] 9)).heap.size ((w.alloc (.cells #[.int .i64 code, .int .i32 rune, .bool sh, .bool al, .bool ct] 24)).alloc (.cells #[.string s] 9)) W := bl_trans (GW.grow X2) (bl_trans ((Below.refl _ _).drew) hW)
      refine wpOp_step rfl (fun K hK => ?_)
      go_simp
      refine hK _ _ ⟨trivial, ?_⟩
      clear hK K
      try simp only [Act.put, List.getElem_toArray, List.getElem_cons_zero, List.getElem_cons_succ, List.setIfInBounds_toArray, List.set_cons_zero, List.set_cons_succ]
      refine wpAnyV_one 12 (by kernel_rfl) ?_
      intro V hV
      refine wpOp_step rfl (fun K hK => ?_)
      have hbV : Below ((w.alloc (.cells #[.int .i64 code, .int .i32 rune, .bool sh, .bool al, .bool ct] 24)).alloc (.cells #[.string s] 9)).heap.size ((w.alloc (.cells #[.int .i64 code, .int .i32 rune, .bool sh, .bool al, .bool ct] 24)).alloc (.cells #[.string s] 9)) V := bl_trans (bl_trans hbW (bl_alloc (Below.refl _ _) _)) hV
      have hx := Box.new W #[.string nm, .string ((nm.extract 0 i ++ more) ++ nm.extract j0 nm.size)] 9 rfl
      have hxV : Box V W.heap.size _ _ := (hV.block _ hx.lt).trans hx
      have hVs := hbV.size
      refine step_appS2 rfl (.tmp 46) (.tmp 57) rfl (w.heap.size + 1) _ [s] nm ((nm.extract 0 i ++ more) ++ nm.extract j0 nm.size) W.heap.size (hown0.kept hbV) (by rw [hxV.cell]; rfl) (by rw [hxV.cell]; rfl) rfl rfl (by simp) (by simp at hVs; omega) ?_
      intro v' w' hown1 hb1
      refine hK _ _ ⟨trivial, ?_⟩
      clear hK K
      try simp only [Act.put, List.getElem_toArray, List.getElem_cons_zero, List.getElem_cons_succ, List.setIfInBounds_toArray, List.set_cons_zero, List.set_cons_succ]
      refine wpAnyV_one 13 (by kernel_rfl) ?_
      intro U hU
      have hown2 := hown1.kept hU
      have hb2 : Below w.heap.size w U := bl_trans ((bl_trans hB hbV).trans (Below.mono hb1 (by omega))) hU
      refine wpOp_step rfl (fun K hK => ?_)
      go_simp
      refine hK _ _ ⟨trivial, ?_⟩
      clear hK K
      try simp only [Act.put, List.getElem_toArray, List.getElem_cons_zero, List.getElem_cons_succ, List.setIfInBounds_toArray, List.set_cons_zero, List.set_cons_succ]
      refine wpAnyV_done (by kernel_rfl) ?_ _
      intro Z hZ
      have hown3 := hown2.kept hZ
      have hb3 := bl_trans hb2 hZ
      go_wp2_with fail
      go_meet
      exact ⟨_, ⟨by simp, by simp, fun j x hx => by
        match j, hx with
        | 0, hx => (obtain rfl : s = x := by simpa using hx); omega
        | 1, hx => (obtain rfl : nm = x := by simpa using hx); omega
        | 2, hx => (obtain rfl : (nm.extract 0 i ++ more) ++ nm.extract j0 nm.size = x := by simpa using hx); omega
        | n + 3, hx => simp at hx, fun x hx => by
        obtain rfl : nm = x := by simpa using hx
        exact hby.out⟩, hown3, hb3⟩
  case rest =>
  obtain ⟨ss, ⟨hl1, hl3, hS, hS1⟩, hown, hbc⟩ := hcut
  obtain ⟨g, c, rfl, _, hgl, hlc, hcm, hcell⟩ := hown.cells (by rintro rfl; simp at hl1)
  clear hown hown0 cN hns cR hB hB0
  have HS := Lib.hid hS
  have HS1 := Lib.hid hS1
  have HC := Lib.hid hcell
  clear hS hS1 hcell
  obtain ⟨W0, hW0⟩ : ∃ W0, wc = W0 := ⟨_, rfl⟩
  subst hW0
  go_wp2_with fail
  go_loopw [15] (fun i wr => ∃ k : Nat, k ≤ ss.length ∧ i = .int .i64 k ∧ Below wc.heap.size wc wr) (fun i _ => ss.length - (intOf i).toNat)
  case atStart => exact ⟨0, by omega, rfl, Below.refl _ _⟩
  case round =>
    obtain ⟨k, hk, rfl, hbel⟩ := hrel
    have hbw : Below w.heap.size w wr := bl_trans hbc hbel
    by_cases hlt : k < ss.length
    · have hck : ∀ W, Below wc.heap.size wc W → W.cell? ⟨g, k, none⟩ = some (.string ss[k]) := fun W h => (h.cell (p := ⟨g, k, none⟩) hgl).trans (HC.out k _ (List.getElem?_eq_getElem hlt))
      have hsx := HS.out k _ (List.getElem?_eq_getElem hlt)
      have hc0 := hck wr hbel
      have h1 : byOk ss[k] = true ∨ (byOk ss[k] = false ∧ ((k : Int) == 1) = false) := by
        cases hb : byOk ss[k]
        · refine .inr ⟨rfl, ?_⟩
          rw [beq_eq_false_iff_ne]
          intro e
          obtain rfl : k = 1 := by omega
          have := HS1.out _ (List.getElem?_eq_getElem hlt)
          rw [hb] at this
          cases this
        · exact .inl rfl
      have hk3 : k < 3 := by omega
      have hltI : (k : Int) < (ss.length : Int) := by omega
      generalize ss[k] = x at *
      have cB := fun W (h : Below wr.heap.size wr W) => byName_any x W ((hg.below hbw).below h) (by omega)
      unfold ByE at cB
      rcases h1 with hb | ⟨hb, hk1⟩
      · have hvn := hb
        rw [hb, if_pos rfl, if_pos rfl] at cB
        unfold byOk at hvn
        rw [Bool.and_eq_true, decide_eq_true_eq] at hvn
        obtain ⟨hv, hn⟩ := hvn
        generalize keyCode x = kc at *
        generalize keyRune x = kr at *
        generalize flagN x 2 = f2 at *
        generalize flagN x 1 = f1 at *
        generalize flagN x 0 = f0 at *
        have cV := fun W => rvalid_any kc kr f2 f1 f0 W
        rw [hv] at cV
        have cN := fun W => rname_any kc kr f2 f1 f0 W hv
        rw [hn] at cN
        clear hn hv hb
        go_wp2_with (first | (go_at_call 16; (with_reducible refine (cB _ (Below.refl _ _)).mono ?_); rintro e w1 ⟨rfl, hb1⟩; have hcw := hck w1 (bl_trans hbel hb1); have hgw : g < w1.heap.size := Nat.lt_of_lt_of_le hgl (bl_trans hbel hb1).size))
        first | refine wp_grow2 (by kernel_rfl) (by kernel_rfl) ?_ | refine wp_grow (by kernel_rfl) (by kernel_rfl) ?_
        repeat (go_big_quiet_step (first | (go_at_call 9; with_reducible exact GW.call (cV _)) | (go_at_call 14; with_reducible exact GW.call (cN _))))
        refine wpQuiet_nil ?_
        rintro _ ⟨X, rfl⟩
        go_wp2_with fail
        go_roundw
        case rel => exact ⟨k + 1, by omega, by go_num, bl_trans hbel (bl_trans hb1 (bl_trans (bl_alloc (Below.refl _ _) _) (GW.grow _)))⟩
        case measure => simp [intOf]; omega
      · rw [hb, if_neg (by decide), if_neg (by decide)] at cB
        go_wp2_with (first | (go_at_call 16; (with_reducible refine (cB _ (Below.refl _ _)).mono ?_); rintro e w1 ⟨rfl, hb1⟩; have hcw := hck w1 (bl_trans hbel hb1); have hgw : g < w1.heap.size := Nat.lt_of_lt_of_le hgl (bl_trans hbel hb1).size))
        first | refine wp_grow2 (by kernel_rfl) (by kernel_rfl) ?_ | refine wp_grow (by kernel_rfl) (by kernel_rfl) ?_
        repeat (go_big_quiet_step (fail))
        refine wpQuiet_nil ?_
        rintro _ ⟨X, rfl⟩
        go_wp2_with fail
        go_roundw
        case rel => exact ⟨k + 1, by omega, by go_num, bl_trans hbel (bl_trans hb1 (bl_trans (bl_alloc (Below.refl _ _) _) (GW.grow _)))⟩
        case measure => simp [intOf]; omega
    · have cK := known_any wr (hg.below hbw)
      go_wp2_with (first | (go_at_call 12; (with_reducible refine cK.mono ?_); rintro e w1 ⟨rfl, hb⟩))
      go_ret
      exact ⟨rfl, bl_trans hbw hb⟩
theorem trodAll_five {H : Type} {enc : TypeId × Value → H} {P : Program} {w : World} {base : Nat} {spare : Nat → Bool} {held : Bool} {t0 t1 t2 t3 t4 : TypeId} {args : Array Value} {ds : List (DataW H)} {ps : List MemPlace} (h : DataW.TrodAll enc P w base spare held [t0, t1, t2, t3, t4] args.toList ds ps) :
    ∃ v0 v1 v2 v3 v4 d0 d1 d2 d3 d4 p0 p1 p2 p3 p4, args = #[v0, v1, v2, v3, v4] ∧ ds = [d0, d1, d2, d3, d4] ∧ ps = p0 ++ p1 ++ p2 ++ p3 ++ p4 ∧ DataW.Trod enc P w base spare held t0 v0 d0 p0 ∧ DataW.Trod enc P w base spare held t1 v1 d1 p1 ∧ DataW.Trod enc P w base spare held t2 v2 d2 p2 ∧ DataW.Trod enc P w base spare held t3 v3 d3 p3 ∧ DataW.Trod enc P w base spare held t4 v4 d4 p4 := by
  obtain ⟨args⟩ := args
  obtain ⟨v0, vs0, d0, ds0, p0, q0, e0, f0, g0, k0, h1⟩ := trodAll_cons h
  obtain ⟨v1, vs1, d1, ds1, p1, q1, e1, f1, g1, k1, h2⟩ := trodAll_cons h1
  obtain ⟨v2, vs2, d2, ds2, p2, q2, e2, f2, g2, k2, h3⟩ := trodAll_cons h2
  obtain ⟨v3, vs3, d3, ds3, p3, q3, e3, f3, g3, k3, h4⟩ := trodAll_cons h3
  obtain ⟨v4, vs4, d4, ds4, p4, q4, e4, f4, g4, k4, h5⟩ := trodAll_cons h4
  obtain ⟨e5, f5, g5⟩ := trodAll_nil h5
  refine ⟨v0, v1, v2, v3, v4, d0, d1, d2, d3, d4, p0, p1, p2, p3, p4, ?_, ?_, ?_, k0, k1, k2, k3, k4⟩
  · simp only at e0
    rw [e0, e1, e2, e3, e4, e5]
  · rw [f0, f1, f2, f3, f4, f5]
  · rw [g0, g1, g2, g3, g4, g5]; simp
open Go.ChangeMaps

set_option maxRecDepth 100000 in
theorem keysNames_lifted (os : Os) (started : os.Started) (H : Type) (enc : TypeId × Value → H) :
    ReturnsInHanded {} Tryd.checked os 5 .any (fun w args => (Rows.keysNamesSpec.pre enc Tryd.prog Tryd.f5 [] false w args ∧ laidMetH Tryd.prog laid5 w) ∧ sizedMet enc Tryd.prog Tryd.f5 (OpenSpec.ofChange Rows.keysNamesSpec) false w args)
      (Rows.keysNamesSpec.post enc Tryd.prog Tryd.f5 false true false false) := by
  refine returnsInHanded_of_change_and (C := Tryd.checked) (X := fun w _ => laidMetH Tryd.prog laid5 w) (fun _ _ _ hh h => h.of_heap hh) Tryd.own started (by kernel_rfl) Tryd.func5
    (ChangeSpec.witness_shaped (enc := enc) (C := Tryd.checked) (os := os) (X := fun w _ => laidMetH Tryd.prog laid5 w) false (World.laidAll Tryd.prog os laid5) #[.string ⟨#[]⟩, .agg #[.int .i64 0, .int .i32 0, .bool false, .bool false, .bool false], .int .u8 0, .int .u8 0, .string ⟨#[]⟩] 8 (World.laidAll_os _ _ _) (World.shaped_of_ZipB (by kernel_rfl) (by kernel_rfl)) (by kernel_rfl) (by kernel_rfl) (by kernel_rfl) (door_met os _)) ?_
  intro W base args ds gs before hval0 hW _ _ hL _
  have hval : ∀ (j : Nat) t v, Tryd.f5.params[j]? = some t → args[j]? = some v → Value.okWide Tryd.prog W .any base t v := hval0
  have hW' := hW
  obtain ⟨p, q, hA0, hV, rfl, hfz, hnd⟩ := hW
  have hA : DataW.TrodAll enc Tryd.prog W 0 (fun _ => true) true Tryd.f5.params.toList args.toList ds p := hA0
  rw [Tryd.params5] at hA hval
  obtain ⟨v0, v1, v2, v3, v4, d0, d1, d2, d3, d4, p0, p1, p2, p3, p4, rfl, rfl, rfl, h0, h1, h2, h3, h4⟩ := trodAll_five hA
  obtain ⟨rfl, rfl⟩ := trodVars_none hV
  obtain ⟨s, rfl, _⟩ := open_string Tryd.underlying9 (hval 0 9 v0 rfl rfl) h0
  obtain ⟨code, rune, sh, al, ct, rfl, hw⟩ := open_key (hval 1 24 v1 rfl rfl) h1
  obtain ⟨at_, rfl, ha⟩ := open_num Tryd.underlying5 (hval 2 5 v2 rfl rfl) h2
  obtain ⟨less, rfl, hl⟩ := open_num Tryd.underlying5 (hval 3 5 v3 rfl rfl) h3
  obtain ⟨more, rfl, _⟩ := open_string Tryd.underlying9 (hval 4 9 v4 rfl rfl) h4
  clear hA0 hval0
  have hT := gl_of_laid hL
  refine (keysNames_any s code rune sh al ct at_ less more W hT (wf_i32 hw) (wf_byte ha) (wf_byte hl)).mono fun e W' ⟨he, hw⟩ => ?_
  exact ⟨_, he, post_law Tryd.laidOut rfl hW' (by kernel_rfl) rfl Tryd.underlying4 rfl hw⟩

theorem keysNames_row : Rows.KeysNamesSaid :=
  OpenClaim.holds_of_wide 5 Tryd.f5 rfl rfl rfl rfl rfl rfl rfl ⟨rfl, rfl, rfl, rfl, rfl⟩ rfl rfl rfl rfl rfl (by kernel_rfl) Tryd.func5 (by kernel_rfl)
    (of_decide_eq_true (by kernel_rfl)) (by unfold Func.isWrapper; first | (rw [if_pos (by decide +kernel)]; kernel_rfl) | (rw [if_neg (by decide +kernel)]; exact ⟨rfl, rfl⟩))
    (fun os started H enc _ => keysNames_lifted os started H enc)

set_option maxHeartbeats 8000000 in
set_option maxRecDepth 100000 in
/-- THE TIED CARD. -/
theorem keysNames_holds : Rows.KeysNamesCardSaid :=
  Claim7.holds_tied_plain_at .later [] [.data, .data, .data, .data, .pinned] true (true, "890afae7ed2c885f344a8cf78685aad67095242f2643ec5516ae53b0677103bb") false
    keysNames_row (fun _ h => by cases h) (by kernel_rfl) (fun _ h => by cases h) keysNames_row_tie rfl ⟨rfl, rfl⟩ (by kernel_rfl) rfl
    (fun f fn hf hfn => by
      obtain rfl : f = 5 := Option.some.inj ((show Tryd.prog.funcNamed "scrollback/scrollbacklaw49.KeysNames" = some 5 by kernel_rfl).symm.trans hf) |>.symm
      obtain rfl : fn = Tryd.f5 := (Option.some.inj (Tryd.func5.symm.trans hfn)).symm
      exact ⟨by kernel_rfl, fun j t ht => by
        rw [Tryd.params5] at ht
        have hm : t ∈ [9, 24, 5, 9] := by simpa using Array.mem_of_getElem? ht
        have hall : ([9, 24, 5, 9].all fun u => !Tryd.prog.wantsStandIn u) = true := by kernel_rfl
        exact (show Tryd.prog.wantsStandIn t = false by simpa using List.all_eq_true.1 hall t hm)⟩)
    (by kernel_rfl)

end Go.Proofs.YtofjdjjbgnfngaaDoor
