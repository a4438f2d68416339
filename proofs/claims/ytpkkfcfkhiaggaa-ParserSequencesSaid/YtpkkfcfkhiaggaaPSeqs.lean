/- parser: ParserSequences returns true for every input. No condition. Printed by mk_ps.py. -/
import Derived.Test.YtpkkfcfkhiaggaaXM
import Derived.Test.YtpkkfcfkhiaggaaOpen
import Derived.Test.YtpkkfcfkhiaggaaLift
import Derived.ChangeSlices
import Derived.Laws.Cover4
import Derived.Deep.CutBlock
import Derived.Deep.DeepCutAuto
import Derived.Outline
set_option linter.unusedSimpArgs false
set_option linter.unusedVariables false
set_option linter.unnecessarySimpa false
namespace Go.Proofs.Ytpkkfcfkhiaggaa
open Go.ChangeShapes Go.WideShapes Go.ChangeAt Go.RowKit

theorem two_runes (o : Int) (w : World) : (convert 45 9 (.slice (some ⟨w.heap.size, 0, none⟩) 2 2)).run Try.prog (w.alloc (.cells #[.int .i32 27, .int .i32 o] 21)) = .ok (.string (runesBytes [27, o])) (w.alloc (.cells #[.int .i32 27, .int .i32 o] 21)) := by
  have hx := Box.new w #[.int .i32 27, .int .i32 o] 21 rfl
  refine run_convert_runes _ _ _ 21 ⟨w.heap.size, 0, none⟩ 2 2 [27, o] (by simp) Try.underlying45 Try.underlying21 Try.underlying9 (fun j hj => ?_)
  rw [Addr.add_lit, hx.cell]
  obtain rfl | rfl : j = 0 ∨ j = 1 := by simp at hj; omega
  · rfl
  · rfl
set_option maxRecDepth 100000 in
set_option maxHeartbeats 4000000 in
theorem parserSequences_any (o r : Int) (s : ByteArray) (w : World) : Calls Try.prog 4 #[.int .i32 o, .string s, .int .i32 r] w fun e w' => e = .returned (.bool true) ∧ Below w.heap.size w w' := by
  by_cases hl : 40 < s.size
  · go_enter Try.func4, Try.ntmps4
    go_wp2_with (go_at_call 9; (with_reducible refine (known_any _).mono ?_); rintro e w1 ⟨rfl, hb1⟩)
    go_ret
    exact ⟨rfl, hb1⟩
  · have kr := two_runes o w
    have hs1 := runesBytes_size_le [27, o]
    simp only [List.length_cons, List.length_nil] at hs1
    have hs2 := encode_size_le r
    generalize runesBytes [27, o] = t1 at *
    have hsz1 : (t1 ++ s ++ Utf8.encode r ++ ⟨#[120]⟩ : ByteArray).size ≤ 200 := by
      simp only [ByteArray.size_append]
      have : (⟨#[120]⟩ : ByteArray).size = 1 := rfl
      omega
    have hsz0 : (t1 ++ s ++ Utf8.encode r ++ ⟨#[120]⟩ : ByteArray).size ≤ maxLen := Nat.le_trans hsz1 (by decide)
    go_enter Try.func4, Try.ntmps4
    go_upto_region 4 with (refine wpList_bytes rfl _ 9 22 5 rfl Try.underlying9 Try.underlying22 Try.underlying5 _ rfl hsz0 ?_; intro vb w0 hrd hfr hb0)
    have hf0 : Below w.heap.size w w0 := bl_trans (bl_alloc (Below.refl _ _) _) hb0
    have hlen : (bytesOf (t1 ++ s ++ Utf8.encode r ++ ⟨#[120]⟩)).length ≤ 200 := by
      rw [bytesOf_len]; exact hsz1
    have hb := bytesOf_byte (t1 ++ s ++ Utf8.encode r ++ ⟨#[120]⟩)
    clear hb0 kr hfr
    generalize bytesOf (t1 ++ s ++ Utf8.encode r ++ ⟨#[120]⟩) = xs at *
    obtain ⟨qb, nb, hvb⟩ := Rd.lits hrd
    subst hvb
    have hp0 := PV.new w0
    have g0 : Below w0.heap.size w0 (w0.alloc (.cells #[.slice none 0 0, .int .i64 0, .int .u8 0, .int .u8 0, .int .i64 0, .int .i32 0, .string ⟨#[]⟩, .int .i64 0, .int .i64 0, .int .i64 0, .int .i64 0, .int .i64 0, .int .i64 0, .int .i64 0, .int .i64 0, .int .i64 0, .int .i64 0, .int .i64 0, .int .i64 0, .int .i64 0, .int .i64 0, .int .i64 0, .int .i64 0, .int .i64 0, .bool false, .slice none 0 0] 31)) := bl_alloc (Below.refl _ _) _
    have hrd1 := hrd.below g0
    have cR := rwrite_any _ xs _ hrd1 hb (by omega)
    obtain ⟨hok, hfew⟩ := rwrite_ok xs hb
    obtain ⟨hsim, hal⟩ := pwrite_sim xs
    have hne : (Value.slice qb xs.length nb).ownBlock ≠ some w0.heap.size := fun e => by have := hrd.in _ e; omega
    have cP : ∀ W, Below (w0.alloc (.cells #[.slice none 0 0, .int .i64 0, .int .u8 0, .int .u8 0, .int .i64 0, .int .i32 0, .string ⟨#[]⟩, .int .i64 0, .int .i64 0, .int .i64 0, .int .i64 0, .int .i64 0, .int .i64 0, .int .i64 0, .int .i64 0, .int .i64 0, .int .i64 0, .int .i64 0, .int .i64 0, .int .i64 0, .int .i64 0, .int .i64 0, .int .i64 0, .int .i64 0, .bool false, .slice none 0 0] 31)).heap.size (w0.alloc (.cells #[.slice none 0 0, .int .i64 0, .int .u8 0, .int .u8 0, .int .i64 0, .int .i32 0, .string ⟨#[]⟩, .int .i64 0, .int .i64 0, .int .i64 0, .int .i64 0, .int .i64 0, .int .i64 0, .int .i64 0, .int .i64 0, .int .i64 0, .int .i64 0, .int .i64 0, .int .i64 0, .int .i64 0, .int .i64 0, .int .i64 0, .int .i64 0, .int .i64 0, .bool false, .slice none 0 0] 31)) W → Calls Try.prog 11 #[.pointer (some ⟨w0.heap.size, 0, none⟩), .slice qb xs.length nb] W (Stepd w0.heap.size (fun _ => False) W (psWrite ps0 xs)) := fun W hW => pwrite_any w0.heap.size _ ps0 _ xs W (hp0.past hW) (fun _ h => h.elim) (hrd1.below hW) hne hb (by omega)
    have hs0 : (w0.alloc (.cells #[.slice none 0 0, .int .i64 0, .int .u8 0, .int .u8 0, .int .i64 0, .int .i32 0, .string ⟨#[]⟩, .int .i64 0, .int .i64 0, .int .i64 0, .int .i64 0, .int .i64 0, .int .i64 0, .int .i64 0, .int .i64 0, .int .i64 0, .int .i64 0, .int .i64 0, .int .i64 0, .int .i64 0, .int .i64 0, .int .i64 0, .int .i64 0, .int .i64 0, .bool false, .slice none 0 0] 31)).heap.size = w0.heap.size + 1 := by simp
    generalize psWrite ps0 xs = P1 at *
    generalize rsWrite rs0 xs = R1 at *
    have hD0 : w0.heap.size < (w0.alloc (.cells #[.slice none 0 0, .int .i64 0, .int .u8 0, .int .u8 0, .int .i64 0, .int .i32 0, .string ⟨#[]⟩, .int .i64 0, .int .i64 0, .int .i64 0, .int .i64 0, .int .i64 0, .int .i64 0, .int .i64 0, .int .i64 0, .int .i64 0, .int .i64 0, .int .i64 0, .int .i64 0, .int .i64 0, .int .i64 0, .int .i64 0, .int .i64 0, .int .i64 0, .bool false, .slice none 0 0] 31)).heap.size := by omega
    generalize hW0 : w0.alloc (.cells #[.slice none 0 0, .int .i64 0, .int .u8 0, .int .u8 0, .int .i64 0, .int .i32 0, .string ⟨#[]⟩, .int .i64 0, .int .i64 0, .int .i64 0, .int .i64 0, .int .i64 0, .int .i64 0, .int .i64 0, .int .i64 0, .int .i64 0, .int .i64 0, .int .i64 0, .int .i64 0, .int .i64 0, .int .i64 0, .int .i64 0, .int .i64 0, .int .i64 0, .bool false, .slice none 0 0] 31) = W0 at *
    clear hp0
    go_upto_region 5 with fail
    try rw [hW0]
    clear hW0
    go_wp2_with (first | (go_at_call 10; (with_reducible refine cR.mono ?_); rintro e w1 ⟨q, c, v1, ys, rfl, k1, k2, hb1⟩; have hs1 := hb1.size; have xB := Box.new w1 #[.string (opS R1.1.op), .string (strOfNums R1.1.sq), .slice q R1.1.d.length c] 35 rfl; have hW1 : Below W0.heap.size W0 (w1.alloc (.cells #[.string (opS R1.1.op), .string (strOfNums R1.1.sq), .slice q R1.1.d.length c] 35)) := bl_alloc hb1 _) | (go_at_call 11; (with_reducible refine (cP _ hW1).mono ?_); rintro e w3 ⟨v3, zs, rfl, m1, m2, m3, m4⟩; have hs3 := m3.size; have hzl := len_fst m1; have hA : RdA w3 v3 R1.2 := (m1.trans hal) ▸ m2.rd; have hB : RdA w3 v1 R1.2 := k1 ▸ ((k2.kept (bl_alloc (Below.refl _ _) _)).bar m3 hD0).rd) | (go_at_call 12; (with_reducible refine (rsame_any _ _ R1.2 w3 hA hB).mono ?_); rintro e w4 ⟨rfl, hb4⟩; have hs4 := hb4.size; have hp5 := m4.past hb4; have xB5 := Box.past hb4 (xB.bar m3 (by omega)); have yc := xB5.cell; have yl := xB5.lt) | (go_at_call 14; (with_reducible refine (looks_any w0.heap.size _ P1.1 R1.1 q c _ w4 hp5 hsim hok (by omega)).mono ?_); rintro e w6 ⟨rfl, hb6⟩) | (go_at_call 9; (with_reducible refine (known_any _).mono ?_); rintro e w7 ⟨rfl, hb7⟩))
    go_ret
    exact ⟨rfl, bl_trans hf0 (bl_trans (bl_trans (bl_trans (Bar.to_below (bl_trans g0 hW1) m3 (Nat.le_refl _)) hb4) hb6) hb7)⟩
open Go.ChangeMaps

set_option maxRecDepth 100000 in
theorem parserSequences_lifted (os : Os) (started : os.Started) (H : Type) (enc : TypeId × Value → H) :
    ReturnsInHanded {} Try.checked os 4 .any (Rows.parserSequencesSpec.pre6 enc Try.prog Try.f4 Rows.parserSequencesRow.domain false) (Rows.parserSequencesSpec.post enc Try.prog Try.f4 false true false false) := by
  refine returnsInHanded_of_change (C := Try.checked) Try.own started (by kernel_rfl) Try.func4
    (ChangeSpec.witness6 (enc := enc) (C := Try.checked) false ⟨#[], #[.int .i32 0, .string ⟨#[]⟩, .int .i32 0], []⟩ 8 (by kernel_rfl) (by kernel_rfl) (by kernel_rfl) (by kernel_rfl)) ?_
  intro W base args ds gs before hval0 hW hcnd _
  have hval : ∀ (j : Nat) t v, Try.f4.params[j]? = some t → args[j]? = some v → Value.okWide Try.prog W .any base t v := hval0
  have hW' := hW
  obtain ⟨p, q, hA0, hV, rfl, hfz, hnd⟩ := hW
  have hA : DataW.TrodAll enc Try.prog W 0 (fun _ => true) true Try.f4.params.toList args.toList ds p := hA0
  rw [Try.params4] at hA hval
  obtain ⟨v0, v1, v2, d0, d1, d2, p0, p1, p2, rfl, rfl, rfl, h0, h1, h2⟩ := trodAll_three hA
  obtain ⟨rfl, rfl⟩ := trodVars_none hV
  obtain ⟨o, rfl, _⟩ := open_num Try.underlying21 (hval 0 21 v0 rfl rfl) h0
  obtain ⟨s, rfl, _⟩ := open_string Try.underlying9 (hval 1 9 v1 rfl rfl) h1
  obtain ⟨r, rfl, _⟩ := open_num Try.underlying21 (hval 2 21 v2 rfl rfl) h2
  clear hA0 hval0
  refine (parserSequences_any o r s W).mono fun e W' ⟨he, hw⟩ => ?_
  exact ⟨_, he, post_law Try.laidOut rfl hW' (by kernel_rfl) rfl Try.underlying4 rfl hw⟩

theorem parserSequences_holds : Rows.ParserSequencesSaid :=
  OpenClaim.holds_of_wide 4 Try.f4 rfl rfl rfl rfl rfl rfl rfl ⟨rfl, rfl, rfl, rfl, rfl⟩ rfl rfl rfl rfl rfl (by kernel_rfl) Try.func4 (by kernel_rfl)
    (of_decide_eq_true (by kernel_rfl)) (by unfold Func.isWrapper; rw [if_neg (of_decide_eq_false (by kernel_rfl))]; exact ⟨rfl, rfl⟩)
    (fun os started H enc _ => parserSequences_lifted os started H enc)

end Go.Proofs.Ytpkkfcfkhiaggaa
