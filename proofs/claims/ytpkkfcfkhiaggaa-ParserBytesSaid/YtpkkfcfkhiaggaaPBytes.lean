/- parser: ParserBytes returns true for every input. No condition. Printed by mk_pb.py. -/
import Derived.Test.YtpkkfcfkhiaggaaXM
import Derived.Test.YtpkkfcfkhiaggaaOpen
import Derived.Test.YtpkkfcfkhiaggaaLift
import Derived.ChangeSlices
import Derived.Deep.CutBlock
import Derived.Deep.DeepCutAuto
import Derived.Outline
set_option linter.unusedSimpArgs false
set_option linter.unusedVariables false
set_option linter.unnecessarySimpa false
namespace Go.Proofs.Ytpkkfcfkhiaggaa
open Go.ChangeShapes Go.WideShapes Go.ChangeAt Go.RowKit

set_option maxRecDepth 100000 in
set_option maxHeartbeats 4000000 in
theorem parserBytes_any (v : Value) (xs : List Int) (w : World) (h : Rd w .u8 v xs) (hb : ∀ x ∈ xs, Byte x) : Calls Try.prog 3 #[v] w fun e w' => e = .returned (.bool true) ∧ Below w.heap.size w w' := by
  have h0 := h
  obtain ⟨p, cap, rfl, l1, m1, c1⟩ := h
  clear c1
  unfold maxLen at m1
  by_cases hl : 300 < xs.length
  · go_enter Try.func3, Try.ntmps3
    go_wp2_with (go_at_call 9; (with_reducible refine (known_any _).mono ?_); rintro e w1 ⟨rfl, hb1⟩)
    go_ret
    exact ⟨rfl, hb1⟩
  · have hp0 := PV.new w
    have g0 : Below w.heap.size w (w.alloc (.cells #[.slice none 0 0, .int .i64 0, .int .u8 0, .int .u8 0, .int .i64 0, .int .i32 0, .string ⟨#[]⟩, .int .i64 0, .int .i64 0, .int .i64 0, .int .i64 0, .int .i64 0, .int .i64 0, .int .i64 0, .int .i64 0, .int .i64 0, .int .i64 0, .int .i64 0, .int .i64 0, .int .i64 0, .int .i64 0, .int .i64 0, .int .i64 0, .int .i64 0, .bool false, .slice none 0 0] 31)) := bl_alloc (Below.refl _ _) _
    have cR := rwrite_any _ xs _ (h0.below g0) hb (by omega)
    obtain ⟨hok, hfew⟩ := rwrite_ok xs hb
    obtain ⟨hsim, hal⟩ := pwrite_sim xs
    have cP : ∀ W vo, Below (w.alloc (.cells #[.slice none 0 0, .int .i64 0, .int .u8 0, .int .u8 0, .int .i64 0, .int .i32 0, .string ⟨#[]⟩, .int .i64 0, .int .i64 0, .int .i64 0, .int .i64 0, .int .i64 0, .int .i64 0, .int .i64 0, .int .i64 0, .int .i64 0, .int .i64 0, .int .i64 0, .int .i64 0, .int .i64 0, .int .i64 0, .int .i64 0, .int .i64 0, .int .i64 0, .bool false, .slice none 0 0] 31)).heap.size (w.alloc (.cells #[.slice none 0 0, .int .i64 0, .int .u8 0, .int .u8 0, .int .i64 0, .int .i32 0, .string ⟨#[]⟩, .int .i64 0, .int .i64 0, .int .i64 0, .int .i64 0, .int .i64 0, .int .i64 0, .int .i64 0, .int .i64 0, .int .i64 0, .int .i64 0, .int .i64 0, .int .i64 0, .int .i64 0, .int .i64 0, .int .i64 0, .int .i64 0, .int .i64 0, .bool false, .slice none 0 0] 31)) W → Rd W .u8 vo xs → vo.ownBlock ≠ some w.heap.size → Calls Try.prog 11 #[.pointer (some ⟨w.heap.size, 0, none⟩), vo] W (Stepd w.heap.size (fun _ => False) W (psWrite ps0 xs)) := fun W vo hW hr ho => pwrite_any w.heap.size _ ps0 vo xs W (hp0.past hW) (fun _ h => h.elim) hr ho hb (by omega)
    have hs0 : (w.alloc (.cells #[.slice none 0 0, .int .i64 0, .int .u8 0, .int .u8 0, .int .i64 0, .int .i32 0, .string ⟨#[]⟩, .int .i64 0, .int .i64 0, .int .i64 0, .int .i64 0, .int .i64 0, .int .i64 0, .int .i64 0, .int .i64 0, .int .i64 0, .int .i64 0, .int .i64 0, .int .i64 0, .int .i64 0, .int .i64 0, .int .i64 0, .int .i64 0, .int .i64 0, .bool false, .slice none 0 0] 31)).heap.size = w.heap.size + 1 := by simp
    generalize psWrite ps0 xs = P1 at *
    generalize rsWrite rs0 xs = R1 at *
    generalize hW0 : w.alloc (.cells #[.slice none 0 0, .int .i64 0, .int .u8 0, .int .u8 0, .int .i64 0, .int .i32 0, .string ⟨#[]⟩, .int .i64 0, .int .i64 0, .int .i64 0, .int .i64 0, .int .i64 0, .int .i64 0, .int .i64 0, .int .i64 0, .int .i64 0, .int .i64 0, .int .i64 0, .int .i64 0, .int .i64 0, .int .i64 0, .int .i64 0, .int .i64 0, .int .i64 0, .bool false, .slice none 0 0] 31) = W0 at *
    clear hp0
    go_enter Try.func3, Try.ntmps3
    go_upto_region 4 with fail
    try rw [hW0]
    clear hW0
    have g0s := g0.size
    have hD0 : w.heap.size < W0.heap.size := by omega
    go_wp2_with (first | (go_at_call 10; (with_reducible refine cR.mono ?_); rintro e w1 ⟨q, c, v1, ys, rfl, k1, k2, hb1⟩; have hs1 := hb1.size; have xB := Box.new w1 #[.string (opS R1.1.op), .string (strOfNums R1.1.sq), .slice q R1.1.d.length c] 35 rfl) | (at_builtin; refine wpList_app rfl _ _ 22 5 .u8 1 rfl Try.underlying22 el8 (w1.heap.size + 1) _ _ [] xs (Own.nil _ _ _ _) ((h0.below g0).below (bl_alloc hb1 _)) rfl rfl (by simp [maxLen]; omega) (by simp; omega) (by simp) ?_; intro vo w2 hown hg2 _; rw [List.nil_append] at hown; have hg2 : Below (w1.alloc (.cells #[.string (opS R1.1.op), .string (strOfNums R1.1.sq), .slice q R1.1.d.length c] 35)).heap.size (w1.alloc (.cells #[.string (opS R1.1.op), .string (strOfNums R1.1.sq), .slice q R1.1.d.length c] 35)) w2 := hg2.mono (by simp); have hs2 : w1.heap.size + 1 ≤ w2.heap.size := (by have := hg2.size; simpa using this); have hg02 := bl_trans (bl_alloc hb1 _) hg2; have hod : vo.ownBlock ≠ some w.heap.size := fun e => (by have := (hown.block _ e).1; omega)) | (go_at_call 11; (with_reducible refine (cP w2 vo hg02 hown.rd hod).mono ?_); rintro e w3 ⟨v3, zs, rfl, m1, m2, m3, m4⟩; have hs3 := m3.size; have hzl := len_fst m1; have hA : RdA w3 v3 R1.2 := (m1.trans hal) ▸ m2.rd; have hB : RdA w3 v1 R1.2 := k1 ▸ ((k2.kept (bl_trans (bl_alloc (Below.refl _ _) _) hg2)).bar m3 hD0).rd) | (go_at_call 12; (with_reducible refine (rsame_any _ _ R1.2 w3 hA hB).mono ?_); rintro e w4 ⟨rfl, hb4⟩; have hs4 := hb4.size; have kc1 := run_str (P := Try.prog) 22 9 5 Try.underlying22 Try.underlying5 Try.underlying9 ((rd_bar hown.rd hod m3).below hb4); have kc2 := run_str (P := Try.prog) 22 9 5 Try.underlying22 Try.underlying5 Try.underlying9 ((rd_bar ((h0.below g0).below hg02) (fun e => (by have := h0.in _ e; omega)) m3).below hb4)) | (go_at_call 13; (with_reducible refine (stain_any v3 zs w2.heap.size w4 (m2.kept hb4) (by rw [hzl, hal]; omega)).mono ?_); rintro e w5 ⟨rfl, ho5⟩; have hp5 := (m4.past hb4).outx ho5 (fun g y => ⟨fun e => (by have := (m2.plt g y).1; omega), .inr (.inl y)⟩); have xB5 := ho5.box (Box.past hb4 ((Box.past hg2 xB).bar m3 (by omega))) (fun y => (by have := (m2.plt _ y).1; omega)); have yc := xB5.cell; have yl := xB5.lt) | (go_at_call 14; (with_reducible refine (looks_any w.heap.size _ P1.1 R1.1 q c _ w5 hp5 hsim hok (by omega)).mono ?_); rintro e w6 ⟨rfl, hb6⟩) | (go_at_call 9; (with_reducible refine (known_any _).mono ?_); rintro e w7 ⟨rfl, hb7⟩))
    go_ret
    exact ⟨rfl, bl_trans (bl_trans (OutX.after (bl_trans (Bar.to_below (bl_trans g0 hg02) m3 (Nat.le_refl _)) hb4) ho5 (fun g y => by have := (m2.plt g y).1; omega)) hb6) hb7⟩

set_option maxRecDepth 100000 in
theorem parserBytes_lifted (os : Os) (started : os.Started) (H : Type) (enc : TypeId × Value → H) :
    ReturnsInHanded {} Try.checked os 3 .any (Rows.parserBytesSpec.pre6 enc Try.prog Try.f3 Rows.parserBytesRow.domain false) (Rows.parserBytesSpec.post enc Try.prog Try.f3 false true false false) := by
  refine returnsInHanded_of_change (C := Try.checked) Try.own started (by kernel_rfl) Try.func3
    (ChangeSpec.witness6 (enc := enc) (C := Try.checked) false ⟨#[], #[.slice none 0 0], []⟩ 8 (by kernel_rfl) (by kernel_rfl) (by kernel_rfl) (by kernel_rfl)) ?_
  intro W base args ds gs before hval0 hW hcnd _
  have hval : ∀ (j : Nat) t v, Try.f3.params[j]? = some t → args[j]? = some v → Value.okWide Try.prog W .any base t v := hval0
  have hW' := hW
  obtain ⟨p, q, hA0, hV, rfl, hfz, hnd⟩ := hW
  have hA : DataW.TrodAll enc Try.prog W 0 (fun _ => true) true Try.f3.params.toList args.toList ds p := hA0
  rw [Try.params3] at hA hval
  obtain ⟨v0, d0, rfl, rfl, h0⟩ := trodAll_one hA
  obtain ⟨rfl, rfl⟩ := trodVars_none hV
  obtain ⟨xs0, hx0, hw0⟩ := open_rd (k := .u8) Try.underlying22 Try.underlying5 (by kernel_rfl) (hval 0 _ v0 rfl rfl) h0
  clear hA0 hval0
  refine (parserBytes_any v0 xs0 W hx0 (fun n hn => wf_byte (hw0 n hn))).mono fun e W' ⟨he, hw⟩ => ?_
  exact ⟨_, he, post_law Try.laidOut rfl hW' (by kernel_rfl) rfl Try.underlying4 rfl hw⟩

theorem parserBytes_holds : Rows.ParserBytesSaid :=
  OpenClaim.holds_of_wide 3 Try.f3 rfl rfl rfl rfl rfl rfl rfl ⟨rfl, rfl, rfl, rfl, rfl⟩ rfl rfl rfl rfl rfl (by kernel_rfl) Try.func3 (by kernel_rfl)
    (of_decide_eq_true (by kernel_rfl)) (by unfold Func.isWrapper; rw [if_neg (of_decide_eq_false (by kernel_rfl))]; exact ⟨rfl, rfl⟩)
    (fun os started H enc _ => parserBytes_lifted os started H enc)

end Go.Proofs.Ytpkkfcfkhiaggaa
