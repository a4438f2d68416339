/- params: ParamsBuilds returns true for every input. No condition. -/
import Derived.Test.YtdbjebjmhjljbaaDoorU
import Derived.Test.YtdbjebjmhjljbaaDoorV
import Derived.Test.YtdbjebjmhjljbaaDoorPTexts
import Derived.Test.YtdbjebjmhjljbaaDoorPLongs
import Derived.Test.YtdbjebjmhjljbaaDoorCards
import Derived.Test.YtdbjebjmhjljbaaDoorTie
import Derived.SevenTiedAt
import Derived.Outline
set_option linter.unusedSimpArgs false
set_option linter.unusedVariables false
set_option linter.unnecessarySimpa false
namespace Go.Proofs.YtdbjebjmhjljbaaDoor
open Go.ChangeShapes Go.WideShapes Go.ChangeAt Go.RowKit

theorem BldV.bar {w w' : World} {C D : Nat} {t : TypeId} {pre rest : List Value} {ws : List Int} {ov : Bool} (h : BldV w C t pre rest ws ov) (hb : Bar D w w') (hne : C ≠ D) : BldV w' C t pre rest ws ov := by
  obtain ⟨ls, h1, h2, h3, h4⟩ := h
  exact ⟨ls, h1, h2, h3, (hb.block C hne h4.lt).trans h4⟩
theorem BldV.lt {w : World} {D : Nat} {t : TypeId} {pre rest : List Value} {ws : List Int} {ov : Bool} (h : BldV w D t pre rest ws ov) : D < w.heap.size := by
  obtain ⟨ls, h1, h2, h3, h4⟩ := h; exact h4.lt
/-- A builder that says what a string of fine bytes says. -/
structure Bld (w : World) (D : Nat) (s : ByteArray) : Prop where
  v : BldV w D 38 [] [] (bldQ (bytesOf s)).1 (bldQ (bytesOf s)).2
  f : ∀ c ∈ bytesOf s, fineR c = true
theorem Bld.below {w w' : World} {D : Nat} {s : ByteArray} (h : Bld w D s) (hb : Below w.heap.size w w') : Bld w' D s := ⟨h.v.below hb, h.f⟩
theorem Bld.lt {w : World} {D : Nat} {s : ByteArray} (h : Bld w D s) : D < w.heap.size := h.v.lt
theorem Bld.empty {w : World} {D : Nat} (h : BldV w D 38 [] [] [] false) : Bld w D ⟨#[]⟩ := ⟨h, fun c hc => by simp [bytesOf] at hc⟩
theorem Bld.parse {w : World} {D : Nat} {s : ByteArray} (h : Bld w D s) : fineS s = true ∧ (bldQ (bytesOf s)).1 = parseL s := by
  have hf := (fineS_iff s).2 h.f
  exact ⟨hf, (if_pos hf).symm⟩
theorem bld_add (D : Nat) (s : ByteArray) (r : Int) (w : World) (h : Bld w D s) (hr : fineR r = true) :
    Calls Tryd.prog 20 #[.pointer (some ⟨D, 0, none⟩), .int .i32 r] w fun e w' => e = .returned (.bool true) ∧ Bar D w w' ∧ Bld w' D (s ++ Utf8.encode r) :=
  (add_any D 38 [] [] _ _ r w h.v hr (bldQ_ok _ h.f)).mono fun e w' ⟨he, hb, hv⟩ => by
    have hr2 : 48 ≤ r ∧ r ≤ 59 := by simp [fineR] at hr; omega
    have e1 : bytesOf (s ++ Utf8.encode r) = bytesOf s ++ [r] := by rw [bytesOf_app, enc_fine r hr2]
    refine ⟨he, hb, ⟨?_, ?_⟩⟩
    · rw [e1, bldQ_snoc]; exact hv
    · rw [e1]; intro c hc
      rcases List.mem_append.1 hc with h' | h'
      · exact h.f c h'
      · have : c = r := by simpa using h'
        rw [this]; exact hr
theorem bld_reset (D : Nat) (s : ByteArray) (w : World) (h : Bld w D s) :
    Calls Tryd.prog 25 #[.pointer (some ⟨D, 0, none⟩)] w fun e w' => e = .returned (.tuple #[]) ∧ Bar D w w' ∧ Bld w' D ⟨#[]⟩ :=
  (reset_c D 38 _ _ w h.v).mono fun e w' ⟨he, hb, hv⟩ => ⟨he, hb, Bld.empty hv⟩
theorem bld_copy (D : Nat) (s : ByteArray) (w : World) (h : Bld w D s) :
    Calls Tryd.prog 24 #[.pointer (some ⟨D, 0, none⟩)] w fun e w' => e = .returned (.pointer (some ⟨w.heap.size, 0, none⟩)) ∧ Bld w' w.heap.size s ∧ Below w.heap.size w w' :=
  (copyb_any D _ _ w h.v).mono fun e w' ⟨he, hv, hb⟩ => ⟨he, ⟨hv, h.f⟩, hb⟩
theorem bld_list (D : Nat) (s : ByteArray) (w : World) (h : Bld w D s) :
    Calls Tryd.prog 27 #[.pointer (some ⟨D, 0, none⟩)] w fun e w' => ∃ v, e = .returned v ∧ Own w' w.heap.size 3 .i64 v (parseL s) ∧ Below w.heap.size w w' := by
  have := list_any D 38 [] [] _ _ w h.v
  rw [h.parse.2] at this
  exact this
theorem bld_parse (D : Nat) (s : ByteArray) (w w0 : World) (h : Bld w0 D s) (hs : s.size ≤ 1000000) :
    Calls Tryd.prog 18 #[.string s] w fun e w' => ∃ v, e = .returned (.tuple #[v, .bool true]) ∧ Own w' w.heap.size 3 .i64 v (parseL s) ∧ Below w.heap.size w w' := by
  have := rparse_u s w hs
  rwa [h.parse.1] at this
theorem bld_len (D : Nat) (s : ByteArray) (w : World) (h : Bld w D s) : (parseL s).length ≤ 16 := by
  obtain ⟨⟨ls, _, h2, _⟩, _⟩ := id h
  rw [← h.parse.2]; exact h2
theorem bld_bd (D : Nat) (s : ByteArray) (w : World) (h : Bld w D s) : ∀ x ∈ parseL s, -1 ≤ x ∧ x ≤ 9999 := by rw [← h.parse.2]; exact bldQ_ok _ h.f

set_option maxHeartbeats 8000000 in
set_option maxRecDepth 100000 in
theorem paramsBuilds_any (v : Value) (xs : List Int) (m : Int) (w : World) (h : Rd w .i32 v xs) (hx : ∀ x ∈ xs, (Lit.int .i32 x).wf = true) (ht : Tab w) : Calls Tryd.prog 7 #[v, .int .i64 m] w fun e w' => e = .returned (.bool true) ∧ Below w.heap.size w w' := by
  have h0 := h
  obtain ⟨p, cap, rfl, l1, m1, c1⟩ := h0
  unfold maxLen at m1
  have C1 := Lib.hid c1
  have HX := Lib.hid hx
  clear c1 hx
  by_cases hl : 100 < xs.length
  · go_enter Tryd.func7, Tryd.ntmps7
    go_wp2_with (go_at_call 9; (with_reducible refine (known_any _ ht).mono ?_); rintro e wk ⟨rfl, hbk⟩)
    go_ret
    exact ⟨rfl, hbk⟩
  go_enter Tryd.func7, Tryd.ntmps7
  go_wp2_with fail
  go_loopw [5, 6, 24] (fun b s i wr => ∃ (k D : Nat) (sb : ByteArray), k ≤ xs.length ∧ i = .int .i64 k ∧ b = .pointer (some ⟨D, 0, none⟩) ∧ s = .string sb ∧ sb.size ≤ k ∧ Bld wr D sb ∧ w.heap.size ≤ D ∧ Below w.heap.size w wr) (fun _ _ i _ => xs.length - (intOf i).toNat)
  case atStart => exact ⟨0, w.heap.size, ⟨#[]⟩, Nat.zero_le _, rfl, rfl, rfl, Nat.le_refl _, Bld.empty (BldV.zero w _ _ rfl), Nat.le_refl _, (Below.refl _ _).alloc (Nat.le_refl _) _⟩
  case round =>
    obtain ⟨k, D, sb, hk, rfl, rfl, rfl, hsk, hB0, hDw, hl0⟩ := hrel
    by_cases hlt : k < xs.length
    · obtain ⟨b1, o1, rfl, q1, d1⟩ := Rd.at C1.out l1 hlt
      have d3 : wr.cell? ⟨b1, o1 + k, none⟩ = some (.int .i32 xs[k]) := by rw [hl0.cell (p := ⟨b1, _, none⟩) q1]; exact d1
      have hxk := wf_i32 (HX.out xs[k] (List.getElem_mem hlt))
      clear d1
      generalize xs[k] = r at *
      have r1 : (0 : Int) ≤ (k : Int) := by omega
      have r2 : (k : Int) < (xs.length : Int) := by omega
      have hDlt0 := hB0.lt
      have hDsz := hl0.size
      generalize wr = wo at *
      by_cases hm : (k : Int) = m
      · subst hm
        by_cases hneg : r < 0
        · skip
          go_wp2_with (first | (go_at_call 24; (with_reducible refine (bld_copy D sb _ hB0).mono ?_); rintro e wc ⟨rfl, hBc, hbc⟩; have hB1 := hB0.below hbc; have hl1 := bl_trans hl0 hbc) | (go_at_call 20; (with_reducible refine (bld_add D sb 57 _ hB1 (by decide)).mono ?_); rintro e wd ⟨rfl, hbar1, hB2⟩; have hBc2 : Bld wd wo.heap.size sb := ⟨hBc.v.bar hbar1 (by omega), hBc.f⟩; have hl2 := Bar.to_below hl1 hbar1 hDw) | (go_at_call 20; (with_reducible refine (bld_add D _ 59 _ hB2 (by decide)).mono ?_); rintro e wf ⟨rfl, hbar2, _⟩; have hBX : Bld wf wo.heap.size sb := ⟨hBc2.v.bar hbar2 (by omega), hBc2.f⟩; have hlX := Bar.to_below hl2 hbar2 hDw) | (go_at_call 25; (with_reducible refine (bld_reset wo.heap.size sb _ hBX).mono ?_); rintro e wy ⟨rfl, hbar, hB⟩; have hl' := Bar.to_below hlX hbar (by omega)) | (go_at_call 18; (with_reducible refine (bld_parse wo.heap.size ⟨#[]⟩ _ _ hB (by first | omega | decide)).mono ?_); rintro e wp ⟨u, rfl, hu, hbp⟩; obtain ⟨pu, nu, cu, hu1⟩ := hu.rd.shape; subst hu1; have hup := hu.rd; clear hu; have hBp := hB.below hbp; have hlp := bl_trans hl' hbp) | (go_at_call 27; (with_reducible refine (bld_list wo.heap.size ⟨#[]⟩ _ hBp).mono ?_); rintro e wq ⟨g, rfl, hgo, hbq⟩; obtain ⟨pg, ng, cg, hg1⟩ := hgo.rd.shape; subst hg1; have hBq := hBp.below hbq; have hlq := bl_trans hlp hbq; have huq := hup.below hbq; obtain ⟨hg1, hg2, hg3⟩ := hgo.len; subst hg1; have hpq := Nat.le_trans hbp.size hbq.size; have hps := hbp.size; have hbqs := hbq.size) | (go_at_call 28; (with_reducible refine (same_true _ _ _ _ _ hgo.rd huq (Lib.hid rfl)).mono ?_); rintro e ws ⟨rfl, hbs⟩; have hBs := hBq.below hbs; have hls := bl_trans hlq hbs; have hgs := hgo.kept hbs; clear hgo huq))
          have hbd := bld_bd _ _ _ hBs
          have hBD := Lib.hid hbd
          have hl16 := bld_len _ _ _ hBs
          clear hbd
          have hsz1 := hbs.size
          have hDlt : wo.heap.size < wp.heap.size := hBp.lt
          go_loopw [70] (fun j wx => ∃ (q : Nat) (ys : List Int), q ≤ (parseL ⟨#[]⟩).length ∧ j = .int .i64 q ∧ ys.length = (parseL ⟨#[]⟩).length ∧ Hid (∀ j, q ≤ j → ys[j]? = (parseL ⟨#[]⟩)[j]?) ∧ Own wx wp.heap.size 3 .i64 (.slice pg (parseL ⟨#[]⟩).length cg) ys ∧ Below wp.heap.size ws wx) (fun j _ => (parseL ⟨#[]⟩).length - (intOf j).toNat)
          case atStart => exact ⟨0, _, Nat.zero_le _, rfl, rfl, fun _ _ => rfl, hgs, Below.refl _ _⟩
          case round =>
            obtain ⟨q, ys, hq, rfl, hyl, HY, hoy, hbx⟩ := hrel
            have hxs := hbx.size
            by_cases hql : q < (parseL ⟨#[]⟩).length
            · have hyq : ys[q]? = (parseL ⟨#[]⟩)[q]? := HY.out q (Nat.le_refl _)
              have hqy : q < ys.length := by omega
              rw [List.getElem?_eq_getElem hql, List.getElem?_eq_getElem hqy] at hyq
              have hyq2 : ys[q] = (parseL ⟨#[]⟩)[q] := Option.some.inj hyq
              have hyb := hBD.out _ (List.getElem_mem hql)
              rw [← hyq2] at hyb
              obtain ⟨gb, rfl⟩ : ∃ gb, pg = some ⟨gb, 0, none⟩ := by
                rcases hoy.shape with ⟨h1, h2⟩ | ⟨gb, cap2, h1, _, _⟩
                · rw [h2] at hqy; exact absurd hqy (by simp)
                · injection h1 with h1 _ _; exact ⟨gb, h1⟩
              obtain ⟨k1, k2, k3⟩ := hoy.cellAt (g := gb) rfl q hqy
              have hst := hoy.store (g := gb) rfl q hqy (ys[q] + 1)
              have hgB := (hoy.block gb rfl).1
              have r1 : (0 : Int) ≤ (q : Int) := by omega
              have r2 : (q : Int) < ((parseL ⟨#[]⟩).length : Int) := by omega
              have HS2 : Hid (∀ j, q + 1 ≤ j → (ys.set q (ys[q] + 1))[j]? = (parseL ⟨#[]⟩)[j]?) := fun j hj => by rw [List.getElem?_set_ne (by omega)]; exact HY.out j (by omega)
              have hbx2 : Below wp.heap.size ws (wr.setCell ⟨gb, q, none⟩ (.int .i64 (ys[q] + 1))) := Below.setCell hbx (show wp.heap.size ≤ (⟨gb, q, none⟩ : Addr).block from hgB) _
              have hyl2 : (ys.set q (ys[q] + 1)).length = (parseL ⟨#[]⟩).length := by rw [List.length_set]; exact hyl
              clear hyq hyq2 hoy
              generalize ys.set q (ys[q] + 1) = zs at *
              generalize ys[q] = y at *
              go_wp2_with fail
              go_roundw
              case rel => exact ⟨q + 1, zs, by omega, by go_num, hyl2, HS2, by first | exact hst | simpa using hst, by first | exact hbx2 | simpa using hbx2⟩
              case measure => simp [intOf]; omega
            · have hBr : Bld wr wo.heap.size ⟨#[]⟩ := by
                obtain ⟨⟨ls, h1, h2, h3, h4⟩, h5⟩ := hBs
                exact ⟨⟨ls, h1, h2, h3, (hbx.block wo.heap.size hDlt).trans h4⟩, h5⟩
              have hlr : Below w.heap.size w wr := hls.trans (hbx.mono (Nat.le_trans hl'.size hps))
              clear hoy
              go_wp2_with fail
              go_roundw
              case rel => exact ⟨k + 1, wo.heap.size, ⟨#[]⟩, by omega, by go_num, rfl, rfl, Nat.zero_le _, hBr, by omega, hlr⟩
              case measure => simp [intOf]; omega
        · by_cases hf : fineR r = true
          · skip
            have cF := fun w => fine_any r w
            rw [hf] at cF
            have hes : (Utf8.encode r).size = 1 := by rw [← bytesOf_len, enc_fine r (by simp [fineR] at hf; omega)]; rfl
            have hss : (sb ++ Utf8.encode r).size = sb.size + 1 := by rw [ByteArray.size_append, hes]
            go_wp2_with (first | (go_at_call 24; (with_reducible refine (bld_copy D sb _ hB0).mono ?_); rintro e wc ⟨rfl, hBc, hbc⟩; have hB1 := hB0.below hbc; have hl1 := bl_trans hl0 hbc) | (go_at_call 20; (with_reducible refine (bld_add D sb 57 _ hB1 (by decide)).mono ?_); rintro e wd ⟨rfl, hbar1, hB2⟩; have hBc2 : Bld wd wo.heap.size sb := ⟨hBc.v.bar hbar1 (by omega), hBc.f⟩; have hl2 := Bar.to_below hl1 hbar1 hDw) | (go_at_call 20; (with_reducible refine (bld_add D _ 59 _ hB2 (by decide)).mono ?_); rintro e wf ⟨rfl, hbar2, _⟩; have hBX : Bld wf wo.heap.size sb := ⟨hBc2.v.bar hbar2 (by omega), hBc2.f⟩; have hlX := Bar.to_below hl2 hbar2 hDw) | (go_at_call 20; (with_reducible refine (bld_add wo.heap.size sb r _ hBX hf).mono ?_); rintro e wy ⟨rfl, hbar, hB⟩; have hl' := Bar.to_below hlX hbar (by omega)) | (go_at_call 26; (with_reducible refine (cF _).mono ?_); rintro e w' ⟨rfl, rfl⟩) | (go_at_call 18; (with_reducible refine (bld_parse wo.heap.size (sb ++ Utf8.encode r) _ _ hB (by first | omega | decide)).mono ?_); rintro e wp ⟨u, rfl, hu, hbp⟩; obtain ⟨pu, nu, cu, hu1⟩ := hu.rd.shape; subst hu1; have hup := hu.rd; clear hu; have hBp := hB.below hbp; have hlp := bl_trans hl' hbp) | (go_at_call 27; (with_reducible refine (bld_list wo.heap.size (sb ++ Utf8.encode r) _ hBp).mono ?_); rintro e wq ⟨g, rfl, hgo, hbq⟩; obtain ⟨pg, ng, cg, hg1⟩ := hgo.rd.shape; subst hg1; have hBq := hBp.below hbq; have hlq := bl_trans hlp hbq; have huq := hup.below hbq; obtain ⟨hg1, hg2, hg3⟩ := hgo.len; subst hg1; have hpq := Nat.le_trans hbp.size hbq.size; have hps := hbp.size; have hbqs := hbq.size) | (go_at_call 28; (with_reducible refine (same_true _ _ _ _ _ hgo.rd huq (Lib.hid rfl)).mono ?_); rintro e ws ⟨rfl, hbs⟩; have hBs := hBq.below hbs; have hls := bl_trans hlq hbs; have hgs := hgo.kept hbs; clear hgo huq))
            have hbd := bld_bd _ _ _ hBs
            have hBD := Lib.hid hbd
            have hl16 := bld_len _ _ _ hBs
            clear hbd
            have hsz1 := hbs.size
            have hDlt : wo.heap.size < wp.heap.size := hBp.lt
            go_loopw [70] (fun j wx => ∃ (q : Nat) (ys : List Int), q ≤ (parseL (sb ++ Utf8.encode r)).length ∧ j = .int .i64 q ∧ ys.length = (parseL (sb ++ Utf8.encode r)).length ∧ Hid (∀ j, q ≤ j → ys[j]? = (parseL (sb ++ Utf8.encode r))[j]?) ∧ Own wx wp.heap.size 3 .i64 (.slice pg (parseL (sb ++ Utf8.encode r)).length cg) ys ∧ Below wp.heap.size ws wx) (fun j _ => (parseL (sb ++ Utf8.encode r)).length - (intOf j).toNat)
            case atStart => exact ⟨0, _, Nat.zero_le _, rfl, rfl, fun _ _ => rfl, hgs, Below.refl _ _⟩
            case round =>
              obtain ⟨q, ys, hq, rfl, hyl, HY, hoy, hbx⟩ := hrel
              have hxs := hbx.size
              by_cases hql : q < (parseL (sb ++ Utf8.encode r)).length
              · have hyq : ys[q]? = (parseL (sb ++ Utf8.encode r))[q]? := HY.out q (Nat.le_refl _)
                have hqy : q < ys.length := by omega
                rw [List.getElem?_eq_getElem hql, List.getElem?_eq_getElem hqy] at hyq
                have hyq2 : ys[q] = (parseL (sb ++ Utf8.encode r))[q] := Option.some.inj hyq
                have hyb := hBD.out _ (List.getElem_mem hql)
                rw [← hyq2] at hyb
                obtain ⟨gb, rfl⟩ : ∃ gb, pg = some ⟨gb, 0, none⟩ := by
                  rcases hoy.shape with ⟨h1, h2⟩ | ⟨gb, cap2, h1, _, _⟩
                  · rw [h2] at hqy; exact absurd hqy (by simp)
                  · injection h1 with h1 _ _; exact ⟨gb, h1⟩
                obtain ⟨k1, k2, k3⟩ := hoy.cellAt (g := gb) rfl q hqy
                have hst := hoy.store (g := gb) rfl q hqy (ys[q] + 1)
                have hgB := (hoy.block gb rfl).1
                have r1 : (0 : Int) ≤ (q : Int) := by omega
                have r2 : (q : Int) < ((parseL (sb ++ Utf8.encode r)).length : Int) := by omega
                have HS2 : Hid (∀ j, q + 1 ≤ j → (ys.set q (ys[q] + 1))[j]? = (parseL (sb ++ Utf8.encode r))[j]?) := fun j hj => by rw [List.getElem?_set_ne (by omega)]; exact HY.out j (by omega)
                have hbx2 : Below wp.heap.size ws (wr.setCell ⟨gb, q, none⟩ (.int .i64 (ys[q] + 1))) := Below.setCell hbx (show wp.heap.size ≤ (⟨gb, q, none⟩ : Addr).block from hgB) _
                have hyl2 : (ys.set q (ys[q] + 1)).length = (parseL (sb ++ Utf8.encode r)).length := by rw [List.length_set]; exact hyl
                clear hyq hyq2 hoy
                generalize ys.set q (ys[q] + 1) = zs at *
                generalize ys[q] = y at *
                go_wp2_with fail
                go_roundw
                case rel => exact ⟨q + 1, zs, by omega, by go_num, hyl2, HS2, by first | exact hst | simpa using hst, by first | exact hbx2 | simpa using hbx2⟩
                case measure => simp [intOf]; omega
              · have hBr : Bld wr wo.heap.size (sb ++ Utf8.encode r) := by
                  obtain ⟨⟨ls, h1, h2, h3, h4⟩, h5⟩ := hBs
                  exact ⟨⟨ls, h1, h2, h3, (hbx.block wo.heap.size hDlt).trans h4⟩, h5⟩
                have hlr : Below w.heap.size w wr := hls.trans (hbx.mono (Nat.le_trans hl'.size hps))
                clear hoy
                go_wp2_with fail
                go_roundw
                case rel => exact ⟨k + 1, wo.heap.size, (sb ++ Utf8.encode r), by omega, by go_num, rfl, rfl, by omega, hBr, by omega, hlr⟩
                case measure => simp [intOf]; omega
          · have hf : fineR r = false := by simpa using hf
            have cF := fun w => fine_any r w
            rw [hf] at cF
            go_wp2_with (first | (go_at_call 24; (with_reducible refine (bld_copy D sb _ hB0).mono ?_); rintro e wc ⟨rfl, hBc, hbc⟩; have hB1 := hB0.below hbc; have hl1 := bl_trans hl0 hbc) | (go_at_call 20; (with_reducible refine (bld_add D sb 57 _ hB1 (by decide)).mono ?_); rintro e wd ⟨rfl, hbar1, hB2⟩; have hBc2 : Bld wd wo.heap.size sb := ⟨hBc.v.bar hbar1 (by omega), hBc.f⟩; have hl2 := Bar.to_below hl1 hbar1 hDw) | (go_at_call 20; (with_reducible refine (bld_add D _ 59 _ hB2 (by decide)).mono ?_); rintro e wf ⟨rfl, hbar2, _⟩; have hBX : Bld wf wo.heap.size sb := ⟨hBc2.v.bar hbar2 (by omega), hBc2.f⟩; have hlX := Bar.to_below hl2 hbar2 hDw) | (go_at_call 20; (with_reducible refine (add_no _ r _ hf hxk).mono ?_); rintro e w' ⟨rfl, rfl⟩) | (go_at_call 26; (with_reducible refine (cF _).mono ?_); rintro e w' ⟨rfl, rfl⟩) | (go_at_call 18; (with_reducible refine (bld_parse wo.heap.size sb _ _ hBX (by first | omega | decide)).mono ?_); rintro e wp ⟨u, rfl, hu, hbp⟩; obtain ⟨pu, nu, cu, hu1⟩ := hu.rd.shape; subst hu1; have hup := hu.rd; clear hu; have hBp := hBX.below hbp; have hlp := bl_trans hlX hbp) | (go_at_call 27; (with_reducible refine (bld_list wo.heap.size sb _ hBp).mono ?_); rintro e wq ⟨g, rfl, hgo, hbq⟩; obtain ⟨pg, ng, cg, hg1⟩ := hgo.rd.shape; subst hg1; have hBq := hBp.below hbq; have hlq := bl_trans hlp hbq; have huq := hup.below hbq; obtain ⟨hg1, hg2, hg3⟩ := hgo.len; subst hg1; have hpq := Nat.le_trans hbp.size hbq.size; have hps := hbp.size; have hbqs := hbq.size) | (go_at_call 28; (with_reducible refine (same_true _ _ _ _ _ hgo.rd huq (Lib.hid rfl)).mono ?_); rintro e ws ⟨rfl, hbs⟩; have hBs := hBq.below hbs; have hls := bl_trans hlq hbs; have hgs := hgo.kept hbs; clear hgo huq))
            have hbd := bld_bd _ _ _ hBs
            have hBD := Lib.hid hbd
            have hl16 := bld_len _ _ _ hBs
            clear hbd
            have hsz1 := hbs.size
            have hDlt : wo.heap.size < wp.heap.size := hBp.lt
            go_loopw [70] (fun j wx => ∃ (q : Nat) (ys : List Int), q ≤ (parseL sb).length ∧ j = .int .i64 q ∧ ys.length = (parseL sb).length ∧ Hid (∀ j, q ≤ j → ys[j]? = (parseL sb)[j]?) ∧ Own wx wp.heap.size 3 .i64 (.slice pg (parseL sb).length cg) ys ∧ Below wp.heap.size ws wx) (fun j _ => (parseL sb).length - (intOf j).toNat)
            case atStart => exact ⟨0, _, Nat.zero_le _, rfl, rfl, fun _ _ => rfl, hgs, Below.refl _ _⟩
            case round =>
              obtain ⟨q, ys, hq, rfl, hyl, HY, hoy, hbx⟩ := hrel
              have hxs := hbx.size
              by_cases hql : q < (parseL sb).length
              · have hyq : ys[q]? = (parseL sb)[q]? := HY.out q (Nat.le_refl _)
                have hqy : q < ys.length := by omega
                rw [List.getElem?_eq_getElem hql, List.getElem?_eq_getElem hqy] at hyq
                have hyq2 : ys[q] = (parseL sb)[q] := Option.some.inj hyq
                have hyb := hBD.out _ (List.getElem_mem hql)
                rw [← hyq2] at hyb
                obtain ⟨gb, rfl⟩ : ∃ gb, pg = some ⟨gb, 0, none⟩ := by
                  rcases hoy.shape with ⟨h1, h2⟩ | ⟨gb, cap2, h1, _, _⟩
                  · rw [h2] at hqy; exact absurd hqy (by simp)
                  · injection h1 with h1 _ _; exact ⟨gb, h1⟩
                obtain ⟨k1, k2, k3⟩ := hoy.cellAt (g := gb) rfl q hqy
                have hst := hoy.store (g := gb) rfl q hqy (ys[q] + 1)
                have hgB := (hoy.block gb rfl).1
                have r1 : (0 : Int) ≤ (q : Int) := by omega
                have r2 : (q : Int) < ((parseL sb).length : Int) := by omega
                have HS2 : Hid (∀ j, q + 1 ≤ j → (ys.set q (ys[q] + 1))[j]? = (parseL sb)[j]?) := fun j hj => by rw [List.getElem?_set_ne (by omega)]; exact HY.out j (by omega)
                have hbx2 : Below wp.heap.size ws (wr.setCell ⟨gb, q, none⟩ (.int .i64 (ys[q] + 1))) := Below.setCell hbx (show wp.heap.size ≤ (⟨gb, q, none⟩ : Addr).block from hgB) _
                have hyl2 : (ys.set q (ys[q] + 1)).length = (parseL sb).length := by rw [List.length_set]; exact hyl
                clear hyq hyq2 hoy
                generalize ys.set q (ys[q] + 1) = zs at *
                generalize ys[q] = y at *
                go_wp2_with fail
                go_roundw
                case rel => exact ⟨q + 1, zs, by omega, by go_num, hyl2, HS2, by first | exact hst | simpa using hst, by first | exact hbx2 | simpa using hbx2⟩
                case measure => simp [intOf]; omega
              · have hBr : Bld wr wo.heap.size sb := by
                  obtain ⟨⟨ls, h1, h2, h3, h4⟩, h5⟩ := hBs
                  exact ⟨⟨ls, h1, h2, h3, (hbx.block wo.heap.size hDlt).trans h4⟩, h5⟩
                have hlr : Below w.heap.size w wr := hls.trans (hbx.mono (Nat.le_trans hlX.size hps))
                clear hoy
                go_wp2_with fail
                go_roundw
                case rel => exact ⟨k + 1, wo.heap.size, sb, by omega, by go_num, rfl, rfl, by omega, hBr, by omega, hlr⟩
                case measure => simp [intOf]; omega
      · by_cases hneg : r < 0
        · skip
          go_wp2_with (first | (go_at_call 25; (with_reducible refine (bld_reset D sb _ hB0).mono ?_); rintro e wy ⟨rfl, hbar, hB⟩; have hl' := Bar.to_below hl0 hbar hDw) | (go_at_call 18; (with_reducible refine (bld_parse D ⟨#[]⟩ _ _ hB (by first | omega | decide)).mono ?_); rintro e wp ⟨u, rfl, hu, hbp⟩; obtain ⟨pu, nu, cu, hu1⟩ := hu.rd.shape; subst hu1; have hup := hu.rd; clear hu; have hBp := hB.below hbp; have hlp := bl_trans hl' hbp) | (go_at_call 27; (with_reducible refine (bld_list D ⟨#[]⟩ _ hBp).mono ?_); rintro e wq ⟨g, rfl, hgo, hbq⟩; obtain ⟨pg, ng, cg, hg1⟩ := hgo.rd.shape; subst hg1; have hBq := hBp.below hbq; have hlq := bl_trans hlp hbq; have huq := hup.below hbq; obtain ⟨hg1, hg2, hg3⟩ := hgo.len; subst hg1; have hpq := Nat.le_trans hbp.size hbq.size; have hps := hbp.size; have hbqs := hbq.size) | (go_at_call 28; (with_reducible refine (same_true _ _ _ _ _ hgo.rd huq (Lib.hid rfl)).mono ?_); rintro e ws ⟨rfl, hbs⟩; have hBs := hBq.below hbs; have hls := bl_trans hlq hbs; have hgs := hgo.kept hbs; clear hgo huq))
          have hbd := bld_bd _ _ _ hBs
          have hBD := Lib.hid hbd
          have hl16 := bld_len _ _ _ hBs
          clear hbd
          have hsz1 := hbs.size
          have hDlt : D < wp.heap.size := hBp.lt
          go_loopw [70] (fun j wx => ∃ (q : Nat) (ys : List Int), q ≤ (parseL ⟨#[]⟩).length ∧ j = .int .i64 q ∧ ys.length = (parseL ⟨#[]⟩).length ∧ Hid (∀ j, q ≤ j → ys[j]? = (parseL ⟨#[]⟩)[j]?) ∧ Own wx wp.heap.size 3 .i64 (.slice pg (parseL ⟨#[]⟩).length cg) ys ∧ Below wp.heap.size ws wx) (fun j _ => (parseL ⟨#[]⟩).length - (intOf j).toNat)
          case atStart => exact ⟨0, _, Nat.zero_le _, rfl, rfl, fun _ _ => rfl, hgs, Below.refl _ _⟩
          case round =>
            obtain ⟨q, ys, hq, rfl, hyl, HY, hoy, hbx⟩ := hrel
            have hxs := hbx.size
            by_cases hql : q < (parseL ⟨#[]⟩).length
            · have hyq : ys[q]? = (parseL ⟨#[]⟩)[q]? := HY.out q (Nat.le_refl _)
              have hqy : q < ys.length := by omega
              rw [List.getElem?_eq_getElem hql, List.getElem?_eq_getElem hqy] at hyq
              have hyq2 : ys[q] = (parseL ⟨#[]⟩)[q] := Option.some.inj hyq
              have hyb := hBD.out _ (List.getElem_mem hql)
              rw [← hyq2] at hyb
              obtain ⟨gb, rfl⟩ : ∃ gb, pg = some ⟨gb, 0, none⟩ := by
                rcases hoy.shape with ⟨h1, h2⟩ | ⟨gb, cap2, h1, _, _⟩
                · rw [h2] at hqy; exact absurd hqy (by simp)
                · injection h1 with h1 _ _; exact ⟨gb, h1⟩
              obtain ⟨k1, k2, k3⟩ := hoy.cellAt (g := gb) rfl q hqy
              have hst := hoy.store (g := gb) rfl q hqy (ys[q] + 1)
              have hgB := (hoy.block gb rfl).1
              have r1 : (0 : Int) ≤ (q : Int) := by omega
              have r2 : (q : Int) < ((parseL ⟨#[]⟩).length : Int) := by omega
              have HS2 : Hid (∀ j, q + 1 ≤ j → (ys.set q (ys[q] + 1))[j]? = (parseL ⟨#[]⟩)[j]?) := fun j hj => by rw [List.getElem?_set_ne (by omega)]; exact HY.out j (by omega)
              have hbx2 : Below wp.heap.size ws (wr.setCell ⟨gb, q, none⟩ (.int .i64 (ys[q] + 1))) := Below.setCell hbx (show wp.heap.size ≤ (⟨gb, q, none⟩ : Addr).block from hgB) _
              have hyl2 : (ys.set q (ys[q] + 1)).length = (parseL ⟨#[]⟩).length := by rw [List.length_set]; exact hyl
              clear hyq hyq2 hoy
              generalize ys.set q (ys[q] + 1) = zs at *
              generalize ys[q] = y at *
              go_wp2_with fail
              go_roundw
              case rel => exact ⟨q + 1, zs, by omega, by go_num, hyl2, HS2, by first | exact hst | simpa using hst, by first | exact hbx2 | simpa using hbx2⟩
              case measure => simp [intOf]; omega
            · have hBr : Bld wr D ⟨#[]⟩ := by
                obtain ⟨⟨ls, h1, h2, h3, h4⟩, h5⟩ := hBs
                exact ⟨⟨ls, h1, h2, h3, (hbx.block D hDlt).trans h4⟩, h5⟩
              have hlr : Below w.heap.size w wr := hls.trans (hbx.mono (Nat.le_trans hl'.size hps))
              clear hoy
              go_wp2_with fail
              go_roundw
              case rel => exact ⟨k + 1, D, ⟨#[]⟩, by omega, by go_num, rfl, rfl, Nat.zero_le _, hBr, by omega, hlr⟩
              case measure => simp [intOf]; omega
        · by_cases hf : fineR r = true
          · skip
            have cF := fun w => fine_any r w
            rw [hf] at cF
            have hes : (Utf8.encode r).size = 1 := by rw [← bytesOf_len, enc_fine r (by simp [fineR] at hf; omega)]; rfl
            have hss : (sb ++ Utf8.encode r).size = sb.size + 1 := by rw [ByteArray.size_append, hes]
            go_wp2_with (first | (go_at_call 20; (with_reducible refine (bld_add D sb r _ hB0 hf).mono ?_); rintro e wy ⟨rfl, hbar, hB⟩; have hl' := Bar.to_below hl0 hbar hDw) | (go_at_call 26; (with_reducible refine (cF _).mono ?_); rintro e w' ⟨rfl, rfl⟩) | (go_at_call 18; (with_reducible refine (bld_parse D (sb ++ Utf8.encode r) _ _ hB (by first | omega | decide)).mono ?_); rintro e wp ⟨u, rfl, hu, hbp⟩; obtain ⟨pu, nu, cu, hu1⟩ := hu.rd.shape; subst hu1; have hup := hu.rd; clear hu; have hBp := hB.below hbp; have hlp := bl_trans hl' hbp) | (go_at_call 27; (with_reducible refine (bld_list D (sb ++ Utf8.encode r) _ hBp).mono ?_); rintro e wq ⟨g, rfl, hgo, hbq⟩; obtain ⟨pg, ng, cg, hg1⟩ := hgo.rd.shape; subst hg1; have hBq := hBp.below hbq; have hlq := bl_trans hlp hbq; have huq := hup.below hbq; obtain ⟨hg1, hg2, hg3⟩ := hgo.len; subst hg1; have hpq := Nat.le_trans hbp.size hbq.size; have hps := hbp.size; have hbqs := hbq.size) | (go_at_call 28; (with_reducible refine (same_true _ _ _ _ _ hgo.rd huq (Lib.hid rfl)).mono ?_); rintro e ws ⟨rfl, hbs⟩; have hBs := hBq.below hbs; have hls := bl_trans hlq hbs; have hgs := hgo.kept hbs; clear hgo huq))
            have hbd := bld_bd _ _ _ hBs
            have hBD := Lib.hid hbd
            have hl16 := bld_len _ _ _ hBs
            clear hbd
            have hsz1 := hbs.size
            have hDlt : D < wp.heap.size := hBp.lt
            go_loopw [70] (fun j wx => ∃ (q : Nat) (ys : List Int), q ≤ (parseL (sb ++ Utf8.encode r)).length ∧ j = .int .i64 q ∧ ys.length = (parseL (sb ++ Utf8.encode r)).length ∧ Hid (∀ j, q ≤ j → ys[j]? = (parseL (sb ++ Utf8.encode r))[j]?) ∧ Own wx wp.heap.size 3 .i64 (.slice pg (parseL (sb ++ Utf8.encode r)).length cg) ys ∧ Below wp.heap.size ws wx) (fun j _ => (parseL (sb ++ Utf8.encode r)).length - (intOf j).toNat)
            case atStart => exact ⟨0, _, Nat.zero_le _, rfl, rfl, fun _ _ => rfl, hgs, Below.refl _ _⟩
            case round =>
              obtain ⟨q, ys, hq, rfl, hyl, HY, hoy, hbx⟩ := hrel
              have hxs := hbx.size
              by_cases hql : q < (parseL (sb ++ Utf8.encode r)).length
              · have hyq : ys[q]? = (parseL (sb ++ Utf8.encode r))[q]? := HY.out q (Nat.le_refl _)
                have hqy : q < ys.length := by omega
                rw [List.getElem?_eq_getElem hql, List.getElem?_eq_getElem hqy] at hyq
                have hyq2 : ys[q] = (parseL (sb ++ Utf8.encode r))[q] := Option.some.inj hyq
                have hyb := hBD.out _ (List.getElem_mem hql)
                rw [← hyq2] at hyb
                obtain ⟨gb, rfl⟩ : ∃ gb, pg = some ⟨gb, 0, none⟩ := by
                  rcases hoy.shape with ⟨h1, h2⟩ | ⟨gb, cap2, h1, _, _⟩
                  · rw [h2] at hqy; exact absurd hqy (by simp)
                  · injection h1 with h1 _ _; exact ⟨gb, h1⟩
                obtain ⟨k1, k2, k3⟩ := hoy.cellAt (g := gb) rfl q hqy
                have hst := hoy.store (g := gb) rfl q hqy (ys[q] + 1)
                have hgB := (hoy.block gb rfl).1
                have r1 : (0 : Int) ≤ (q : Int) := by omega
                have r2 : (q : Int) < ((parseL (sb ++ Utf8.encode r)).length : Int) := by omega
                have HS2 : Hid (∀ j, q + 1 ≤ j → (ys.set q (ys[q] + 1))[j]? = (parseL (sb ++ Utf8.encode r))[j]?) := fun j hj => by rw [List.getElem?_set_ne (by omega)]; exact HY.out j (by omega)
                have hbx2 : Below wp.heap.size ws (wr.setCell ⟨gb, q, none⟩ (.int .i64 (ys[q] + 1))) := Below.setCell hbx (show wp.heap.size ≤ (⟨gb, q, none⟩ : Addr).block from hgB) _
                have hyl2 : (ys.set q (ys[q] + 1)).length = (parseL (sb ++ Utf8.encode r)).length := by rw [List.length_set]; exact hyl
                clear hyq hyq2 hoy
                generalize ys.set q (ys[q] + 1) = zs at *
                generalize ys[q] = y at *
                go_wp2_with fail
                go_roundw
                case rel => exact ⟨q + 1, zs, by omega, by go_num, hyl2, HS2, by first | exact hst | simpa using hst, by first | exact hbx2 | simpa using hbx2⟩
                case measure => simp [intOf]; omega
              · have hBr : Bld wr D (sb ++ Utf8.encode r) := by
                  obtain ⟨⟨ls, h1, h2, h3, h4⟩, h5⟩ := hBs
                  exact ⟨⟨ls, h1, h2, h3, (hbx.block D hDlt).trans h4⟩, h5⟩
                have hlr : Below w.heap.size w wr := hls.trans (hbx.mono (Nat.le_trans hl'.size hps))
                clear hoy
                go_wp2_with fail
                go_roundw
                case rel => exact ⟨k + 1, D, (sb ++ Utf8.encode r), by omega, by go_num, rfl, rfl, by omega, hBr, by omega, hlr⟩
                case measure => simp [intOf]; omega
          · have hf : fineR r = false := by simpa using hf
            have cF := fun w => fine_any r w
            rw [hf] at cF
            go_wp2_with (first | (go_at_call 20; (with_reducible refine (add_no _ r _ hf hxk).mono ?_); rintro e w' ⟨rfl, rfl⟩) | (go_at_call 26; (with_reducible refine (cF _).mono ?_); rintro e w' ⟨rfl, rfl⟩) | (go_at_call 18; (with_reducible refine (bld_parse D sb _ _ hB0 (by first | omega | decide)).mono ?_); rintro e wp ⟨u, rfl, hu, hbp⟩; obtain ⟨pu, nu, cu, hu1⟩ := hu.rd.shape; subst hu1; have hup := hu.rd; clear hu; have hBp := hB0.below hbp; have hlp := bl_trans hl0 hbp) | (go_at_call 27; (with_reducible refine (bld_list D sb _ hBp).mono ?_); rintro e wq ⟨g, rfl, hgo, hbq⟩; obtain ⟨pg, ng, cg, hg1⟩ := hgo.rd.shape; subst hg1; have hBq := hBp.below hbq; have hlq := bl_trans hlp hbq; have huq := hup.below hbq; obtain ⟨hg1, hg2, hg3⟩ := hgo.len; subst hg1; have hpq := Nat.le_trans hbp.size hbq.size; have hps := hbp.size; have hbqs := hbq.size) | (go_at_call 28; (with_reducible refine (same_true _ _ _ _ _ hgo.rd huq (Lib.hid rfl)).mono ?_); rintro e ws ⟨rfl, hbs⟩; have hBs := hBq.below hbs; have hls := bl_trans hlq hbs; have hgs := hgo.kept hbs; clear hgo huq))
            have hbd := bld_bd _ _ _ hBs
            have hBD := Lib.hid hbd
            have hl16 := bld_len _ _ _ hBs
            clear hbd
            have hsz1 := hbs.size
            have hDlt : D < wp.heap.size := hBp.lt
            go_loopw [70] (fun j wx => ∃ (q : Nat) (ys : List Int), q ≤ (parseL sb).length ∧ j = .int .i64 q ∧ ys.length = (parseL sb).length ∧ Hid (∀ j, q ≤ j → ys[j]? = (parseL sb)[j]?) ∧ Own wx wp.heap.size 3 .i64 (.slice pg (parseL sb).length cg) ys ∧ Below wp.heap.size ws wx) (fun j _ => (parseL sb).length - (intOf j).toNat)
            case atStart => exact ⟨0, _, Nat.zero_le _, rfl, rfl, fun _ _ => rfl, hgs, Below.refl _ _⟩
            case round =>
              obtain ⟨q, ys, hq, rfl, hyl, HY, hoy, hbx⟩ := hrel
              have hxs := hbx.size
              by_cases hql : q < (parseL sb).length
              · have hyq : ys[q]? = (parseL sb)[q]? := HY.out q (Nat.le_refl _)
                have hqy : q < ys.length := by omega
                rw [List.getElem?_eq_getElem hql, List.getElem?_eq_getElem hqy] at hyq
                have hyq2 : ys[q] = (parseL sb)[q] := Option.some.inj hyq
                have hyb := hBD.out _ (List.getElem_mem hql)
                rw [← hyq2] at hyb
                obtain ⟨gb, rfl⟩ : ∃ gb, pg = some ⟨gb, 0, none⟩ := by
                  rcases hoy.shape with ⟨h1, h2⟩ | ⟨gb, cap2, h1, _, _⟩
                  · rw [h2] at hqy; exact absurd hqy (by simp)
                  · injection h1 with h1 _ _; exact ⟨gb, h1⟩
                obtain ⟨k1, k2, k3⟩ := hoy.cellAt (g := gb) rfl q hqy
                have hst := hoy.store (g := gb) rfl q hqy (ys[q] + 1)
                have hgB := (hoy.block gb rfl).1
                have r1 : (0 : Int) ≤ (q : Int) := by omega
                have r2 : (q : Int) < ((parseL sb).length : Int) := by omega
                have HS2 : Hid (∀ j, q + 1 ≤ j → (ys.set q (ys[q] + 1))[j]? = (parseL sb)[j]?) := fun j hj => by rw [List.getElem?_set_ne (by omega)]; exact HY.out j (by omega)
                have hbx2 : Below wp.heap.size ws (wr.setCell ⟨gb, q, none⟩ (.int .i64 (ys[q] + 1))) := Below.setCell hbx (show wp.heap.size ≤ (⟨gb, q, none⟩ : Addr).block from hgB) _
                have hyl2 : (ys.set q (ys[q] + 1)).length = (parseL sb).length := by rw [List.length_set]; exact hyl
                clear hyq hyq2 hoy
                generalize ys.set q (ys[q] + 1) = zs at *
                generalize ys[q] = y at *
                go_wp2_with fail
                go_roundw
                case rel => exact ⟨q + 1, zs, by omega, by go_num, hyl2, HS2, by first | exact hst | simpa using hst, by first | exact hbx2 | simpa using hbx2⟩
                case measure => simp [intOf]; omega
              · have hBr : Bld wr D sb := by
                  obtain ⟨⟨ls, h1, h2, h3, h4⟩, h5⟩ := hBs
                  exact ⟨⟨ls, h1, h2, h3, (hbx.block D hDlt).trans h4⟩, h5⟩
                have hlr : Below w.heap.size w wr := hls.trans (hbx.mono (Nat.le_trans hl0.size hps))
                clear hoy
                go_wp2_with fail
                go_roundw
                case rel => exact ⟨k + 1, D, sb, by omega, by go_num, rfl, rfl, by omega, hBr, by omega, hlr⟩
                case measure => simp [intOf]; omega
    · clear C1
      go_wp2_with (first | (go_at_call 18; (with_reducible refine (bld_parse D sb _ _ hB0 (by omega)).mono ?_); rintro e wp ⟨u, rfl, hu, hbp⟩; obtain ⟨pu, nu, cu, hu1⟩ := hu.rd.shape; subst hu1; have hBp := hB0.below hbp; have hlp := bl_trans hl0 hbp) | (go_at_call 21; (with_reducible refine (has_t D 38 _ _ _ _ _ hBp.v hu.rd hBp.parse.2).mono ?_); rintro e wh ⟨rfl, hbh⟩; have hlh := bl_trans hlp hbh) | (go_at_call 9; (with_reducible refine (known_any _ (ht.below hlh)).mono ?_); rintro e wk ⟨rfl, hbk⟩))
      go_ret
      exact ⟨rfl, bl_trans hlh hbk⟩

set_option maxRecDepth 100000 in
theorem paramsBuilds_lifted (os : Os) (started : os.Started) (H : Type) (enc : TypeId × Value → H) :
    ReturnsInHanded {} Tryd.checked os 7 .any (fun w args => (Rows.paramsBuildsSpec.pre enc Tryd.prog Tryd.f7 [] false w args ∧ laidMetH Tryd.prog laid3 w) ∧ sizedMet enc Tryd.prog Tryd.f7 (OpenSpec.ofChange Rows.paramsBuildsSpec) false w args)
      (Rows.paramsBuildsSpec.post enc Tryd.prog Tryd.f7 false true false false) := by
  refine returnsInHanded_of_change_and (C := Tryd.checked) (X := fun w _ => laidMetH Tryd.prog laid3 w) (fun _ _ _ hh h => h.of_heap hh) Tryd.own started (by kernel_rfl) Tryd.func7
    (ChangeSpec.witness_shaped (enc := enc) (C := Tryd.checked) (os := os) (X := fun w _ => laidMetH Tryd.prog laid3 w) false (World.doorLaid Tryd.prog 400 os) #[.slice none 0 0, .int .i64 0] 8 rfl (World.shaped_of_RefB (by kernel_rfl) (by kernel_rfl)) (by kernel_rfl) (by kernel_rfl) (by kernel_rfl) (door_met os _)) ?_
  intro W base args ds gs before hval0 hW _ _ hL _
  have hval : ∀ (j : Nat) t v, Tryd.f7.params[j]? = some t → args[j]? = some v → Value.okWide Tryd.prog W .any base t v := hval0
  have hW' := hW
  obtain ⟨p, q, hA0, hV, rfl, hfz, hnd⟩ := hW
  have hA : DataW.TrodAll enc Tryd.prog W 0 (fun _ => true) true Tryd.f7.params.toList args.toList ds p := hA0
  rw [Tryd.params7] at hA hval
  obtain ⟨v0, v1, d0, d1, p0, p1, rfl, rfl, rfl, h0, h1⟩ := trodAll_two hA
  obtain ⟨rfl, rfl⟩ := trodVars_none hV
  obtain ⟨l, hl, hwf⟩ := open_rd Tryd.underlying48 Tryd.underlying21 (by kernel_rfl) (hval 0 48 v0 rfl rfl) h0
  obtain ⟨i, rfl, hi⟩ := open_num Tryd.underlying3 (hval 1 3 v1 rfl rfl) h1
  clear hA0 hval0
  have hT := tab_of_laid hL
  refine (paramsBuilds_any v0 l i W hl hwf hT).mono fun e W' ⟨he, hw⟩ => ?_
  exact ⟨_, he, post_law Tryd.laidOut rfl hW' (by kernel_rfl) rfl Tryd.underlying4 rfl hw⟩

theorem paramsBuilds_row : Rows.ParamsBuildsSaid :=
  OpenClaim.holds_of_wide 7 Tryd.f7 rfl rfl rfl rfl rfl rfl rfl ⟨rfl, rfl, rfl, rfl, rfl⟩ rfl rfl rfl rfl rfl (by kernel_rfl) Tryd.func7 (by kernel_rfl)
    (of_decide_eq_true (by kernel_rfl)) (by unfold Func.isWrapper; first | (rw [if_pos (by decide +kernel)]; kernel_rfl) | (rw [if_neg (by decide +kernel)]; exact ⟨rfl, rfl⟩))
    (fun os started H enc _ => paramsBuilds_lifted os started H enc)

/-- THE TIED CARD. -/
theorem paramsBuilds_holds : Rows.ParamsBuildsCardSaid :=
  Claim7.holds_tied_plain_at .later [] [.data, .data, .data] true (true, "4458feca6dd9f3487c4421ad4cb313d72e0174510b7d77276993b3156a906d65") false
    paramsBuilds_row (fun _ h => by cases h) (by kernel_rfl) (fun _ h => by cases h) paramsBuilds_row_tie rfl ⟨rfl, rfl⟩ (by kernel_rfl) rfl
    (fun f fn hf hfn => by
      obtain rfl : f = 7 := Option.some.inj ((show Tryd.prog.funcNamed "scrollback/scrollbacklaw10.ParamsBuilds" = some 7 by kernel_rfl).symm.trans hf) |>.symm
      obtain rfl : fn = Tryd.f7 := (Option.some.inj (Tryd.func7.symm.trans hfn)).symm
      exact ⟨by kernel_rfl, fun j t ht => by
        rw [Tryd.params7] at ht
        have hm : t ∈ [48, 3] := by simpa using Array.mem_of_getElem? ht
        have hall : ([48, 3].all fun u => !Tryd.prog.wantsStandIn u) = true := by kernel_rfl
        exact (show Tryd.prog.wantsStandIn t = false by simpa using List.all_eq_true.1 hall t hm)⟩)
    (by kernel_rfl)

end Go.Proofs.YtdbjebjmhjljbaaDoor
