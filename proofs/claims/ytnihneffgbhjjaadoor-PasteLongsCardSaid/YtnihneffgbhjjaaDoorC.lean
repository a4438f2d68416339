/- paste: clean. -/
import Derived.Test.YtnihneffgbhjjaaDoorA
import Derived.Test.YtnihneffgbhjjaaDoorUH
import Derived.Deep.CutBlock
import Derived.Deep.DeepCutAuto
import Derived.Outline
set_option linter.unusedSimpArgs false
set_option linter.unusedVariables false
set_option linter.unnecessarySimpa false
namespace Go.Proofs.YtnihneffgbhjjaaDoor
open Go.RowKit

theorem run_runes {P : Program} {w : World} {v : Value} {xs : List Int} (src dst e : TypeId) (hs : P.underlying src = some (.slice e)) (he : P.underlying e = some (.int .i32)) (hd : P.underlying dst = some .string) (h : Rd w .i32 v xs) :
    (convert src dst v).run P w = .ok (.string (strOfNums (encL xs))) w := by
  rw [← runesBytes_encL]
  obtain ⟨p, cap, rfl, h1, h2, h3⟩ := h
  rw [run_convert_runes_string w src dst e p xs.length cap hs he hd]
  rcases h3 with ⟨rfl, h⟩ | ⟨b, off, rfl, hlt, hc⟩
  · have : xs = [] := List.eq_nil_of_length_eq_zero (by omega)
    subst this
    rfl
  · refine run_runesToString w ⟨b, off, none⟩ xs.length cap xs ?_
    have := run_loadCells_list (P := P) (w := w) ⟨b, off, none⟩ (xs.map (Value.int .i32)) (fun j v hj => by
      simp only [List.getElem?_map, Option.map_eq_some_iff] at hj
      obtain ⟨x, hx, rfl⟩ := hj
      rw [Addr.add_lit]
      exact hc j x hx)
    rw [List.length_map] at this
    exact this
def ClnRel (ds : List Int) (w : World) (it : Nat) (left last : Value) (wr : World) : Prop :=
  ∃ pre rs, ds = pre ++ rs ∧ left = .int .i64 (leftR pre) ∧ last = .int .i32 (lastR 0 pre) ∧ wr.heap[it]? = some (.stringIter (strOfNums (encL ds)) (encL pre).length) ∧ Bu wr w.heap.size ((encL (clnR 0 pre)).map (Value.int .u8)) ∧ Below w.heap.size w wr
def CleanE (ds : List Int) (w : World) (e : Ending) (w' : World) : Prop := e = .returned (.tuple #[.string (strOfNums (encL (clnR 0 ds))), .int .i64 (leftR ds)]) ∧ Below w.heap.size w w'
theorem Bu.iterAt {w : World} {b it : Nat} {bs : List Value} {S : ByteArray} {pos : Nat} (h : Bu w b bs) (hk : w.heap[it]? = some (.stringIter S pos)) (pos' : Nat) : Bu (w.iterAt it S pos') b bs := by
  have hg : w.grownBy (w.iterAt it S pos') (some it) := ⟨rfl, rfl, rfl, by rw [Lib.iterAt_size]; exact Nat.le_refl _, fun k hk2 hne => Lib.iterAt_other w it k S pos' (fun e => hne (by rw [e]))⟩
  have key : ∀ p, BuA w b p bs → BuA (w.iterAt it S pos') b p bs := by
    intro p ⟨h1, v, h2, h3, h4⟩
    refine ⟨h1, v, ?_, World.ownsRow.kept h3 hg (.inr fun e => ?_), h4⟩
    · rw [Lib.iterAt_other w it b S pos' (fun e => by rw [e, hk] at h2; cases h2)]; exact h2
    · rcases h3.2 with ⟨hv, _⟩ | ⟨g, cap, cur, hv, _, hgg, _⟩
      · rw [hv] at e; cases e
      · rw [hv] at e
        have : g = it := by simpa [Value.ownBlock] using e
        subst this
        rw [hgg] at hk; cases hk
  exact h.imp (key _) (key _)
theorem bu_zero (w : World) : Bu (w.alloc (.cells #[.pointer none, .slice none 0 0] 59)) w.heap.size [] :=
  .inl ⟨Nat.le_refl _, .slice none 0 0, heap_alloc_new w _, World.ownsRow_nil _ _ _ _, by simp [Value.ownBlock]⟩
theorem Bu.below {w w' : World} {b : Nat} {bs : List Value} (h : Bu w b bs) (hb : Below w.heap.size w w') : Bu w' b bs := by
  have key : ∀ p, BuA w b p bs → BuA w' b p bs := by
    intro p ⟨h1, v, h2, h3, h4⟩
    exact ⟨h1, v, (hb.block b (Array.getElem?_eq_some_iff.1 h2).1).trans h2, World.ownsRow.kept (row := none) h3 ⟨hb.os, hb.tape, hb.output, hb.size, fun i hi _ => hb.block i hi⟩ (by cases v.ownBlock <;> simp), h4⟩
  exact h.imp (key _) (key _)
set_option maxHeartbeats 8000000 in
set_option maxRecDepth 100000 in
theorem clean_any (vb : Value) (l : List Int) (w : World) (hb : Rd w .u8 vb l) (hl : ∀ x ∈ l, Byte x) (hlen : l.length ≤ 4000000) : Calls Tryd.prog 22 #[vb] w (CleanE (decL l) w) := by
  obtain ⟨pv, nv, cv, hve⟩ := hb.shape
  subst hve
  have cD := fun W (h : Below w.heap.size w W) => decode_any _ l W (hb.below h) hl (by omega)
  unfold RetOwn at cD
  have hds : (decL l).length ≤ l.length + 1 := by
    have h1 := feed_len l [] .nil hl
    have h2 : (endO (feedS [] l)).length ≤ 1 := by unfold endO; split <;> simp
    unfold decL
    rw [List.length_append]
    simp only [List.length_nil] at h1
    omega
  have hva : ∀ r ∈ decL l, validR r = true := by
    intro r hr
    unfold decL at hr
    rcases List.mem_append.1 hr with h | h
    · exact feed_valid l [] .nil hl r h
    · unfold endO at h; split at h <;> simp at h
      subst h; decide
  generalize decL l = ds at *
  have hbu0 := bu_zero w
  go_enter Tryd.func22, Tryd.ntmps22
  go_wp2_with (go_at_call 29; (with_reducible refine (cD _ (bl_alloc (Below.refl _ _) _)).mono ?_); rintro e w1 ⟨v1, rfl, hown, hb1⟩; have hrd := hown.rd; obtain ⟨p1, n1, c1, hv1⟩ := hrd.shape; subst hv1; have kc := run_runes (P := Tryd.prog) 25 9 21 Tryd.underlying25 Tryd.underlying21 Tryd.underlying9 hrd)
  have hit0 : (w1.iter (strOfNums (encL ds)) 0).heap[w1.heap.size]? = some (.stringIter (strOfNums (encL ds)) 0) := World.iter_heap _ _ _
  have hbw1 : Below w.heap.size w w1 := bl_trans (bl_alloc (Below.refl _ _) _) hb1
  have hbw2 : Below w.heap.size w (w1.iter (strOfNums (encL ds)) 0) := bl_alloc hbw1 _
  have hbu1 : Bu (w1.iter (strOfNums (encL ds)) 0) w.heap.size [] := (hbu0.below hb1).below (bl_alloc (Below.refl _ _) _)
  have hsz1 : w.heap.size < w1.heap.size := by have := hb1.size; simp at this; omega
  have hSz : (strOfNums (encL ds)).size = (encL ds).length := strOf_size _
  have hby := encL_byte ds
  obtain ⟨it, hite⟩ : ∃ it, w1.heap.size = it := ⟨_, rfl⟩
  rw [hite] at hit0 hsz1 ⊢
  clear kc hrd hown cD hbu0 hb1
  go_loopw [5, 6] (fun left last wr => ClnRel ds w it left last wr) (fun _ _ wr => (encL ds).length - wr.iterPos it)
  case atStart => exact ⟨[], ds, rfl, rfl, rfl, hit0, hbu1, hbw2⟩
  case round =>
    obtain ⟨pre, rs, hds2, rfl, rfl, hit, hbu, hbel⟩ := hrel
    have hll := leftR_le pre
    have hpl : pre.length ≤ ds.length := by rw [hds2, List.length_append]; omega
    cases rs with
    | nil =>
      have hnx := fun ty => Lib.run_next_end_at (P := Tryd.prog) wr it (strOfNums (encL ds)) (encL pre).length ty hit (by rw [hSz, hds2, List.append_nil]; omega)
      rw [List.append_nil] at hds2
      subst hds2
      clear hva hby hSz hds hl hb hpl hll hbu1 hit0 hbw1 hbw2
      have cS := string_any w.heap.size (encL (clnR 0 ds)) wr hbu (encL_byte _) hbel.size
      go_wp2_with (go_at_call 31; (with_reducible refine cS.mono ?_); rintro e w2 ⟨rfl, hb2⟩)
      go_ret2
      exact ⟨rfl, hbel.trans hb2⟩
    | cons r rs =>
      have hvr : validR r = true := hva r (by rw [hds2]; simp)
      have hrr := of_decide_eq_true hvr
      have hel : encL ds = encL pre ++ (enc1 r ++ encL rs) := by rw [hds2]; unfold encL; simp
      have hdec : Utf8.decode (strOfNums (encL ds)) (encL pre).length = (r.toNat, (enc1 r).length) := by
        rw [hel]; rw [hel] at hby; exact decode_enc _ _ _ hvr hby
      have hE := enc1_length r
      have hpos : (encL pre).length < (strOfNums (encL ds)).size := by rw [hSz, hel, List.length_append, List.length_append]; omega
      have hnx : ∀ ty, (Instr.next (.pointer (some ⟨it, 0, none⟩)) true ty).run Tryd.prog wr = .ok (.tuple #[.bool true, .int .i64 (encL pre).length, .int .i32 r]) (wr.iterAt it (strOfNums (encL ds)) ((encL pre).length + (enc1 r).length)) := fun ty => by
        have h := Lib.run_next_any_at (P := Tryd.prog) wr it (strOfNums (encL ds)) (encL pre).length ty hit hpos
        rw [hdec] at h
        dsimp only at h
        rw [Int.toNat_of_nonneg (by omega)] at h
        exact h
      obtain ⟨W, hW⟩ : ∃ W, wr.iterAt it (strOfNums (encL ds)) ((encL pre).length + (enc1 r).length) = W := ⟨_, rfl⟩
      rw [hW] at hnx
      have hsn : (encL (pre ++ [r])).length = (encL pre).length + (enc1 r).length := by rw [encL_snoc, List.length_append]
      have hitW : W.heap[it]? = some (.stringIter (strOfNums (encL ds)) (encL (pre ++ [r])).length) := by rw [← hW, hsn]; exact Lib.iterAt_heap wr it _ _ _ hit
      have hbelW : Below w.heap.size w W := by rw [← hW]; exact Lib.below_iterAt hbel (by omega) _ _
      have hbuW : Bu W w.heap.size ((encL (clnR 0 pre)).map (Value.int .u8)) := by
        rw [← hW]; exact hbu.iterAt hit _
      have hds3 : ds = (pre ++ [r]) ++ rs := by rw [hds2]; simp
      have hmes : (encL ds).length - (encL (pre ++ [r])).length < (encL ds).length - wr.iterPos it := by
        have : wr.iterPos it = (encL pre).length := by unfold World.iterPos; rw [hit]
        rw [this, hsn, hel, List.length_append, List.length_append]; omega
      have hcl := clnR_snoc 0 pre r
      have hlf := leftR_snoc pre r
      have hls := lastR_snoc 0 pre r
      clear hW hel hdec
      have hlen2 := (encL_length (clnR 0 pre)).2
      have hlen3 := clnR_le 0 pre
      obtain ⟨p, hp⟩ : ∃ p, lastR 0 pre = p := ⟨_, rfl⟩
      rw [hp] at hcl ⊢
      have HC := Lib.hid hcl
      clear hcl hp
      have HD := Lib.hid hds3
      have HL := Lib.hid hlf
      have HS := Lib.hid hls
      clear hva hby hds2 hds3 hlf hls
      by_cases h10 : r = 10
      · subst h10
        have HO : Hid (outR 10 = false) := Lib.hid rfl
        by_cases h13 : p = 13
        · subst h13
          have HE : Hid (clnR 0 (pre ++ [10]) = clnR 0 pre) := Lib.hid (by rw [HC.out]; simp [clnS])
          clear HC
          go_wp2_with fail
          go_roundw
          case rel => first | exact ⟨pre ++ [10], rs, HD.out, by rw [HL.out, HO.out, if_neg (by decide), Nat.add_zero], by rw [HS.out], hitW, by rw [HE.out]; exact hbuW, hbelW⟩ | ((repeat apply Exists.intro); exact ⟨⟨pre ++ [10], rs, HD.out, by rw [HL.out, HO.out, if_neg (by decide), Nat.add_zero], by rw [HS.out], hitW, by rw [HE.out]; exact hbuW, hbelW⟩, rfl⟩)
          case measure => rw [iterPos_of hitW]; exact hmes
        · have hp13 : (p == 13) = false := by (rw [beq_eq_false_iff_ne]; exact h13)
          have HE : Hid (clnR 0 (pre ++ [10]) = clnR 0 pre ++ [13]) := Lib.hid (by rw [HC.out]; simp [clnS, h13])
          clear HC
          go_wp2_with (first | (go_at_call 30; (with_reducible refine (writeRune_any w.heap.size _ 13 W hbuW ⟨by omega, by omega⟩ (by rw [List.length_map]; omega)).mono ?_); rintro e w2 ⟨rfl, hbu2, hwr⟩; have hit2 := hwr.oth it _ hitW (fun e => by injection e with e; omega) (fun _ _ h => by cases h); have hbel2 := hbelW.trans hwr.bel))
          go_roundw
          case rel => first | exact ⟨pre ++ [10], rs, HD.out, by rw [HL.out, HO.out, if_neg (by decide), Nat.add_zero], by rw [HS.out], hit2, by (rw [HE.out, encL_snoc, List.map_append]; exact hbu2), hbel2⟩ | ((repeat apply Exists.intro); exact ⟨⟨pre ++ [10], rs, HD.out, by rw [HL.out, HO.out, if_neg (by decide), Nat.add_zero], by rw [HS.out], hit2, by (rw [HE.out, encL_snoc, List.map_append]; exact hbu2), hbel2⟩, rfl⟩)
          case measure => rw [iterPos_of hit2]; exact hmes
      · have hr10 : (r == 10) = false := by (rw [beq_eq_false_iff_ne]; exact h10)
        cases ho : outR r
        · have HO := Lib.hid ho
          have ho2 := of_decide_eq_false ho
          clear ho
          have HE : Hid (clnR 0 (pre ++ [r]) = clnR 0 pre ++ [r]) := Lib.hid (by rw [HC.out]; simp [clnS, h10, HO.out])
          clear HC
          have hcs : r = 9 ∨ r = 13 ∨ (32 ≤ r ∧ r < 127) ∨ 160 ≤ r := by omega
          clear ho2 h10
          rcases hcs with rfl | rfl | ⟨h, h'⟩ | h
          · go_wp2_with (first | (go_at_call 30; (with_reducible refine (writeRune_any w.heap.size _ 9 W hbuW ⟨by omega, by omega⟩ (by rw [List.length_map]; omega)).mono ?_); rintro e w2 ⟨rfl, hbu2, hwr⟩; have hit2 := hwr.oth it _ hitW (fun e => by injection e with e; omega) (fun _ _ h => by cases h); have hbel2 := hbelW.trans hwr.bel))
            go_roundw
            case rel => first | exact ⟨pre ++ [9], rs, HD.out, by rw [HL.out, HO.out, if_neg (by decide), Nat.add_zero], by rw [HS.out], hit2, by (rw [HE.out, encL_snoc, List.map_append]; exact hbu2), hbel2⟩ | ((repeat apply Exists.intro); exact ⟨⟨pre ++ [9], rs, HD.out, by rw [HL.out, HO.out, if_neg (by decide), Nat.add_zero], by rw [HS.out], hit2, by (rw [HE.out, encL_snoc, List.map_append]; exact hbu2), hbel2⟩, rfl⟩)
            case measure => rw [iterPos_of hit2]; exact hmes
          · go_wp2_with (first | (go_at_call 30; (with_reducible refine (writeRune_any w.heap.size _ 13 W hbuW ⟨by omega, by omega⟩ (by rw [List.length_map]; omega)).mono ?_); rintro e w2 ⟨rfl, hbu2, hwr⟩; have hit2 := hwr.oth it _ hitW (fun e => by injection e with e; omega) (fun _ _ h => by cases h); have hbel2 := hbelW.trans hwr.bel))
            go_roundw
            case rel => first | exact ⟨pre ++ [13], rs, HD.out, by rw [HL.out, HO.out, if_neg (by decide), Nat.add_zero], by rw [HS.out], hit2, by (rw [HE.out, encL_snoc, List.map_append]; exact hbu2), hbel2⟩ | ((repeat apply Exists.intro); exact ⟨⟨pre ++ [13], rs, HD.out, by rw [HL.out, HO.out, if_neg (by decide), Nat.add_zero], by rw [HS.out], hit2, by (rw [HE.out, encL_snoc, List.map_append]; exact hbu2), hbel2⟩, rfl⟩)
            case measure => rw [iterPos_of hit2]; exact hmes
          all_goals
            have n9 : (r == 9) = false := by (rw [beq_eq_false_iff_ne]; omega)
            have n13 : (r == 13) = false := by (rw [beq_eq_false_iff_ne]; omega)
            have m9 : (r != 9) = true := by (rw [bne_iff_ne]; omega)
            have m13 : (r != 13) = true := by (rw [bne_iff_ne]; omega)
            go_wp2_with (first | (go_at_call 30; (with_reducible refine (writeRune_any w.heap.size _ r W hbuW ⟨by omega, by omega⟩ (by rw [List.length_map]; omega)).mono ?_); rintro e w2 ⟨rfl, hbu2, hwr⟩; have hit2 := hwr.oth it _ hitW (fun e => by injection e with e; omega) (fun _ _ h => by cases h); have hbel2 := hbelW.trans hwr.bel))
            go_roundw
            case rel => first | exact ⟨pre ++ [r], rs, HD.out, by rw [HL.out, HO.out, if_neg (by decide), Nat.add_zero], by rw [HS.out], hit2, by (rw [HE.out, encL_snoc, List.map_append]; exact hbu2), hbel2⟩ | ((repeat apply Exists.intro); exact ⟨⟨pre ++ [r], rs, HD.out, by rw [HL.out, HO.out, if_neg (by decide), Nat.add_zero], by rw [HS.out], hit2, by (rw [HE.out, encL_snoc, List.map_append]; exact hbu2), hbel2⟩, rfl⟩)
            case measure => rw [iterPos_of hit2]; exact hmes
        · have HO := Lib.hid ho
          have ho2 := of_decide_eq_true ho
          clear ho
          have HE : Hid (clnR 0 (pre ++ [r]) = clnR 0 pre) := Lib.hid (by rw [HC.out]; simp [clnS, h10, HO.out])
          clear HC
          have n9 : (r == 9) = false := by (rw [beq_eq_false_iff_ne]; omega)
          have n13 : (r == 13) = false := by (rw [beq_eq_false_iff_ne]; omega)
          have m9 : (r != 9) = true := by (rw [bne_iff_ne]; omega)
          have m13 : (r != 13) = true := by (rw [bne_iff_ne]; omega)
          have hcs : r < 32 ∨ (127 ≤ r ∧ r < 160) := by omega
          clear ho2 h10
          rcases hcs with h | ⟨h, h'⟩
          all_goals
            go_wp2_with fail
            go_roundw
            case rel => first | exact ⟨pre ++ [r], rs, HD.out, by (rw [HL.out, HO.out, if_pos rfl]; first | rfl | go_num), by rw [HS.out], hitW, by rw [HE.out]; exact hbuW, hbelW⟩ | ((repeat apply Exists.intro); exact ⟨⟨pre ++ [r], rs, HD.out, by (rw [HL.out, HO.out, if_pos rfl]; first | rfl | go_num), by rw [HS.out], hitW, by rw [HE.out]; exact hbuW, hbelW⟩, rfl⟩)
            case measure => rw [iterPos_of hitW]; exact hmes

end Go.Proofs.YtnihneffgbhjjaaDoor
