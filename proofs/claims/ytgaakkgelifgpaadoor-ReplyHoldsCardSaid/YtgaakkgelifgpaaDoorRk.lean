/- reply: replies have no controls; what comes in as an action. -/
import Derived.Test.YtgaakkgelifgpaaDoorRj
import Derived.Test.YtgaakkgelifgpaaDoorRq
import Derived.SizedLaws
import Derived.ChangeArms
set_option linter.unusedSimpArgs false
set_option linter.unusedVariables false
set_option linter.unnecessarySimpa false
namespace Go.Proofs.YtgaakkgelifgpaaDoor
open Go.ChangeShapes Go.WideShapes Go.ChangeAt Go.RowKit

def OkL (l : List UInt8) : Prop := ∀ x ∈ l, 32 ≤ x.toNat ∧ x.toNat ≤ 126
theorem OkL.app {a b : List UInt8} (ha : OkL a) (hb : OkL b) : OkL (a ++ b) := fun x hx => (List.mem_append.1 hx).elim (ha x) (hb x)
theorem okB {l : List UInt8} (h : (l.all fun x => decide (32 ≤ x.toNat ∧ x.toNat ≤ 126)) = true) : OkL l := fun x hx => of_decide_eq_true (List.all_eq_true.1 h x hx)
theorem app_data (a b : ByteArray) : (a ++ b).data.toList = a.data.toList ++ b.data.toList := by simp
theorem size_data (s : ByteArray) : s.size = s.data.toList.length := by show s.data.size = _; rw [Array.length_toList]
theorem plain_of (s : ByteArray) (l : List UInt8) (h : s.data.toList = 27 :: 91 :: l) (hl : l ≠ []) (ho : OkL l) : PlainB s := by
  refine .inr ⟨?_, by rw [h]; rfl, by rw [h]; rfl, fun i x hi hx => ?_⟩
  · have := size_data s
    rw [h] at this
    have := List.length_pos_iff.2 hl
    simp at *
    omega
  · rw [h] at hx
    match i, hi with
    | 1, _ =>
      obtain rfl : (91 : UInt8) = x := by simpa using hx
      decide
    | n + 2, _ => exact ho x (List.mem_of_getElem? (by simpa using hx))
theorem dec_ok (n : Nat) : OkL (Lib.decDigits n) := fun x hx => by have := dec_digit n x hx; omega
theorem numS_list (n : Nat) : (numS (n : Int)).data.toList = Lib.decDigits n := by unfold numS; rw [Lib.itoa_nonneg]
theorem posS_list (a b : Nat) : (posS (a : Int) (b : Int)).data.toList = 27 :: 91 :: (Lib.decDigits a ++ (59 :: (Lib.decDigits b ++ [82]))) := by
  unfold posS
  simp only [app_data, numS_list]
  simp
theorem posS_size (a b : Int) (h0 : -9223372036854775808 ≤ a) (h1 : a ≤ 9223372036854775807) (h2 : -9223372036854775808 ≤ b) (h3 : b ≤ 9223372036854775807) : (posS a b).size ≤ 100 := by
  have k1 := numS_size a h0 h1
  have k2 := numS_size b h2 h3
  unfold posS
  simp only [ByteArray.size_append]
  have s2 : (⟨#[27, 91]⟩ : ByteArray).size = 2 := rfl
  have s1 : (⟨#[59]⟩ : ByteArray).size = 1 := rfl
  have s3 : (⟨#[82]⟩ : ByteArray).size = 1 := rfl
  omega
def markL (p : Int) : List UInt8 := if p = 63 then [63] else []
theorem mark_list (p : Int) : (markS p).data.toList = markL p := by unfold markS markL; split <;> rfl
theorem modeT_list (p : Int) (n k : Nat) : (modeT p (n : Int) (k : Int)).data.toList = 27 :: 91 :: (markL p ++ (Lib.decDigits n ++ (59 :: (Lib.decDigits k ++ [36, 121])))) := by
  unfold modeT
  simp only [app_data, numS_list, mark_list]
  simp
theorem modeT_size (p n k : Int) (h0 : -9223372036854775808 ≤ n) (h1 : n ≤ 9223372036854775807) (h2 : -9223372036854775808 ≤ k) (h3 : k ≤ 9223372036854775807) : (modeT p n k).size ≤ 100 := by
  have k1 := numS_size n h0 h1
  have k2 := numS_size k h2 h3
  have k3 : (markS p).size ≤ 1 := by unfold markS; split <;> decide
  unfold modeT
  simp only [ByteArray.size_append]
  have s2 : (⟨#[27, 91]⟩ : ByteArray).size = 2 := rfl
  have s1 : (⟨#[59]⟩ : ByteArray).size = 1 := rfl
  have s3 : (⟨#[36, 121]⟩ : ByteArray).size = 2 := rfl
  omega
theorem plain_nil : PlainB ⟨#[]⟩ := .inl rfl
theorem att_plain (p : Int) : PlainB (attS p) := by
  unfold attS
  split
  · exact plain_of _ [63, 54, 50, 59, 50, 50, 99] rfl (by simp) (okB (by decide))
  · split
    · exact plain_of _ [62, 49, 59, 49, 48, 59, 48, 99] rfl (by simp) (okB (by decide))
    · exact plain_nil
theorem att_size (p : Int) : (attS p).size ≤ 100 := by unfold attS; (repeat' split) <;> decide
theorem pos_plain (a b : Int) (ha : 0 ≤ a) (hb : 0 ≤ b) : PlainB (posS a b) := by
  obtain ⟨n, rfl⟩ : ∃ n : Nat, a = n := ⟨a.toNat, by omega⟩
  obtain ⟨k, rfl⟩ : ∃ n : Nat, b = n := ⟨b.toNat, by omega⟩
  refine plain_of _ _ (posS_list n k) (by simp) ?_
  exact (dec_ok n).app (show OkL ([59] ++ (Lib.decDigits k ++ [82])) from (okB (by decide)).app ((dec_ok k).app (okB (by decide))))
theorem mark_ok (p : Int) : OkL (markL p) := by unfold markL; split <;> exact okB (by decide)
theorem modeT_plain (p n k : Int) (hn : 0 ≤ n) (hk : 0 ≤ k) : PlainB (modeT p n k) := by
  obtain ⟨n, rfl⟩ : ∃ m : Nat, n = m := ⟨n.toNat, by omega⟩
  obtain ⟨k, rfl⟩ : ∃ m : Nat, k = m := ⟨k.toNat, by omega⟩
  refine plain_of _ _ (modeT_list p n k) (by simp) ?_
  exact (mark_ok p).app ((dec_ok n).app (show OkL ([59] ++ (Lib.decDigits k ++ [36, 121])) from (okB (by decide)).app ((dec_ok k).app (okB (by decide)))))
theorem getR_range (m : Md) (p n : Int) : 0 ≤ getR m p n ∧ getR m p n ≤ 2 := by unfold getR; split <;> (try split) <;> (try split) <;> omega
theorem stat_plain (n : Int) (rows cols top bottom : Int) (o : Bool) (r c : Int) (p : Bool) : PlainB (statS n rows cols top bottom o r c p) ∧ (statS n rows cols top bottom o r c p).size ≤ 100 := by
  unfold statS
  split
  · exact ⟨plain_of _ [48, 110] rfl (by simp) (okB (by decide)), by decide⟩
  · split
    · split
      · rename_i hv
        have hf := Mo.valid_facts hv
        have hw : 1 ≤ whereR top r o ∧ whereR top r o ≤ 2000 := by unfold whereR; split <;> omega
        exact ⟨pos_plain _ _ (by omega) (by omega), posS_size _ _ (by omega) (by omega) (by omega) (by omega)⟩
      · exact ⟨plain_nil, by decide⟩
    · exact ⟨plain_nil, by decide⟩
theorem mode_plain (m : Md) (p n : Int) : PlainB (modeS m p n) ∧ (modeS m p n).size ≤ 100 := by
  unfold modeS
  split
  · rename_i h
    have hn : 0 ≤ n ∧ n ≤ 9999 := by simp [asksM] at h; omega
    have hk := getR_range m p n
    exact ⟨modeT_plain _ _ _ (by omega) (by omega), modeT_size _ _ _ (by omega) (by omega) (by omega) (by omega)⟩
  · exact ⟨plain_nil, by decide⟩
theorem ans_plain (kind rune pre : Int) (inter : ByteArray) (n : Int) (rows cols top bottom : Int) (o : Bool) (r c : Int) (p : Bool) (m : Md) : PlainB (ansP kind rune pre inter n rows cols top bottom o r c p m).1 ∧ (ansP kind rune pre inter n rows cols top bottom o r c p m).1.size ≤ 100 := by
  unfold ansP
  repeat' split
  all_goals (try dsimp only)
  all_goals first
    | exact ⟨plain_nil, by decide⟩
    | exact ⟨att_plain _, att_size _⟩
    | exact stat_plain _ _ _ _ _ _ _ _ _
    | exact mode_plain _ _ _
theorem set_facts (m : Md) (p n : Int) (on : Bool) (hv : validM m = true) (hm : isM p n = true) : validM (setM m n on) = true ∧ onM (setM m n on) n = on ∧ setM (setM m n on) n on = setM m n on := by
  obtain ⟨aw, ori, ins, vis, app, pas, sgr, ptr, alt⟩ := m
  simp [validM, ptrL, altL] at hv
  obtain ⟨h1, h2⟩ := hv
  rcases isM_cases p n hm with ⟨rfl, rfl⟩ | ⟨rfl, rfl⟩ | ⟨rfl, rfl⟩ | ⟨rfl, rfl⟩ | ⟨rfl, rfl⟩ | ⟨rfl, rfl⟩ | ⟨rfl, rfl⟩ | ⟨rfl, rfl⟩ | ⟨rfl, rfl⟩ | ⟨rfl, rfl⟩ | ⟨rfl, rfl⟩ | ⟨rfl, rfl⟩ | ⟨rfl, rfl⟩
  all_goals
    rcases h1 with rfl | rfl | rfl | rfl <;> rcases h2 with rfl | rfl | rfl | rfl <;> cases on <;> simp [validM, ptrL, altL, setM, onM]
/-- What a mode that is set, or reset, is answered with. -/
theorem after_set (m : Md) (p n : Int) (on : Bool) (h : setE m p n = 0) : modeS (setR m p n on) p n = modeT p n (if on then 1 else 2) ∧ modeE (setR m p n on) p n = 0 ∧ 0 ≤ n ∧ n ≤ 9999 := by
  unfold setE at h
  split at h
  · rename_i hv
    split at h
    · rename_i hm
      have hs : setR m p n on = setM m n on := by unfold setR; rw [if_pos hv, if_pos hm]
      obtain ⟨f1, f2, _⟩ := set_facts m p n on hv hm
      have hpn : (p = 0 ∨ p = 63) ∧ 0 ≤ n ∧ n ≤ 9999 := by
        rcases isM_cases p n hm with ⟨rfl, rfl⟩ | ⟨rfl, rfl⟩ | ⟨rfl, rfl⟩ | ⟨rfl, rfl⟩ | ⟨rfl, rfl⟩ | ⟨rfl, rfl⟩ | ⟨rfl, rfl⟩ | ⟨rfl, rfl⟩ | ⟨rfl, rfl⟩ | ⟨rfl, rfl⟩ | ⟨rfl, rfl⟩ | ⟨rfl, rfl⟩ | ⟨rfl, rfl⟩ <;> simp
      obtain ⟨hp, hn0, hn1⟩ := hpn
      have ha : asksM (setM m n on) p n = true := by
        unfold asksM
        rw [f1]
        rcases hp with rfl | rfl <;> simp [hn0, hn1]
      rw [hs]
      unfold modeS modeE
      rw [ha, if_pos rfl, if_pos rfl]
      refine ⟨?_, rfl, hn0, hn1⟩
      unfold getR
      rw [f1, if_pos rfl, hm, if_pos rfl, f2]
    · exact absurd h (by decide)
  · exact absurd h (by decide)
/-- The third byte from the end. -/
theorem mode_last (p n : Int) (on : Bool) (hn : 0 ≤ n ∧ n ≤ 9999) : ∃ hb : (modeT p n (if on then 1 else 2)).size - 3 < (modeT p n (if on then 1 else 2)).size, 6 ≤ (modeT p n (if on then 1 else 2)).size ∧ (modeT p n (if on then 1 else 2))[(modeT p n (if on then 1 else 2)).size - 3].toNat = if on then 49 else 50 := by
  obtain ⟨k, rfl⟩ : ∃ m : Nat, n = m := ⟨n.toNat, by omega⟩
  have key : ∀ (c : Nat) (d : UInt8), Lib.decDigits c = [d] → ∀ s : ByteArray, s = modeT p (k : Int) (c : Int) → ∃ hb : s.size - 3 < s.size, 6 ≤ s.size ∧ s[s.size - 3] = d := by
    intro c d hd s hs
    have hl := modeT_list p k c
    rw [hd, ← hs] at hl
    have h1 : s.data.toList = (27 :: 91 :: (markL p ++ (Lib.decDigits k ++ [59]))) ++ [d, 36, 121] := by rw [hl]; simp
    have h2 := size_data s
    rw [h1, List.length_append] at h2
    have h3 : 1 ≤ (Lib.decDigits k).length := List.length_pos_iff.2 (dec_ne k)
    have h4 : (27 :: 91 :: (markL p ++ (Lib.decDigits k ++ [59]))).length = 2 + ((markL p).length + ((Lib.decDigits k).length + 1)) := by simp; omega
    have h5 : ([d, 36, 121] : List UInt8).length = 3 := rfl
    have hb : s.size - 3 < s.size := by omega
    refine ⟨hb, by omega, ?_⟩
    have h6 := sidx s (s.size - 3) hb
    rw [h1, List.getElem?_append_right (by omega), show s.size - 3 - (27 :: 91 :: (markL p ++ (Lib.decDigits k ++ [59]))).length = 0 by omega] at h6
    simpa using h6.symm
  cases on
  · obtain ⟨hb, h6, he⟩ := key 2 50 (Lib.decDigits_one (by omega)) (modeT p (k : Int) 2) rfl
    exact ⟨hb, h6, congrArg UInt8.toNat he⟩
  · obtain ⟨hb, h6, he⟩ := key 1 49 (Lib.decDigits_one (by omega)) (modeT p (k : Int) 1) rfl
    exact ⟨hb, h6, congrArg UInt8.toNat he⟩
/-- Where Go leads to what Where says. -/
theorem go_back (rows cols top bottom r c : Int) (o p : Bool) (hv : Mo.validB rows cols top bottom r c p = true) (h : o = false ∨ (top ≤ r ∧ r ≤ bottom)) : Mo.rowOf rows top bottom o (whereR top r o - 1) = r ∧ Mo.near (c + 1 - 1) 0 (cols - 1) = c := by
  have hf := Mo.valid_facts hv
  unfold Mo.rowOf whereR Mo.near
  cases o
  · simp; omega
  · have := h.resolve_left (by simp)
    simp; omega

theorem cellsAct : Tryd.prog.cellsOf 44 = 6 := by kernel_rfl
theorem cellsKind : Tryd.prog.cellsOf 42 = 1 := by kernel_rfl
theorem cellsR : Tryd.prog.cellsOf 21 = 1 := by kernel_rfl
theorem cellsS : Tryd.prog.cellsOf 9 = 1 := by kernel_rfl
theorem cellsL : Tryd.prog.cellsOf 32 = 1 := by kernel_rfl
theorem six {l : List Value} (h : l.length = 6) : ∃ a b c d e f, l = [a, b, c, d, e, f] := by
  match l, h with
  | [a, b, c, d, e, f], _ => exact ⟨a, b, c, d, e, f, rfl⟩
theorem typesAct : Tryd.prog.cellTypes Tryd.prog.depth 44 = some [42, 21, 21, 9, 32, 9] := by kernel_rfl
/-- An action that came in. -/
theorem open_action {H : Type} {enc : TypeId × Value → H} {W : World} {b0 : Nat} {r : Reach} {v : Value} {d : DataW H} {p : List MemPlace} (hv : Value.okWide Tryd.prog W r b0 44 v) (h : DataW.Trod enc Tryd.prog W 0 (fun _ => true) true 44 v d p) (hz : ∀ n ∈ d.weights Tryd.prog 44, n ≤ reachBytes) :
    ∃ (kind rune pre : Int) (inter text : ByteArray) (sl : Value) (xs : List Int), v = .agg #[.int .i64 kind, .int .i32 rune, .int .i32 pre, .string inter, sl, .string text] ∧ Rd W .i64 sl xs ∧ inter.size ≤ 140737488355328 := by
  unfold Value.okWide at hv
  rw [Tryd.underlying44] at hv
  obtain ⟨cs, rfl, hsz, ts, hts, _, hcell⟩ := hv
  rw [typesAct] at hts
  obtain rfl := Option.some.inj hts
  obtain ⟨cs⟩ := cs
  obtain ⟨c0, c1, c2, c3, c4, c5, rfl⟩ := six (l := cs) (by rw [cellsAct] at hsz; simpa using hsz)
  obtain ⟨fuel, hf⟩ := h
  obtain ⟨xs, n, _, hd, _, hlen, hg⟩ := DataW.trod_struct Tryd.underlying44 hf
  have h0 := hg 0 _ rfl
  have h1 := hg 1 _ rfl
  have h2 := hg 2 _ rfl
  have h3 := hg 3 _ rfl
  have h4 := hg 4 _ rfl
  have h5 := hg 5 _ rfl
  simp [Value.cells, cellsKind, cellsR, cellsS, cellsL] at h0 h1 h2 h3 h4 h5
  obtain ⟨kind, rfl, _⟩ := field_int Tryd.underlying42 h0 (len_some hlen (by decide))
  obtain ⟨rune, rfl, _⟩ := field_int Tryd.underlying21 h1 (len_some hlen (by decide))
  obtain ⟨pre, rfl, _⟩ := field_int Tryd.underlying21 h2 (len_some hlen (by decide))
  obtain ⟨y3, hy3⟩ := Option.isSome_iff_exists.1 (len_some hlen (show 3 < 6 by decide))
  obtain ⟨y4, hy4⟩ := Option.isSome_iff_exists.1 (len_some hlen (show 4 < 6 by decide))
  obtain ⟨y5, hy5⟩ := Option.isSome_iff_exists.1 (len_some hlen (show 5 < 6 by decide))
  rw [hy3] at h3
  rw [hy4] at h4
  rw [hy5] at h5
  obtain ⟨inter, e3, hx3, hs3⟩ := DataW.trod_string Tryd.underlying9 h3
  obtain ⟨text, e5, _, _⟩ := DataW.trod_string Tryd.underlying9 h5
  obtain rfl : c3 = .string inter := by simpa using e3
  obtain rfl : c5 = .string text := by simpa using e5
  obtain ⟨u, hu, hok⟩ := hcell 4 c4 rfl
  obtain rfl : 32 = u := by simpa using hu
  have hvw : Value.okWide Tryd.prog W r b0 32 c4 := by unfold Value.okWide; rw [Tryd.underlying32]; exact hok
  obtain ⟨qv, lv, cv, rfl⟩ := okWide_slice Tryd.underlying32 hvw
  obtain ⟨zs, hrd, _⟩ := open_rd (k := .i64) Tryd.underlying32 Tryd.underlying3 (by kernel_rfl) hvw (d := y4.1) (p := y4.2) ⟨n, h4⟩
  refine ⟨kind, rune, pre, inter, text, _, zs, rfl, hrd, ?_⟩
  have hmem : inter.data.toList.length ∈ d.weights Tryd.prog 44 := by
    have hd1 : d = .agg (xs.map (·.1)) := by
      injection hd
    rw [hd1]
    simp only [DataW.weights, Tryd.underlying44]
    refine DataW.weights_mem_each (j := 3) (t := 9) (d := y3.1) rfl (by rw [List.getElem?_map, hy3]; rfl) _ ?_
    rw [hx3]
    simp [DataW.weights]
  have := hz _ hmem
  rw [size_data]
  unfold reachBytes at this
  omega

end Go.Proofs.YtgaakkgelifgpaaDoor
