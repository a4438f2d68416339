/- style: Text. Printed by mk_q.py. -/
import Derived.Test.YtdoeiaekimbecaaDoorP
import Derived.Test.YtdoeiaekimbecaaDoorMQ
import Derived.Laws.OwnMore
import Derived.Outline
set_option linter.unusedSimpArgs false
set_option linter.unusedVariables false
set_option linter.unnecessarySimpa false
namespace Go.Proofs.YtdoeiaekimbecaaDoor
open Go.RowKit

theorem Bu.below {w w' : World} {b : Nat} {bs : List Value} (h : Bu w b bs) (hb : Below w.heap.size w w') : Bu w' b bs := by
  have key : ∀ p, BuA w b p bs → BuA w' b p bs := by
    rintro p ⟨h1, v, h2, h3, h4⟩
    refine ⟨h1, v, (hb.block b (Array.getElem?_eq_some_iff.1 h2).1).trans h2, ⟨h3.1, ?_⟩, h4⟩
    rcases h3.2 with h5 | ⟨g, cap, cur, e1, e2, e3, e4⟩
    · exact .inl h5
    · exact .inr ⟨g, cap, cur, e1, e2, (hb.block g (Array.getElem?_eq_some_iff.1 e3).1).trans e3, e4⟩
  rcases h with h | h
  · exact .inl (key _ h)
  · exact .inr (key _ h)
theorem Bu.lt' {w : World} {b : Nat} {bs : List Value} (h : Bu w b bs) : b < w.heap.size := by
  rcases h with h | h <;> exact h.lt
theorem Wr.box {b k : Nat} {w w' : World} {cs : Array Value} {t : TypeId} (h : Wr b w w') (hx : Box w k cs t) (hk : k ≠ b) (ht : t ≠ 5) : Box w' k cs t := h.oth k cs t _ hk hx ht
theorem wS (b : Nat) (l s : List UInt8) (w : World) (h : Bu w b (Lib.byteCells l)) (hl : l.length ≤ 10000) (hs : s.length ≤ 10000) :
    Calls Tryd.prog 38 #[.pointer (some ⟨b, 0, none⟩), .string ⟨s.toArray⟩] w fun e w' => ∃ n, e = .returned (.tuple #[.int .i64 n, .nilIface]) ∧ Bu w' b (Lib.byteCells (l ++ s)) ∧ Wr b w w' := by
  refine (writeString_any b _ ⟨s.toArray⟩ w h (by rw [show (⟨s.toArray⟩ : ByteArray).size = s.length from by simp [ByteArray.size]]; simp [Lib.byteCells]; omega)).mono ?_
  rintro e w' ⟨rfl, h1, h2⟩
  refine ⟨_, rfl, ?_, h2⟩
  have e : Lib.byteCells (l ++ s) = Lib.byteCells l ++ Lib.strCells ⟨s.toArray⟩ := by simp [Lib.byteCells, Lib.strCells]
  rw [e]; exact h1

/-- How many more numbers a sequence takes that has m of them. -/
def gF : Nat → Nat → List Int → Nat
  | 0, _, _ => 0
  | k + 1, m, l => if l = [] then 0 else if 16 < m + groupN l then 0 else groupN l + gF k (m + groupN l) (l.drop (groupN l))
def fitN (m : Nat) (l : List Int) : Nat := gF l.length m l
theorem gF_more (k : Nat) : ∀ (j m : Nat) (l : List Int), l.length ≤ k → l.length ≤ j → gF k m l = gF j m l := by
  induction k with
  | zero =>
    intro j m l hk hj
    have : l = [] := List.length_eq_zero_iff.1 (by omega)
    subst this
    cases j <;> simp [gF]
  | succ k ih =>
    intro j m l hk hj
    by_cases hl : l = []
    · subst hl
      cases j <;> simp [gF]
    · cases j with
      | zero => have := List.length_pos_iff.2 hl; omega
      | succ j =>
        have hg := group_pos l hl
        simp only [gF, if_neg hl]
        split
        · rfl
        · rw [ih j _ _ (by rw [List.length_drop]; omega) (by rw [List.length_drop]; omega)]
theorem fitN_nil (m : Nat) : fitN m [] = 0 := rfl
theorem fitN_step (m : Nat) (l : List Int) (hl : l ≠ []) : fitN m l = if 16 < m + groupN l then 0 else groupN l + fitN (m + groupN l) (l.drop (groupN l)) := by
  have hg := group_pos l hl
  have hp := List.length_pos_iff.2 hl
  unfold fitN
  obtain ⟨k, hk⟩ : ∃ k, l.length = k + 1 := ⟨l.length - 1, by omega⟩
  rw [hk]
  simp only [gF, if_neg hl]
  split
  · rfl
  · rw [gF_more k (l.drop (groupN l)).length _ _ (by rw [List.length_drop]; omega) (Nat.le_refl _)]
theorem group_le (l : List Int) : groupN l ≤ 5 := by
  unfold groupN; repeat' split
  all_goals omega
theorem gF_le (k : Nat) : ∀ (m : Nat) (l : List Int), gF k m l ≤ l.length ∧ (m ≤ 16 → m + gF k m l ≤ 16) := by
  induction k with
  | zero => intro m l; exact ⟨by simp [gF], fun h => by simpa [gF] using h⟩
  | succ k ih =>
    intro m l
    by_cases hl : l = []
    · subst hl; exact ⟨by simp [gF], fun h => by simpa [gF] using h⟩
    · have hg := group_pos l hl
      have h2 := ih (m + groupN l) (l.drop (groupN l))
      rw [List.length_drop] at h2
      simp only [gF, if_neg hl]
      split
      · exact ⟨by omega, fun h => by omega⟩
      · exact ⟨by omega, fun h => by have := h2.2 (by omega); omega⟩
theorem fitN_le (m : Nat) (l : List Int) : fitN m l ≤ l.length := (gF_le _ m l).1
theorem fitN_16 (m : Nat) (l : List Int) (h : m ≤ 16) : m + fitN m l ≤ 16 := (gF_le _ m l).2 h
theorem fitN_pos (l : List Int) (hl : l ≠ []) : 1 ≤ fitN 0 l := by
  have hg := group_pos l hl
  have h5 := group_le l
  rw [fitN_step 0 l hl, if_neg (by omega)]; omega
def textF : Nat → List Int → List UInt8
  | 0, _ => []
  | k + 1, l => if l = [] then [] else [27, 91] ++ Pm.textB (l.take (fitN 0 l)) ++ [109] ++ textF k (l.drop (fitN 0 l))
def textN (l : List Int) : List UInt8 := textF l.length l
theorem textF_more (k : Nat) : ∀ (j : Nat) (l : List Int), l.length ≤ k → l.length ≤ j → textF k l = textF j l := by
  induction k with
  | zero =>
    intro j l hk hj
    have : l = [] := List.length_eq_zero_iff.1 (by omega)
    subst this
    cases j <;> simp [textF]
  | succ k ih =>
    intro j l hk hj
    by_cases hl : l = []
    · subst hl
      cases j <;> simp [textF]
    · cases j with
      | zero => have := List.length_pos_iff.2 hl; omega
      | succ j =>
        have hg := fitN_pos l hl
        have hg2 := fitN_le 0 l
        have hp := List.length_pos_iff.2 hl
        simp only [textF, if_neg hl]
        rw [ih j _ (by rw [List.length_drop]; omega) (by rw [List.length_drop]; omega)]
theorem textN_nil : textN [] = [] := rfl
theorem textN_step (l : List Int) (hl : l ≠ []) : textN l = [27, 91] ++ Pm.textB (l.take (fitN 0 l)) ++ [109] ++ textN (l.drop (fitN 0 l)) := by
  have hg := fitN_pos l hl
  have hg2 := fitN_le 0 l
  have hp := List.length_pos_iff.2 hl
  unfold textN
  obtain ⟨k, hk⟩ : ∃ k, l.length = k + 1 := ⟨l.length - 1, by omega⟩
  rw [hk]
  simp only [textF, if_neg hl]
  rw [textF_more k (l.drop (fitN 0 l)).length _ (by rw [List.length_drop]; omega) (Nat.le_refl _)]
/-- A missing number is -1. -/
def cut1 (x : Int) : Int := max (-1) x
theorem numB_cut (x : Int) : Pm.numB (cut1 x) = Pm.numB x := by
  unfold Pm.numB cut1
  by_cases h : 0 ≤ x
  · rw [show max (-1) x = x by omega]
  · rw [if_neg h, if_neg (by omega)]
theorem textB_cut (xs : List Int) : Pm.textB (xs.map cut1) = Pm.textB xs := by
  unfold Pm.textB
  rw [List.map_map]
  congr 1
  exact List.map_congr_left fun x _ => numB_cut x
theorem valid_cut (xs : List Int) (h1 : rightN xs = true) (h2 : xs.length ≤ 16) (h3 : ¬ (xs.length = 1 ∧ xs.getD 0 0 < 0)) : Pm.validP (xs.map cut1) = true := by
  unfold rightN at h1
  rw [List.all_eq_true] at h1
  simp only [Pm.validP, Bool.and_eq_true, decide_eq_true_eq, Bool.not_eq_true', Bool.and_eq_false_iff, decide_eq_false_iff_not, List.length_map]
  refine ⟨⟨?_, h2⟩, ?_⟩
  · rw [List.all_eq_true]
    intro x hx
    obtain ⟨y, hy, rfl⟩ := List.mem_map.1 hx
    have := h1 y hy
    simp only [decide_eq_true_eq] at this
    show decide (-1 ≤ cut1 y ∧ cut1 y ≤ 9999) = true
    rw [decide_eq_true_eq]
    unfold cut1
    constructor <;> omega
  · by_cases h : xs.length = 1
    · right
      intro hn
      apply h3
      refine ⟨h, ?_⟩
      match xs, h with
      | [x], _ => simp only [List.map_cons, List.map_nil, List.getD_cons_zero, cut1] at hn ⊢; omega
    · left; exact h
theorem invalid_cut (xs : List Int) (h : xs.length = 1 ∧ xs.getD 0 0 < 0) : Pm.validP (xs.map cut1) = false := by
  obtain ⟨h1, h2⟩ := h
  match xs, h1 with
  | [x], _ =>
    simp only [List.getD_cons_zero] at h2
    have e : cut1 x < 0 := by unfold cut1; omega
    simp only [Pm.validP, List.map_cons, List.map_nil, List.length_cons, List.length_nil, List.getD_cons_zero]
    simp [e]
theorem single_text (xs : List Int) (h : xs.length = 1 ∧ xs.getD 0 0 < 0) : Pm.textB xs = [] := by
  obtain ⟨h1, h2⟩ := h
  match xs, h1 with
  | [x], _ =>
    simp only [List.getD_cons_zero] at h2
    rw [show Pm.textB [x] = Pm.numB x by simp [Pm.textB, Lib.join_one]]
    unfold Pm.numB; rw [if_neg (by omega)]
theorem right_cut (l : List Int) (h : rightN l = true) (k : Nat) : rightN (l.take k) = true ∧ rightN (l.drop k) = true := by
  unfold rightN at *
  rw [List.all_eq_true] at h
  exact ⟨by rw [List.all_eq_true]; exact fun x hx => h x (List.mem_of_mem_take hx), by rw [List.all_eq_true]; exact fun x hx => h x (List.mem_of_mem_drop hx)⟩
theorem right_all (l : List Int) (h : rightN l = true) : ∀ x ∈ l, x ≤ 9999 := by
  unfold rightN at h
  rw [List.all_eq_true] at h
  intro x hx
  simpa using h x hx
theorem Rd.down {w W : World} {k : IntKind} {v : Value} {xs : List Int} (h : Rd W k v xs) (hb : Below w.heap.size w W) (hv : ∀ g, v.ownBlock = some g → g < w.heap.size) : Rd w k v xs := by
  obtain ⟨p, cap, rfl, h1, h2, h3⟩ := h
  refine ⟨p, cap, rfl, h1, h2, h3.imp id fun ⟨b, off, hp, hlt, hc⟩ => ?_⟩
  subst hp
  have hl : b < w.heap.size := hv b rfl
  exact ⟨b, off, rfl, hl, fun i x hx => (hb.cell (p := ⟨b, off + i, none⟩) hl).symm.trans (hc i x hx)⟩
theorem made_zeros (n : Nat) : (madeCells (Value.int .i64 0).cells (n * 1)).toList = (List.replicate n (0 : Int)).map (.int .i64) := by
  rw [Nat.mul_one]
  unfold madeCells
  simp [Value.cells]
  apply List.ext_getElem
  · simp
  · intro i h1 h2
    simp at h1 ⊢
    rw [Nat.mod_one]; rfl
theorem set_step (ys : List Int) (m j : Nat) (h : j < m) (hm : m ≤ ys.length) : ((ys.take j).map cut1 ++ List.replicate (m - j) 0).set j (cut1 ((ys.take m).getD j 0)) = (ys.take (j + 1)).map cut1 ++ List.replicate (m - (j + 1)) 0 := by
  have hl : ((ys.take j).map cut1).length = j := by rw [List.length_map, List.length_take]; omega
  rw [List.set_append_right _ _ (by omega), hl, Nat.sub_self]
  obtain ⟨k, hk⟩ : ∃ k, m - j = k + 1 := ⟨m - j - 1, by omega⟩
  rw [hk, show m - (j + 1) = k by omega, List.replicate_succ, List.set_cons_zero, List.take_succ_eq_append_getElem (show j < ys.length by omega), List.map_append, List.append_assoc]
  congr 1
  simp only [List.map_cons, List.map_nil, List.cons_append, List.nil_append]
  congr 2
  rw [List.getD_eq_getElem?_getD, List.getElem?_take, if_pos h, List.getElem?_eq_getElem (show j < ys.length by omega)]
  rfl
/-- make, as a step of a walk. -/
theorem wpList_make {ops : Array Oper} {rest : List Oper} {o : Oper} {a : Act} {w : World} {Q : Exit → Act → World → Prop} (hgd : o.guard = none) (x y : Operand) (ho : o.op = .makeSlice 28 x y) (n : Nat) (hx : a.eval x = .int .i64 n) (hy : a.eval y = .int .i64 n) (hn : n ≤ 1000)
    (h : ∀ w', Own w' w.heap.size 3 .i64 (.slice (some ⟨w.heap.size, 0, none⟩) n n) (List.replicate n 0) → Below w.heap.size w w' → wpList Tryd.prog ops Q rest (a.put o.dst (.slice (some ⟨w.heap.size, 0, none⟩) n n)) w') : wpList Tryd.prog ops Q (o :: rest) a w := by
  obtain ⟨i0, hi, hz0, hz1, hz2⟩ := info_parts elI
  obtain ⟨w', hr, h1, h2⟩ := run_makeSlice_full (P := Tryd.prog) (w := w) w.heap.size 28 3 i0 (.int .i64 0) 1 Tryd.underlying28 hi hz0 hz1 .i64 .i64 n (by omega) (by rw [hz2]; omega) (by unfold maxLen; omega) (Nat.le_refl _)
  refine wpList_plain hgd fun _ hK => ?_
  unfold Oper.wp execOp
  simp only [ho, Sem.run_bind, Sem.run_pure, Result.andThen_ok, hx, hy, hr]
  refine hK _ _ (h w' ?_ ⟨h2.os, h2.tape, h2.output, h2.size, fun k hk => h2.block k hk (by simp)⟩)
  unfold Own
  rw [List.length_replicate, ← made_zeros]
  exact h1
theorem text_bad (v : Value) (l : List Int) (w : World) (h : Rd w .i64 v l) (hr : rightN l = false) : Calls Tryd.prog 28 #[v] w fun e w' => e = .returned (.tuple #[.string ⟨#[]⟩, .int .i64 2]) ∧ Below w.heap.size w w' := by
  have cC := check_any v l w h
  rw [hr] at cC
  have e2 : chkN false = 2 := rfl
  rw [e2] at cC
  go_enter Tryd.func28, Tryd.ntmps28
  go_wp2_with (go_at_call 30; (with_reducible refine cC.mono ?_); rintro e w1 ⟨rfl, hb1⟩)
  go_ret2
  exact ⟨rfl, hb1⟩
set_option maxHeartbeats 8000000 in
set_option maxRecDepth 100000 in
theorem text_ok (v : Value) (l : List Int) (w : World) (h : Rd w .i64 v l) (hr : rightN l = true) (hlen : l.length ≤ 1000) (ht : Pm.Tab w) : Calls Tryd.prog 28 #[v] w fun e w' => e = .returned (.tuple #[.string ⟨(textN l).toArray⟩, .int .i64 0]) ∧ Below w.heap.size w w' := by
  have cC := check_any v l w h
  rw [hr] at cC
  have e2 : chkN true = 0 := rfl
  rw [e2] at cC
  clear e2
  have HR := Lib.hid hr
  clear hr
  go_enter Tryd.func28, Tryd.ntmps28
  go_wp2_with (go_at_call 30; (with_reducible refine cC.mono ?_); rintro e w1 ⟨rfl, hb1⟩; clear cC)
  go_loopw [0] (fun u wr => ∃ (ys : List Int) (acc : List UInt8), Rd w .i64 u ys ∧ Hid (acc ++ textN ys = textN l) ∧ Hid (rightN ys = true) ∧ ys.length ≤ l.length ∧ acc.length ≤ 30 * (l.length - ys.length) ∧ Bu wr w1.heap.size (Lib.byteCells acc) ∧ Below w1.heap.size w1 wr) (fun u _ => match u with | .slice _ n _ => n | _ => 0)
  case atStart => exact ⟨l, [], h, rfl, HR, by omega, by simp, .inl ⟨Nat.le_refl _, .slice none 0 0, Box.new w1 _ _ rfl, World.ownsRow_nil _ _ _ _, by simp [Value.ownBlock]⟩, (Below.refl _ _).alloc (Nat.le_refl _) _⟩
  case round =>
    obtain ⟨ys, acc, hrd, HT, HRY, hly, hla, hbu, hbel⟩ := hrel
    have hbelw : Below w.heap.size w wr := Below.trans hb1 (hbel.mono hb1.size)
    by_cases hnil : ys = []
    · subst hnil
      obtain ⟨p, c, rfl, _⟩ := hrd
      have cS := string_any w1.heap.size acc wr hbu (Nat.le_of_lt hbu.lt')
      rw [textN_nil, List.append_nil] at HT
      go_wp2_with (go_at_call 39; (with_reducible refine cS.mono ?_); rintro e w2 ⟨rfl, hb2⟩)
      go_ret2
      exact ⟨by rw [← HT.out]; rfl, Below.trans hbelw (hb2.mono hb1.size)⟩
    · have hp := List.length_pos_iff.2 hnil
      have HRD := hrd
      obtain ⟨pu, cu, rfl, hcu, hcm, hcell⟩ := hrd
      have hf1 := fitN_pos ys hnil
      have hf2 := fitN_le 0 ys
      have hf3 := fitN_16 0 ys (by omega)
      have hin := HRD.in
      have HNil := Lib.hid hnil
      clear hnil hcell
      unfold maxLen at hcm
      generalize wr = W2 at *
      go_wp2_with fail
      go_loopw [6] (fun i wr => ∃ m : Nat, i = .int .i64 m ∧ m ≤ ys.length ∧ m ≤ 16 ∧ Hid (m + fitN m (ys.drop m) = fitN 0 ys) ∧ Below W2.heap.size W2 wr) (fun i _ => ys.length - (intOf i).toNat)
      case atStart => exact ⟨0, rfl, by omega, by omega, by (unfold Hid; simp), Below.refl _ _⟩
      case round =>
        obtain ⟨m, rfl, hm1, hm2, HM, hb2⟩ := hrel
        have hbw := bl_trans hbelw hb2
        by_cases hlt : m < ys.length
        · have hne : ys.drop m ≠ [] := by intro e; have := congrArg List.length e; rw [List.length_drop, List.length_nil] at this; omega
          have hst := fitN_step m (ys.drop m) hne
          have hgp := group_pos (ys.drop m) hne
          have hg5 := group_le (ys.drop m)
          have hpd := List.length_pos_iff.2 hne
          rw [List.length_drop] at hgp
          have HST := Lib.hid hst
          have cG := fun v W (hW : Rd W .i64 v (ys.drop m)) => group_any v (ys.drop m) W hW hpd
          clear hst hne hpd
          generalize hgg : groupN (ys.drop m) = gg at *
          by_cases h16 : 16 < m + gg
          · have HEQ : Hid (m = fitN 0 ys) := by unfold Hid; have h1 := HM.out; have h2 := HST.out; rw [if_pos h16] at h2; omega
            go_wp2_with (first | (refine wpList_part rfl 28 .i64 Tryd.underlying28 Tryd.sizeOf3 (.tmp 25) (some (.tmp 26)) none rfl pu cu ys rfl (HRD.below hbw) m ys.length (.inr rfl) (.inl ⟨rfl, rfl⟩) (by omega) (by omega) ?_; intro v5 hv5 hvb5; rw [List.take_length] at hv5) | (go_at_call 31; (with_reducible refine (cG _ _ hv5).mono ?_); rintro e w3 ⟨rfl, hb3⟩; have hbw3 := bl_trans hbw hb3; have hb23 := bl_trans hb2 hb3) | ((with_reducible (show wpList _ _ _ _ _ _)); refine wpList_make rfl _ _ rfl m rfl rfl (by omega) ?_; intro w4 hown4 hb4; have hT4 := bl_trans hbw3 hb4) | (refine wpList_part rfl 28 .i64 Tryd.underlying28 Tryd.sizeOf3 (.tmp 38) none (some (.tmp 39)) rfl pu cu ys rfl (HRD.below hT4) 0 m (.inl ⟨rfl, rfl⟩) (.inr rfl) (by omega) (by omega) ?_; intro v6 hv6 hvb6; rw [List.drop_zero] at hv6; obtain ⟨b6, o6, k6, hve6, hbl6, hlc6, hcm6, hc6⟩ := cellsN hv6 (by rw [List.length_take]; omega); have e6 : (ys.take m).length = m := (by rw [List.length_take]; omega); rw [e6] at hve6 hlc6 hc6; subst hve6; clear hv6))
            have hb6 : b6 < w.heap.size := hin b6 (by rw [← hvb6]; rfl)
            have hb6T : b6 < w3.heap.size := Nat.lt_of_lt_of_le hb6 hbw3.size
            have hx6 : ∀ W, Below w3.heap.size w3 W → ∀ i, i < m → W.cell? ⟨b6, o6 + i, none⟩ = some (.int .i64 ((ys.take m).getD i 0)) := fun W hW i hi => ((hW.cell (p := ⟨b6, o6 + i, none⟩) hb6T).trans (hb4.cell (p := ⟨b6, o6 + i, none⟩) hb6T).symm).trans (hc6 i hi)
            have HX6 := Lib.hid hx6
            have HNil2 := Lib.hid HNil.out
            have hmp : 1 ≤ m := by omega
            clear hc6 hx6
            go_loopw [42] (fun i wr => ∃ j : Nat, i = .int .i64 j ∧ j ≤ m ∧ Own wr w3.heap.size 3 .i64 (.slice (some ⟨w3.heap.size, 0, none⟩) m m) ((ys.take j).map cut1 ++ List.replicate (m - j) 0) ∧ Below w3.heap.size w3 wr) (fun i _ => m - (intOf i).toNat)
            case atStart => exact ⟨0, rfl, by omega, by simpa using hown4, hb4⟩
            case round =>
              obtain ⟨j, rfl, hj, hown5, hw5⟩ := hrel
              have hll : ((ys.take j).map cut1 ++ List.replicate (m - j) 0).length = m := by rw [List.length_append, List.length_map, List.length_take, List.length_replicate]; omega
              by_cases hjm : j < m
              · have d6 := HX6.out wr hw5 j hjm
                obtain ⟨e1, e2, e3⟩ := hown5.cellAt rfl j (by omega)
                have HSS := Lib.hid (set_step ys m j hjm hm1)
                have HOS := Lib.hid (fun y => hown5.store rfl j (by omega) y)
                have hb6r : b6 < wr.heap.size := Nat.lt_of_lt_of_le hb6T hw5.size
                have hjI : (j : Int) < (m : Int) := by omega
                have HCU : Hid (cut1 ((ys.take m).getD j 0) = max (-1) ((ys.take m).getD j 0)) := Lib.hid rfl
                generalize ((ys.take j).map cut1 ++ List.replicate (m - j) 0)[j] = old at *
                generalize (ys.take m).getD j 0 = x at *
                go_wp2_with fail
                go_roundw
                case rel => exact ⟨j + 1, by go_num, by omega, (by rw [← HSS.out, HCU.out]; exact HOS.out _), hw5.setCell (Nat.le_refl _) _⟩
                case measure => simp [intOf]; omega
              · obtain rfl : j = m := by omega
                rw [Nat.sub_self, List.replicate_zero, List.append_nil] at hown5 hll
                have htl := Pm.textB_len (ys.take j) (right_all _ (right_cut ys HRY.out j).1)
                rw [List.length_take] at htl
                have hg5 : w3.heap.size < wr.heap.size := (hown5.cellAt rfl 0 (by omega)).2.2
                have d0 : wr.cell? ⟨w3.heap.size, 0, none⟩ = some (.int .i64 (cut1 ((ys.take j).getD 0 0))) := by
                  rw [(hown5.cellAt rfl 0 (by omega)).1]
                  congr 2
                  rw [List.getElem_map, List.getD_eq_getElem?_getD, List.getElem?_eq_getElem (by rw [List.length_map] at hll; omega)]
                  rfl
                by_cases hs : j = 1 ∧ (ys.take j).getD 0 0 < 0
                · as_aux_lemma =>
                    have cT : ∀ W, Below wr.heap.size wr W → Calls Tryd.prog 37 #[.slice (some ⟨w3.heap.size, 0, none⟩) j j] W fun e w' => e = .returned (.tuple #[.string ⟨#[]⟩, .int .i64 2]) ∧ Below W.heap.size W w' := fun W hW => Pm.text_no _ ((ys.take j).map cut1) W (hown5.rd.below hW) (invalid_cut _ ⟨by rw [List.length_take]; omega, hs.2⟩)
                    have hzI : cut1 ((ys.take j).getD 0 0) < 0 := by have := hs.2; unfold cut1; omega
                    have hm1I : ((j : Int) == 1) = true := by have := hs.1; rw [beq_iff_eq]; omega
                    have HC : Hid (Pm.textB (ys.take j) = []) := Lib.hid (single_text _ ⟨by rw [List.length_take]; omega, hs.2⟩)
                    have hws : (Lib.byteCells acc).length + ((⟨#[27, 91]⟩ : ByteArray) ++ ⟨#[]⟩ ++ ⟨#[109]⟩).size ≤ 1000000 := by rw [show (Lib.byteCells acc).length = acc.length by simp [Lib.byteCells], ByteArray.size_append, ByteArray.size_append, show (⟨#[27, 91]⟩ : ByteArray).size = 2 from rfl, show (⟨#[109]⟩ : ByteArray).size = 1 from rfl, show (⟨#[]⟩ : ByteArray).size = 0 from rfl]; omega
                    clear hs HNil
                    generalize cut1 ((ys.take j).getD 0 0) = z0 at *
                    generalize hTB : Pm.textB (ys.take j) = tb at *
                    go_wp2_with (first | (go_at_call 37; (with_reducible refine (cT _ ?hbx).mono ?_); rotate_left; rintro e w7 ⟨rfl, hb7⟩; have hw7 := bl_trans hw5 hb7; have d7 := (hb7.cell (p := ⟨w3.heap.size, 0, none⟩) hg5).trans d0; have hg7 : w3.heap.size < w7.heap.size := Nat.lt_of_lt_of_le hg5 hb7.size; have hbu7 := hbu.below (bl_trans hb23 hw7); have hT7 := bl_trans hbw3 hw7) | (go_at_call 38; (with_reducible refine (writeString_any _ _ _ _ hbu7 hws).mono ?_); rintro e w8 ⟨rfl, hbu8, hwr8⟩; have hT8 : Below w.heap.size w w8 := Below.trans hT7 (hwr8.bel.mono hb1.size)) | (refine wpList_part rfl 28 .i64 Tryd.underlying28 Tryd.sizeOf3 (.tmp 73) (some (.tmp 74)) none rfl pu cu ys rfl (HRD.below hT8) j ys.length (.inr rfl) (.inl ⟨rfl, rfl⟩) (by omega) (by omega) ?_; intro v9 hv9 hvb9; rw [List.take_length] at hv9; have hv9x := hv9; obtain ⟨p9, c9, rfl, hx9⟩ := hv9x; clear hx9; rw [List.length_drop] at hv9 hvb9))
                    go_roundw
                    case rel => exact ⟨ys.drop j, acc ++ ([27, 91] ++ tb ++ [109]), hv9.down hT8 (by rw [hvb9]; exact hin), (by unfold Hid; rw [← HT.out, textN_step ys HNil2.out, ← HEQ.out, hTB]; simp), (right_cut ys HRY.out j).2, by rw [List.length_drop]; omega, by rw [List.length_drop]; simp; omega, (by rw [show Lib.byteCells (acc ++ ([27, 91] ++ tb ++ [109])) = Lib.byteCells acc ++ Lib.strCells ((⟨#[27, 91]⟩ : ByteArray) ++ ⟨#[]⟩ ++ ⟨#[109]⟩) by rw [HC.out]; simp [Lib.byteCells, Lib.strCells]]; exact hbu8), Below.trans (Below.trans hbel ((bl_trans hb23 hw7).mono hbel.size)) hwr8.bel⟩
                    case measure => (have hz1 := hmp; have hz2 := hp; simp; omega)
                    case hbx => exact (by repeat (first | with_reducible exact Below.refl _ _ | with_reducible assumption | with_reducible exact GW.grow _ | with_reducible refine bl_alloc ?_ _ | with_reducible refine Below.drewN ?_ _ | with_reducible refine Below.drew ?_ | (with_reducible refine Below.setCell ?_ ?_ _; rotate_left; focus (simp; first | done | omega)) | with_reducible refine bl_trans ?_ (GW.grow _) | (with_reducible refine bl_trans ?_ (by assumption))))
                by_cases h1 : j = 1
                · as_aux_lemma =>
                    have hval := valid_cut (ys.take j) (right_cut ys HRY.out j).1 (by rw [List.length_take]; omega) (fun h => hs ⟨by have := h.1; rw [List.length_take] at this; omega, h.2⟩)
                    have cT : ∀ W, Below wr.heap.size wr W → Calls Tryd.prog 37 #[.slice (some ⟨w3.heap.size, 0, none⟩) j j] W fun e w' => e = .returned (.tuple #[.string ⟨(Pm.textB (ys.take j)).toArray⟩, .int .i64 0]) ∧ Below W.heap.size W w' := fun W hW => by rw [← textB_cut]; exact Pm.text_any _ ((ys.take j).map cut1) W (hown5.rd.below hW) hval (ht.below (bl_trans (bl_trans hbw3 hw5) hW))
                    have hws : (Lib.byteCells acc).length + ((⟨#[27, 91]⟩ : ByteArray) ++ ⟨(Pm.textB (ys.take j)).toArray⟩ ++ ⟨#[109]⟩).size ≤ 1000000 := by rw [show (Lib.byteCells acc).length = acc.length by simp [Lib.byteCells], ByteArray.size_append, ByteArray.size_append, show (⟨#[27, 91]⟩ : ByteArray).size = 2 from rfl, show (⟨#[109]⟩ : ByteArray).size = 1 from rfl, show (⟨(Pm.textB (ys.take j)).toArray⟩ : ByteArray).size = (Pm.textB (ys.take j)).length from by simp [ByteArray.size]]; omega
                    clear hval
                    have hzI : ¬ (cut1 ((ys.take j).getD 0 0) < 0) := by (have h0 : ¬ ((ys.take j).getD 0 0 < 0) := fun h => hs ⟨h1, h⟩); unfold cut1; omega
                    have hm1I : ((j : Int) == 1) = true := by rw [beq_iff_eq]; omega
                    clear h1
                    clear hs HNil
                    generalize cut1 ((ys.take j).getD 0 0) = z0 at *
                    generalize hTB : Pm.textB (ys.take j) = tb at *
                    go_wp2_with (first | (go_at_call 37; (with_reducible refine (cT _ ?hbx).mono ?_); rotate_left; rintro e w7 ⟨rfl, hb7⟩; have hw7 := bl_trans hw5 hb7; have d7 := (hb7.cell (p := ⟨w3.heap.size, 0, none⟩) hg5).trans d0; have hg7 : w3.heap.size < w7.heap.size := Nat.lt_of_lt_of_le hg5 hb7.size; have hbu7 := hbu.below (bl_trans hb23 hw7); have hT7 := bl_trans hbw3 hw7) | (go_at_call 38; (with_reducible refine (writeString_any _ _ _ _ hbu7 hws).mono ?_); rintro e w8 ⟨rfl, hbu8, hwr8⟩; have hT8 : Below w.heap.size w w8 := Below.trans hT7 (hwr8.bel.mono hb1.size)) | (refine wpList_part rfl 28 .i64 Tryd.underlying28 Tryd.sizeOf3 (.tmp 73) (some (.tmp 74)) none rfl pu cu ys rfl (HRD.below hT8) j ys.length (.inr rfl) (.inl ⟨rfl, rfl⟩) (by omega) (by omega) ?_; intro v9 hv9 hvb9; rw [List.take_length] at hv9; have hv9x := hv9; obtain ⟨p9, c9, rfl, hx9⟩ := hv9x; clear hx9; rw [List.length_drop] at hv9 hvb9))
                    go_roundw
                    case rel => exact ⟨ys.drop j, acc ++ ([27, 91] ++ tb ++ [109]), hv9.down hT8 (by rw [hvb9]; exact hin), (by unfold Hid; rw [← HT.out, textN_step ys HNil2.out, ← HEQ.out, hTB]; simp), (right_cut ys HRY.out j).2, by rw [List.length_drop]; omega, by rw [List.length_drop]; simp; omega, (by rw [show Lib.byteCells (acc ++ ([27, 91] ++ tb ++ [109])) = Lib.byteCells acc ++ Lib.strCells ((⟨#[27, 91]⟩ : ByteArray) ++ ⟨tb.toArray⟩ ++ ⟨#[109]⟩) by simp [Lib.byteCells, Lib.strCells]]; exact hbu8), Below.trans (Below.trans hbel ((bl_trans hb23 hw7).mono hbel.size)) hwr8.bel⟩
                    case measure => (have hz1 := hmp; have hz2 := hp; simp; omega)
                    case hbx => exact (by repeat (first | with_reducible exact Below.refl _ _ | with_reducible assumption | with_reducible exact GW.grow _ | with_reducible refine bl_alloc ?_ _ | with_reducible refine Below.drewN ?_ _ | with_reducible refine Below.drew ?_ | (with_reducible refine Below.setCell ?_ ?_ _; rotate_left; focus (simp; first | done | omega)) | with_reducible refine bl_trans ?_ (GW.grow _) | (with_reducible refine bl_trans ?_ (by assumption))))
                · as_aux_lemma =>
                    have hval := valid_cut (ys.take j) (right_cut ys HRY.out j).1 (by rw [List.length_take]; omega) (fun h => hs ⟨by have := h.1; rw [List.length_take] at this; omega, h.2⟩)
                    have cT : ∀ W, Below wr.heap.size wr W → Calls Tryd.prog 37 #[.slice (some ⟨w3.heap.size, 0, none⟩) j j] W fun e w' => e = .returned (.tuple #[.string ⟨(Pm.textB (ys.take j)).toArray⟩, .int .i64 0]) ∧ Below W.heap.size W w' := fun W hW => by rw [← textB_cut]; exact Pm.text_any _ ((ys.take j).map cut1) W (hown5.rd.below hW) hval (ht.below (bl_trans (bl_trans hbw3 hw5) hW))
                    have hws : (Lib.byteCells acc).length + ((⟨#[27, 91]⟩ : ByteArray) ++ ⟨(Pm.textB (ys.take j)).toArray⟩ ++ ⟨#[109]⟩).size ≤ 1000000 := by rw [show (Lib.byteCells acc).length = acc.length by simp [Lib.byteCells], ByteArray.size_append, ByteArray.size_append, show (⟨#[27, 91]⟩ : ByteArray).size = 2 from rfl, show (⟨#[109]⟩ : ByteArray).size = 1 from rfl, show (⟨(Pm.textB (ys.take j)).toArray⟩ : ByteArray).size = (Pm.textB (ys.take j)).length from by simp [ByteArray.size]]; omega
                    clear hval
                    have hm1I : ((j : Int) == 1) = false := by rw [beq_eq_false_iff_ne]; omega
                    clear hs HNil
                    generalize cut1 ((ys.take j).getD 0 0) = z0 at *
                    generalize hTB : Pm.textB (ys.take j) = tb at *
                    go_wp2_with (first | (go_at_call 37; (with_reducible refine (cT _ ?hbx).mono ?_); rotate_left; rintro e w7 ⟨rfl, hb7⟩; have hw7 := bl_trans hw5 hb7; have d7 := (hb7.cell (p := ⟨w3.heap.size, 0, none⟩) hg5).trans d0; have hg7 : w3.heap.size < w7.heap.size := Nat.lt_of_lt_of_le hg5 hb7.size; have hbu7 := hbu.below (bl_trans hb23 hw7); have hT7 := bl_trans hbw3 hw7) | (go_at_call 38; (with_reducible refine (writeString_any _ _ _ _ hbu7 hws).mono ?_); rintro e w8 ⟨rfl, hbu8, hwr8⟩; have hT8 : Below w.heap.size w w8 := Below.trans hT7 (hwr8.bel.mono hb1.size)) | (refine wpList_part rfl 28 .i64 Tryd.underlying28 Tryd.sizeOf3 (.tmp 73) (some (.tmp 74)) none rfl pu cu ys rfl (HRD.below hT8) j ys.length (.inr rfl) (.inl ⟨rfl, rfl⟩) (by omega) (by omega) ?_; intro v9 hv9 hvb9; rw [List.take_length] at hv9; have hv9x := hv9; obtain ⟨p9, c9, rfl, hx9⟩ := hv9x; clear hx9; rw [List.length_drop] at hv9 hvb9))
                    go_roundw
                    case rel => exact ⟨ys.drop j, acc ++ ([27, 91] ++ tb ++ [109]), hv9.down hT8 (by rw [hvb9]; exact hin), (by unfold Hid; rw [← HT.out, textN_step ys HNil2.out, ← HEQ.out, hTB]; simp), (right_cut ys HRY.out j).2, by rw [List.length_drop]; omega, by rw [List.length_drop]; simp; omega, (by rw [show Lib.byteCells (acc ++ ([27, 91] ++ tb ++ [109])) = Lib.byteCells acc ++ Lib.strCells ((⟨#[27, 91]⟩ : ByteArray) ++ ⟨tb.toArray⟩ ++ ⟨#[109]⟩) by simp [Lib.byteCells, Lib.strCells]]; exact hbu8), Below.trans (Below.trans hbel ((bl_trans hb23 hw7).mono hbel.size)) hwr8.bel⟩
                    case measure => (have hz1 := hmp; have hz2 := hp; simp; omega)
                    case hbx => exact (by repeat (first | with_reducible exact Below.refl _ _ | with_reducible assumption | with_reducible exact GW.grow _ | with_reducible refine bl_alloc ?_ _ | with_reducible refine Below.drewN ?_ _ | with_reducible refine Below.drew ?_ | (with_reducible refine Below.setCell ?_ ?_ _; rotate_left; focus (simp; first | done | omega)) | with_reducible refine bl_trans ?_ (GW.grow _) | (with_reducible refine bl_trans ?_ (by assumption))))
          · go_wp2_with (first | (refine wpList_part rfl 28 .i64 Tryd.underlying28 Tryd.sizeOf3 (.tmp 25) (some (.tmp 26)) none rfl pu cu ys rfl (HRD.below hbw) m ys.length (.inr rfl) (.inl ⟨rfl, rfl⟩) (by omega) (by omega) ?_; intro v5 hv5 hvb5; rw [List.take_length] at hv5) | (go_at_call 31; (with_reducible refine (cG _ _ hv5).mono ?_); rintro e w3 ⟨rfl, hb3⟩; have hbw3 := bl_trans hbw hb3))
            go_roundw
            case rel => exact ⟨m + gg, by go_num, by omega, by omega, (by unfold Hid; have h1 := HM.out; have h2 := HST.out; rw [if_neg h16, List.drop_drop] at h2; omega), bl_trans hb2 hb3⟩
            case measure => simp [intOf]; omega
        · have HEQ : Hid (m = fitN 0 ys) := by unfold Hid; have h1 := HM.out; rw [show ys.drop m = [] from List.drop_eq_nil_iff.2 (by omega), fitN_nil] at h1; omega
          generalize wr = WT at *
          go_wp2_with (first | ((with_reducible (show wpList _ _ _ _ _ _)); refine wpList_make rfl _ _ rfl m rfl rfl (by omega) ?_; intro w4 hown4 hb4; have hT4 := bl_trans hbw hb4) | (refine wpList_part rfl 28 .i64 Tryd.underlying28 Tryd.sizeOf3 (.tmp 38) none (some (.tmp 39)) rfl pu cu ys rfl (HRD.below hT4) 0 m (.inl ⟨rfl, rfl⟩) (.inr rfl) (by omega) (by omega) ?_; intro v6 hv6 hvb6; rw [List.drop_zero] at hv6; obtain ⟨b6, o6, k6, hve6, hbl6, hlc6, hcm6, hc6⟩ := cellsN hv6 (by rw [List.length_take]; omega); have e6 : (ys.take m).length = m := (by rw [List.length_take]; omega); rw [e6] at hve6 hlc6 hc6; subst hve6; clear hv6))
          have hb6 : b6 < w.heap.size := hin b6 (by rw [← hvb6]; rfl)
          have hb6T : b6 < WT.heap.size := Nat.lt_of_lt_of_le hb6 hbw.size
          have hx6 : ∀ W, Below WT.heap.size WT W → ∀ i, i < m → W.cell? ⟨b6, o6 + i, none⟩ = some (.int .i64 ((ys.take m).getD i 0)) := fun W hW i hi => ((hW.cell (p := ⟨b6, o6 + i, none⟩) hb6T).trans (hb4.cell (p := ⟨b6, o6 + i, none⟩) hb6T).symm).trans (hc6 i hi)
          have HX6 := Lib.hid hx6
          have HNil2 := Lib.hid HNil.out
          have hmp : 1 ≤ m := by omega
          clear hc6 hx6
          go_loopw [42] (fun i wr => ∃ j : Nat, i = .int .i64 j ∧ j ≤ m ∧ Own wr WT.heap.size 3 .i64 (.slice (some ⟨WT.heap.size, 0, none⟩) m m) ((ys.take j).map cut1 ++ List.replicate (m - j) 0) ∧ Below WT.heap.size WT wr) (fun i _ => m - (intOf i).toNat)
          case atStart => exact ⟨0, rfl, by omega, by simpa using hown4, hb4⟩
          case round =>
            obtain ⟨j, rfl, hj, hown5, hw5⟩ := hrel
            have hll : ((ys.take j).map cut1 ++ List.replicate (m - j) 0).length = m := by rw [List.length_append, List.length_map, List.length_take, List.length_replicate]; omega
            by_cases hjm : j < m
            · have d6 := HX6.out wr hw5 j hjm
              obtain ⟨e1, e2, e3⟩ := hown5.cellAt rfl j (by omega)
              have HSS := Lib.hid (set_step ys m j hjm hm1)
              have HOS := Lib.hid (fun y => hown5.store rfl j (by omega) y)
              have hb6r : b6 < wr.heap.size := Nat.lt_of_lt_of_le hb6T hw5.size
              have hjI : (j : Int) < (m : Int) := by omega
              have HCU : Hid (cut1 ((ys.take m).getD j 0) = max (-1) ((ys.take m).getD j 0)) := Lib.hid rfl
              generalize ((ys.take j).map cut1 ++ List.replicate (m - j) 0)[j] = old at *
              generalize (ys.take m).getD j 0 = x at *
              go_wp2_with fail
              go_roundw
              case rel => exact ⟨j + 1, by go_num, by omega, (by rw [← HSS.out, HCU.out]; exact HOS.out _), hw5.setCell (Nat.le_refl _) _⟩
              case measure => simp [intOf]; omega
            · obtain rfl : j = m := by omega
              rw [Nat.sub_self, List.replicate_zero, List.append_nil] at hown5 hll
              have htl := Pm.textB_len (ys.take j) (right_all _ (right_cut ys HRY.out j).1)
              rw [List.length_take] at htl
              have hg5 : WT.heap.size < wr.heap.size := (hown5.cellAt rfl 0 (by omega)).2.2
              have d0 : wr.cell? ⟨WT.heap.size, 0, none⟩ = some (.int .i64 (cut1 ((ys.take j).getD 0 0))) := by
                rw [(hown5.cellAt rfl 0 (by omega)).1]
                congr 2
                rw [List.getElem_map, List.getD_eq_getElem?_getD, List.getElem?_eq_getElem (by rw [List.length_map] at hll; omega)]
                rfl
              by_cases hs : j = 1 ∧ (ys.take j).getD 0 0 < 0
              · as_aux_lemma =>
                  have cT : ∀ W, Below wr.heap.size wr W → Calls Tryd.prog 37 #[.slice (some ⟨WT.heap.size, 0, none⟩) j j] W fun e w' => e = .returned (.tuple #[.string ⟨#[]⟩, .int .i64 2]) ∧ Below W.heap.size W w' := fun W hW => Pm.text_no _ ((ys.take j).map cut1) W (hown5.rd.below hW) (invalid_cut _ ⟨by rw [List.length_take]; omega, hs.2⟩)
                  have hzI : cut1 ((ys.take j).getD 0 0) < 0 := by have := hs.2; unfold cut1; omega
                  have hm1I : ((j : Int) == 1) = true := by have := hs.1; rw [beq_iff_eq]; omega
                  have HC : Hid (Pm.textB (ys.take j) = []) := Lib.hid (single_text _ ⟨by rw [List.length_take]; omega, hs.2⟩)
                  have hws : (Lib.byteCells acc).length + ((⟨#[27, 91]⟩ : ByteArray) ++ ⟨#[]⟩ ++ ⟨#[109]⟩).size ≤ 1000000 := by rw [show (Lib.byteCells acc).length = acc.length by simp [Lib.byteCells], ByteArray.size_append, ByteArray.size_append, show (⟨#[27, 91]⟩ : ByteArray).size = 2 from rfl, show (⟨#[109]⟩ : ByteArray).size = 1 from rfl, show (⟨#[]⟩ : ByteArray).size = 0 from rfl]; omega
                  clear hs HNil
                  generalize cut1 ((ys.take j).getD 0 0) = z0 at *
                  generalize hTB : Pm.textB (ys.take j) = tb at *
                  go_wp2_with (first | (go_at_call 37; (with_reducible refine (cT _ ?hbx).mono ?_); rotate_left; rintro e w7 ⟨rfl, hb7⟩; have hw7 := bl_trans hw5 hb7; have d7 := (hb7.cell (p := ⟨WT.heap.size, 0, none⟩) hg5).trans d0; have hg7 : WT.heap.size < w7.heap.size := Nat.lt_of_lt_of_le hg5 hb7.size; have hbu7 := hbu.below (bl_trans hb2 hw7); have hT7 := bl_trans hbw hw7) | (go_at_call 38; (with_reducible refine (writeString_any _ _ _ _ hbu7 hws).mono ?_); rintro e w8 ⟨rfl, hbu8, hwr8⟩; have hT8 : Below w.heap.size w w8 := Below.trans hT7 (hwr8.bel.mono hb1.size)) | (refine wpList_part rfl 28 .i64 Tryd.underlying28 Tryd.sizeOf3 (.tmp 73) (some (.tmp 74)) none rfl pu cu ys rfl (HRD.below hT8) j ys.length (.inr rfl) (.inl ⟨rfl, rfl⟩) (by omega) (by omega) ?_; intro v9 hv9 hvb9; rw [List.take_length] at hv9; have hv9x := hv9; obtain ⟨p9, c9, rfl, hx9⟩ := hv9x; clear hx9; rw [List.length_drop] at hv9 hvb9))
                  go_roundw
                  case rel => exact ⟨ys.drop j, acc ++ ([27, 91] ++ tb ++ [109]), hv9.down hT8 (by rw [hvb9]; exact hin), (by unfold Hid; rw [← HT.out, textN_step ys HNil2.out, ← HEQ.out, hTB]; simp), (right_cut ys HRY.out j).2, by rw [List.length_drop]; omega, by rw [List.length_drop]; simp; omega, (by rw [show Lib.byteCells (acc ++ ([27, 91] ++ tb ++ [109])) = Lib.byteCells acc ++ Lib.strCells ((⟨#[27, 91]⟩ : ByteArray) ++ ⟨#[]⟩ ++ ⟨#[109]⟩) by rw [HC.out]; simp [Lib.byteCells, Lib.strCells]]; exact hbu8), Below.trans (Below.trans hbel ((bl_trans hb2 hw7).mono hbel.size)) hwr8.bel⟩
                  case measure => (have hz1 := hmp; have hz2 := hp; simp; omega)
                  case hbx => exact (by repeat (first | with_reducible exact Below.refl _ _ | with_reducible assumption | with_reducible exact GW.grow _ | with_reducible refine bl_alloc ?_ _ | with_reducible refine Below.drewN ?_ _ | with_reducible refine Below.drew ?_ | (with_reducible refine Below.setCell ?_ ?_ _; rotate_left; focus (simp; first | done | omega)) | with_reducible refine bl_trans ?_ (GW.grow _) | (with_reducible refine bl_trans ?_ (by assumption))))
              by_cases h1 : j = 1
              · as_aux_lemma =>
                  have hval := valid_cut (ys.take j) (right_cut ys HRY.out j).1 (by rw [List.length_take]; omega) (fun h => hs ⟨by have := h.1; rw [List.length_take] at this; omega, h.2⟩)
                  have cT : ∀ W, Below wr.heap.size wr W → Calls Tryd.prog 37 #[.slice (some ⟨WT.heap.size, 0, none⟩) j j] W fun e w' => e = .returned (.tuple #[.string ⟨(Pm.textB (ys.take j)).toArray⟩, .int .i64 0]) ∧ Below W.heap.size W w' := fun W hW => by rw [← textB_cut]; exact Pm.text_any _ ((ys.take j).map cut1) W (hown5.rd.below hW) hval (ht.below (bl_trans (bl_trans hbw hw5) hW))
                  have hws : (Lib.byteCells acc).length + ((⟨#[27, 91]⟩ : ByteArray) ++ ⟨(Pm.textB (ys.take j)).toArray⟩ ++ ⟨#[109]⟩).size ≤ 1000000 := by rw [show (Lib.byteCells acc).length = acc.length by simp [Lib.byteCells], ByteArray.size_append, ByteArray.size_append, show (⟨#[27, 91]⟩ : ByteArray).size = 2 from rfl, show (⟨#[109]⟩ : ByteArray).size = 1 from rfl, show (⟨(Pm.textB (ys.take j)).toArray⟩ : ByteArray).size = (Pm.textB (ys.take j)).length from by simp [ByteArray.size]]; omega
                  clear hval
                  have hzI : ¬ (cut1 ((ys.take j).getD 0 0) < 0) := by (have h0 : ¬ ((ys.take j).getD 0 0 < 0) := fun h => hs ⟨h1, h⟩); unfold cut1; omega
                  have hm1I : ((j : Int) == 1) = true := by rw [beq_iff_eq]; omega
                  clear h1
                  clear hs HNil
                  generalize cut1 ((ys.take j).getD 0 0) = z0 at *
                  generalize hTB : Pm.textB (ys.take j) = tb at *
                  go_wp2_with (first | (go_at_call 37; (with_reducible refine (cT _ ?hbx).mono ?_); rotate_left; rintro e w7 ⟨rfl, hb7⟩; have hw7 := bl_trans hw5 hb7; have d7 := (hb7.cell (p := ⟨WT.heap.size, 0, none⟩) hg5).trans d0; have hg7 : WT.heap.size < w7.heap.size := Nat.lt_of_lt_of_le hg5 hb7.size; have hbu7 := hbu.below (bl_trans hb2 hw7); have hT7 := bl_trans hbw hw7) | (go_at_call 38; (with_reducible refine (writeString_any _ _ _ _ hbu7 hws).mono ?_); rintro e w8 ⟨rfl, hbu8, hwr8⟩; have hT8 : Below w.heap.size w w8 := Below.trans hT7 (hwr8.bel.mono hb1.size)) | (refine wpList_part rfl 28 .i64 Tryd.underlying28 Tryd.sizeOf3 (.tmp 73) (some (.tmp 74)) none rfl pu cu ys rfl (HRD.below hT8) j ys.length (.inr rfl) (.inl ⟨rfl, rfl⟩) (by omega) (by omega) ?_; intro v9 hv9 hvb9; rw [List.take_length] at hv9; have hv9x := hv9; obtain ⟨p9, c9, rfl, hx9⟩ := hv9x; clear hx9; rw [List.length_drop] at hv9 hvb9))
                  go_roundw
                  case rel => exact ⟨ys.drop j, acc ++ ([27, 91] ++ tb ++ [109]), hv9.down hT8 (by rw [hvb9]; exact hin), (by unfold Hid; rw [← HT.out, textN_step ys HNil2.out, ← HEQ.out, hTB]; simp), (right_cut ys HRY.out j).2, by rw [List.length_drop]; omega, by rw [List.length_drop]; simp; omega, (by rw [show Lib.byteCells (acc ++ ([27, 91] ++ tb ++ [109])) = Lib.byteCells acc ++ Lib.strCells ((⟨#[27, 91]⟩ : ByteArray) ++ ⟨tb.toArray⟩ ++ ⟨#[109]⟩) by simp [Lib.byteCells, Lib.strCells]]; exact hbu8), Below.trans (Below.trans hbel ((bl_trans hb2 hw7).mono hbel.size)) hwr8.bel⟩
                  case measure => (have hz1 := hmp; have hz2 := hp; simp; omega)
                  case hbx => exact (by repeat (first | with_reducible exact Below.refl _ _ | with_reducible assumption | with_reducible exact GW.grow _ | with_reducible refine bl_alloc ?_ _ | with_reducible refine Below.drewN ?_ _ | with_reducible refine Below.drew ?_ | (with_reducible refine Below.setCell ?_ ?_ _; rotate_left; focus (simp; first | done | omega)) | with_reducible refine bl_trans ?_ (GW.grow _) | (with_reducible refine bl_trans ?_ (by assumption))))
              · as_aux_lemma =>
                  have hval := valid_cut (ys.take j) (right_cut ys HRY.out j).1 (by rw [List.length_take]; omega) (fun h => hs ⟨by have := h.1; rw [List.length_take] at this; omega, h.2⟩)
                  have cT : ∀ W, Below wr.heap.size wr W → Calls Tryd.prog 37 #[.slice (some ⟨WT.heap.size, 0, none⟩) j j] W fun e w' => e = .returned (.tuple #[.string ⟨(Pm.textB (ys.take j)).toArray⟩, .int .i64 0]) ∧ Below W.heap.size W w' := fun W hW => by rw [← textB_cut]; exact Pm.text_any _ ((ys.take j).map cut1) W (hown5.rd.below hW) hval (ht.below (bl_trans (bl_trans hbw hw5) hW))
                  have hws : (Lib.byteCells acc).length + ((⟨#[27, 91]⟩ : ByteArray) ++ ⟨(Pm.textB (ys.take j)).toArray⟩ ++ ⟨#[109]⟩).size ≤ 1000000 := by rw [show (Lib.byteCells acc).length = acc.length by simp [Lib.byteCells], ByteArray.size_append, ByteArray.size_append, show (⟨#[27, 91]⟩ : ByteArray).size = 2 from rfl, show (⟨#[109]⟩ : ByteArray).size = 1 from rfl, show (⟨(Pm.textB (ys.take j)).toArray⟩ : ByteArray).size = (Pm.textB (ys.take j)).length from by simp [ByteArray.size]]; omega
                  clear hval
                  have hm1I : ((j : Int) == 1) = false := by rw [beq_eq_false_iff_ne]; omega
                  clear hs HNil
                  generalize cut1 ((ys.take j).getD 0 0) = z0 at *
                  generalize hTB : Pm.textB (ys.take j) = tb at *
                  go_wp2_with (first | (go_at_call 37; (with_reducible refine (cT _ ?hbx).mono ?_); rotate_left; rintro e w7 ⟨rfl, hb7⟩; have hw7 := bl_trans hw5 hb7; have d7 := (hb7.cell (p := ⟨WT.heap.size, 0, none⟩) hg5).trans d0; have hg7 : WT.heap.size < w7.heap.size := Nat.lt_of_lt_of_le hg5 hb7.size; have hbu7 := hbu.below (bl_trans hb2 hw7); have hT7 := bl_trans hbw hw7) | (go_at_call 38; (with_reducible refine (writeString_any _ _ _ _ hbu7 hws).mono ?_); rintro e w8 ⟨rfl, hbu8, hwr8⟩; have hT8 : Below w.heap.size w w8 := Below.trans hT7 (hwr8.bel.mono hb1.size)) | (refine wpList_part rfl 28 .i64 Tryd.underlying28 Tryd.sizeOf3 (.tmp 73) (some (.tmp 74)) none rfl pu cu ys rfl (HRD.below hT8) j ys.length (.inr rfl) (.inl ⟨rfl, rfl⟩) (by omega) (by omega) ?_; intro v9 hv9 hvb9; rw [List.take_length] at hv9; have hv9x := hv9; obtain ⟨p9, c9, rfl, hx9⟩ := hv9x; clear hx9; rw [List.length_drop] at hv9 hvb9))
                  go_roundw
                  case rel => exact ⟨ys.drop j, acc ++ ([27, 91] ++ tb ++ [109]), hv9.down hT8 (by rw [hvb9]; exact hin), (by unfold Hid; rw [← HT.out, textN_step ys HNil2.out, ← HEQ.out, hTB]; simp), (right_cut ys HRY.out j).2, by rw [List.length_drop]; omega, by rw [List.length_drop]; simp; omega, (by rw [show Lib.byteCells (acc ++ ([27, 91] ++ tb ++ [109])) = Lib.byteCells acc ++ Lib.strCells ((⟨#[27, 91]⟩ : ByteArray) ++ ⟨tb.toArray⟩ ++ ⟨#[109]⟩) by simp [Lib.byteCells, Lib.strCells]]; exact hbu8), Below.trans (Below.trans hbel ((bl_trans hb2 hw7).mono hbel.size)) hwr8.bel⟩
                  case measure => (have hz1 := hmp; have hz2 := hp; simp; omega)
                  case hbx => exact (by repeat (first | with_reducible exact Below.refl _ _ | with_reducible assumption | with_reducible exact GW.grow _ | with_reducible refine bl_alloc ?_ _ | with_reducible refine Below.drewN ?_ _ | with_reducible refine Below.drew ?_ | (with_reducible refine Below.setCell ?_ ?_ _; rotate_left; focus (simp; first | done | omega)) | with_reducible refine bl_trans ?_ (GW.grow _) | (with_reducible refine bl_trans ?_ (by assumption))))

end Go.Proofs.YtdoeiaekimbecaaDoor
