/- pointer: PointerHolds returns true for every input. No condition. -/
import Derived.Test.YtfhigmogcpocpaaDoorQ
import Derived.Test.YtfhigmogcpocpaaDoorCards
import Derived.Test.YtfhigmogcpocpaaDoorTie
import Derived.SevenTiedAt
import Derived.Test.YtfhigmogcpocpaaDoorLate3
import Derived.Outline
set_option linter.unusedSimpArgs false
set_option linter.unusedVariables false
set_option linter.unnecessarySimpa false
namespace Go.Proofs.YtfhigmogcpocpaaDoor
open Go.ChangeShapes Go.WideShapes Go.ChangeAt Go.RowKit

/-- What the four pointers share. -/
structure Sh where
  h1 : Bool
  h2 : Bool
  h3 : Bool
  a0 : Int
  a1 : Int
  t : Bool
def ptk (x : Bool) (j : Int) (q : Sh) : Pt := ⟨j, x, q.h1, q.h2, q.h3, q.a0, q.a1, q.t⟩
def nxt (q : Sh) (k b r c : Int) : Sh := ⟨heldAt q.h1 1 k b, heldAt q.h2 2 k b, heldAt q.h3 3 k b, r, c, true⟩
theorem after_ptk (x : Bool) (j : Int) (q : Sh) (k b r c : Int) : afterP (ptk x j q) k b r c = ptk x j (nxt q k b r c) := rfl
theorem after_move (x : Bool) (j : Int) (q : Sh) (k b r c : Int) : afterP (ptk x j (nxt q k b r c)) 3 0 r c = ptk x j (nxt q k b r c) := by
  simp [afterP, ptk, nxt, heldAt]
theorem move_none (x : Bool) (j : Int) (q : Sh) (k b r c : Int) : doS (ptk x j (nxt q k b r c)) 3 0 r c false false false = ⟨#[]⟩ := by
  have e : codeN (ptk x j (nxt q k b r c)) 3 0 r c = (0, false) := by simp [codeN, moveN, ptk, nxt]
  unfold doS
  rw [e]; rfl
/-- The code does not hang on the mode. -/
theorem code_same (x : Bool) (i j : Int) (q : Sh) (k b r c : Int) (hi : 0 ≤ i) (hij : i ≤ j) (hj : j ≤ 3) (h : (codeN (ptk x i q) k b r c).2 = true) : codeN (ptk x j q) k b r c = codeN (ptk x i q) k b r c := by
  have key : (decide (i = 0) = false → decide (j = 0) = false) ∧ (decide (2 ≤ i) = true → decide (2 ≤ j) = true) ∧ (decide (i = 3) = true → decide (j = 3) = true) := by
    refine ⟨fun h => ?_, fun h => ?_, fun h => ?_⟩ <;> simp_all <;> omega
  obtain ⟨g1, g2, g3⟩ := key
  have e1 : hasB (ptk x j q) b = hasB (ptk x i q) b := rfl
  unfold codeN at h ⊢
  rw [e1]
  have em : moveN (ptk x i q) r c = if q.t = true ∧ q.a0 = r ∧ q.a1 = c then (0, false) else if q.h1 = true then (32, decide (2 ≤ i)) else if q.h2 = true then (33, decide (2 ≤ i)) else if q.h3 = true then (34, decide (2 ≤ i)) else (35, decide (i = 3)) := rfl
  have em' : moveN (ptk x j q) r c = if q.t = true ∧ q.a0 = r ∧ q.a1 = c then (0, false) else if q.h1 = true then (32, decide (2 ≤ j)) else if q.h2 = true then (33, decide (2 ≤ j)) else if q.h3 = true then (34, decide (2 ≤ j)) else (35, decide (j = 3)) := rfl
  have m1 : (ptk x i q).mode = i := rfl
  have m2 : (ptk x j q).mode = j := rfl
  rw [em] at h ⊢
  rw [em']
  rw [m1] at h ⊢
  rw [m2]
  split at h
  · rename_i hk
    simp only [hk, if_true] at h ⊢
    simp only [Bool.and_eq_true, Bool.not_eq_true'] at h
    rw [h.1, g1 h.1]
  · rename_i hk1
    rw [if_neg hk1, if_neg hk1]
    split at h
    · rename_i hk
      rw [if_pos hk, if_pos hk]
      simp only [Bool.and_eq_true, Bool.not_eq_true'] at h
      rw [h.1, g1 h.1]
    · rename_i hk2
      rw [if_neg hk2, if_neg hk2]
      split at h
      · rename_i hk
        rw [if_pos hk, if_pos hk]
        simp only [Bool.not_eq_true'] at h
        rw [h, g1 h]
      · rename_i hk3
        rw [if_neg hk3, if_neg hk3]
        split at h
        · rename_i hk
          rw [if_pos hk, if_pos hk]
          simp only [Bool.not_eq_true'] at h
          rw [h, g1 h]
        · rename_i hk4
          rw [if_neg hk4, if_neg hk4]
          split at h
          · cases h
          · rename_i hk5
            rw [if_neg hk5, if_neg hk5]
            split at h
            · rename_i hk
              rw [if_pos hk, if_pos hk]
              simp only at h
              rw [h, g2 h]
            · rename_i hk6
              rw [if_neg hk6, if_neg hk6]
              split at h
              · rename_i hk
                rw [if_pos hk, if_pos hk]
                simp only at h
                rw [h, g2 h]
              · rename_i hk7
                rw [if_neg hk7, if_neg hk7]
                split at h
                · rename_i hk
                  rw [if_pos hk, if_pos hk]
                  simp only at h
                  rw [h, g2 h]
                · rename_i hk8
                  rw [if_neg hk8, if_neg hk8]
                  simp only at h
                  rw [h, g3 h]
theorem do_same (x : Bool) (i j : Int) (q : Sh) (k b r c : Int) (sh al ct : Bool) (hi : 0 ≤ i) (hij : i ≤ j) (hj : j ≤ 3) (h : doS (ptk x i q) k b r c sh al ct ≠ ⟨#[]⟩) : doS (ptk x j q) k b r c sh al ct = doS (ptk x i q) k b r c sh al ct := by
  have h1 : (codeN (ptk x i q) k b r c).2 = true := by
    cases h2 : (codeN (ptk x i q) k b r c).2
    · exact absurd (by unfold doS; rw [h2]; rfl) h
    · rfl
  have e := code_same x i j q k b r c hi hij hj h1
  unfold doS
  rw [e]; rfl
theorem do_zero (x : Bool) (q : Sh) (k b r c : Int) (sh al ct : Bool) : doS (ptk x 0 q) k b r c sh al ct = ⟨#[]⟩ := by
  have h1 : (codeN (ptk x 0 q) k b r c).2 = false := by
    unfold codeN moveN ptk
    repeat' split
    all_goals simp
  unfold doS
  rw [h1]; rfl
theorem size_pos {s : ByteArray} (h : s ≠ ⟨#[]⟩) : 0 < s.size := by
  rcases Nat.eq_zero_or_pos s.size with h0 | h0
  · refine absurd ?_ h
    apply ByteArray.ext
    exact Array.eq_empty_of_size_eq_zero h0
  · exact h0
theorem long_ne (code r c : Int) (z : ByteArray) : longS code r c z ≠ ⟨#[]⟩ := by
  intro h
  have := congrArg ByteArray.size h
  unfold longS at this
  simp only [ByteArray.size_append, sz3] at this
  have h0 : (⟨#[]⟩ : ByteArray).size = 0 := rfl
  omega
/-- An exact pointer sends what counts. -/
theorem do_exact (j : Int) (q : Sh) (k b r c : Int) (sh al ct : Bool) : doS (ptk true j q) k b r c sh al ct ≠ ⟨#[]⟩ ↔ (codeN (ptk true j q) k b r c).2 = true := by
  constructor
  · intro h
    cases h2 : (codeN (ptk true j q) k b r c).2
    · exact absurd (by unfold doS; rw [h2]; rfl) h
    · rfl
  · intro h
    unfold doS
    rw [if_pos h]
    show (if k = 2 then longS _ r c _ else longS _ r c _) ≠ _
    split
    · exact long_ne _ _ _ _
    · exact long_ne _ _ _ _
/-- How many presses more than releases of a button have been sent, when the first n pointers have had their event. -/
def cntN (q : Sh) (k b : Int) (i : Int) (h : Bool) (n : Nat) : Int := (if h then 3 else 0) + (if k = 1 ∧ b = i ∧ h = false then ((n - 1 : Nat) : Int) else 0) - (if k = 2 ∧ b = i ∧ h = true then ((n - 1 : Nat) : Int) else 0)
theorem cnt_zero (q : Sh) (k b i : Int) (h : Bool) : cntN q k b i h 0 = if h then 3 else 0 := by cases h <;> simp [cntN]
theorem cnt_one (q : Sh) (k b i : Int) (h : Bool) : cntN q k b i h 1 = if h then 3 else 0 := by cases h <;> simp [cntN]
theorem cnt_four (q : Sh) (k b i : Int) (h : Bool) : cntN q k b i h 4 = if heldAt h i k b then 3 else 0 := by
  unfold cntN heldAt
  cases h <;> by_cases h1 : k = 1 <;> by_cases h2 : k = 2 <;> by_cases h3 : b = i <;> simp_all

theorem cnt_step (j : Nat) (hj : j < 4) (q : Sh) (k b r c : Int) (sh al ct : Bool) (i : Int) (h : Bool) (hi : hasB (ptk true j q) i = h) (h13 : i = 1 ∨ i = 2 ∨ i = 3) (O : ByteArray) (hO : doS (ptk true j q) k b r c sh al ct = O) :
    cntN q k b i h (j + 1) = cntN q k b i h j + (if O ≠ ⟨#[]⟩ ∧ k = 1 ∧ b = i then 1 else 0) - (if O ≠ ⟨#[]⟩ ∧ k = 2 ∧ b = i then 1 else 0) := by
  have hx := do_exact (j : Int) q k b r c sh al ct
  rw [hO] at hx
  unfold cntN
  by_cases h1 : k = 1
  · subst h1
    by_cases h2 : b = i
    · subst h2
      have e : codeN (ptk true j q) 1 b r c = (b - 1, !decide ((j : Int) = 0) && !h) := by rw [← hi]; rfl
      rw [e] at hx
      simp only at hx
      cases h
      · by_cases hj0 : j = 0
        · subst hj0; simp at hx ⊢; simp [hx]
        · have : O ≠ ⟨#[]⟩ := hx.2 (by simp; omega)
          simp [this]; omega
      · simp at hx; simp [hx]
    · simp [h2]
  · by_cases h3 : k = 2
    · subst h3
      by_cases h2 : b = i
      · subst h2
        have e : codeN (ptk true j q) 2 b r c = (b - 1, !decide ((j : Int) = 0) && h) := by rw [← hi]; rfl
        rw [e] at hx
        simp only at hx
        cases h
        · simp at hx; simp [hx]
        · by_cases hj0 : j = 0
          · subst hj0; simp at hx ⊢; simp [hx]
          · have : O ≠ ⟨#[]⟩ := hx.2 (by simp; omega)
            simp [this]; omega
      · simp [h2]
    · simp [h1, h3]
theorem cnt_range (q : Sh) (k b i : Int) (h : Bool) (n : Nat) (hn : n ≤ 4) : 0 ≤ cntN q k b i h n ∧ cntN q k b i h n ≤ 6 := by
  unfold cntN
  cases h <;> by_cases h1 : k = 1 <;> by_cases h2 : k = 2 <;> by_cases h3 : b = i <;> simp_all <;> omega
/-- An event that came in. -/
structure Ev7 where
  k : Int
  b : Int
  r : Int
  c : Int
  sh : Bool
  al : Bool
  ct : Bool
def EvAt (W : World) (b off i : Nat) (x : Ev7) : Prop := W.cell? ⟨b, off + i * 7, none⟩ = some (.int .i64 x.k) ∧ W.cell? ⟨b, off + i * 7 + 1, none⟩ = some (.int .i64 x.b) ∧ W.cell? ⟨b, off + i * 7 + 2, none⟩ = some (.int .i64 x.r) ∧ W.cell? ⟨b, off + i * 7 + 3, none⟩ = some (.int .i64 x.c) ∧ W.cell? ⟨b, off + i * 7 + 4, none⟩ = some (.bool x.sh) ∧ W.cell? ⟨b, off + i * 7 + 5, none⟩ = some (.bool x.al) ∧ W.cell? ⟨b, off + i * 7 + 6, none⟩ = some (.bool x.ct)
theorem EvAt.block {W W' : World} {b off i : Nat} {x : Ev7} (h : EvAt W b off i x) (hb : W'.heap[b]? = W.heap[b]?) : EvAt W' b off i x := by
  obtain ⟨h0, h1, h2, h3, h4, h5, h6⟩ := h
  have e : ∀ o, W'.cell? ⟨b, o, none⟩ = W.cell? ⟨b, o, none⟩ := fun o => World.cell?_of_block hb
  exact ⟨(e _).trans h0, (e _).trans h1, (e _).trans h2, (e _).trans h3, (e _).trans h4, (e _).trans h5, (e _).trans h6⟩
theorem spot_none {W : World} {a : Addr} {v : Value} (h : W.cell? (a.add 0) = some v) : a.spot = none ∧ a.block < W.heap.size := by
  have e : a.add 0 = a := by simp [Addr.add]
  rw [e] at h
  obtain ⟨_, _, _, _, h2⟩ := World.shape?_of_cell? h
  exact ⟨h2, World.block_lt_of_cell? W _ h⟩
theorem open_events {H : Type} {enc : TypeId × Value → H} {W : World} {b0 : Nat} {r : Reach} {v : Value} {d : DataW H} {p : List MemPlace} (hv : Value.okWide Tryd.prog W r b0 42 v) (h : DataW.Trod enc Tryd.prog W 0 (fun _ => true) true 42 v d p) :
    ∃ (len : Nat) (q : Option Addr) (cap : Nat), v = .slice q len cap ∧ ∀ i, i < len → ∃ b off x, q = some ⟨b, off, none⟩ ∧ b < W.heap.size ∧ EvAt W b off i x := by
  obtain ⟨fuel, hf⟩ := h
  obtain ⟨qv, lv, cv, rfl⟩ := okWide_slice Tryd.underlying42 hv
  refine ⟨lv, qv, cv, rfl, ?_⟩
  have hone : (Value.slice qv lv cv).cells.toList = [Value.slice qv lv cv] := rfl
  rw [hone] at hf
  rcases DataW.trod_slice Tryd.underlying42 hf with ⟨h0, _⟩ | ⟨a, len, cap, elems, rest, n, _, h1, _, _, hl, hm, hlen, hel, _, _⟩
  · cases h0; intro i hi; omega
  · cases h1
    intro i hi
    have hi2 : i < elems.length := by omega
    have h2 := hel i hi
    rw [List.getElem?_eq_getElem hi2, cellsEv, Option.bind_eq_some_iff] at h2
    obtain ⟨cs, hcs, hy⟩ := h2
    obtain ⟨hlt7, hlen7, hcell⟩ := World.cells?_some hcs
    obtain ⟨k, b, r, c, sh, al, ct, rfl, _⟩ := ev_cells hlen7 hy
    have h3 := hel 0 (by omega)
    have hi3 : 0 < elems.length := by omega
    rw [List.getElem?_eq_getElem hi3, cellsEv, Option.bind_eq_some_iff] at h3
    obtain ⟨cs0, hcs0, hy0⟩ := h3
    obtain ⟨_, hlen0, hcell0⟩ := World.cells?_some hcs0
    have k00 := hcell0 0 (by omega)
    obtain ⟨v0, hv0⟩ : ∃ v0, cs0[0]? = some v0 := Option.isSome_iff_exists.1 (by simp [hlen0])
    rw [hv0, Nat.zero_mul] at k00
    have e00 : (a.add 0).add 0 = a.add 0 := by simp [Addr.add]
    rw [e00] at k00
    obtain ⟨q1, q2⟩ := spot_none k00
    obtain ⟨bl, off, spot⟩ := a
    simp only at q1 q2
    subst q1
    have ad : ∀ j, ((⟨bl, off, none⟩ : Addr).add (i * 7)).add j = ⟨bl, off + i * 7 + j, none⟩ := fun j => by rw [Addr.add_lit, Addr.add_lit]
    have g : ∀ j, j < 7 → W.cell? ⟨bl, off + i * 7 + j, none⟩ = [Value.int .i64 k, .int .i64 b, .int .i64 r, .int .i64 c, .bool sh, .bool al, .bool ct][j]? := fun j hj => by
      have := hcell j hj
      rwa [ad] at this
    exact ⟨bl, off, ⟨k, b, r, c, sh, al, ct⟩, rfl, q2, g 0 (by omega), g 1 (by omega), g 2 (by omega), g 3 (by omega), g 4 (by omega), g 5 (by omega), g 6 (by omega)⟩

theorem PtB.same {w w' : World} {D o : Nat} {p : Pt} (h : PtB w D o p) (hb : w'.heap[D]? = w.heap[D]?) : PtB w' D o p := by
  obtain ⟨cs, t, h1, q⟩ := h
  exact ⟨cs, t, hb.trans h1, q⟩
theorem strOf_nil {xs : List Int} (h : strOfNums xs = ⟨#[]⟩) : xs = [] := by
  have := congrArg (fun s : ByteArray => s.data.size) h
  simp [strOfNums] at this
  exact this
theorem strOf_ne {xs : List Int} {O : ByteArray} (h : strOfNums xs = O) (hO : O ≠ ⟨#[]⟩) : 0 < xs.length := by
  cases xs with
  | nil => exact absurd h.symm hO
  | cons a l => simp
theorem toList_ne {O : ByteArray} (hO : O ≠ ⟨#[]⟩) : (O.toList == ([] : List UInt8)) = false := by
  cases h : O.toList with
  | nil =>
    refine absurd ?_ hO
    rw [ByteArray.toList_eq] at h
    apply ByteArray.ext
    exact Array.toList_inj.1 h
  | cons a l => rfl
theorem Rd.len {w : World} {k : IntKind} {p : Option Addr} {n c : Nat} {xs : List Int} (h : Rd w k (.slice p n c) xs) : n = xs.length := by
  obtain ⟨p', cap', e, _⟩ := h
  cases e; rfl
def zeroP : Pt := ⟨0, false, false, false, false, 0, 0, false⟩
def q0 : Sh := ⟨false, false, false, 0, 0, false⟩
theorem zeros_new (w : World) (m : Nat) (hm : m < 4) : PtB (w.alloc (.cells #[.int .i64 0, .bool false, .int .u8 0, .int .i64 0, .int .i64 0, .bool false, .int .i64 0, .bool false, .int .u8 0, .int .i64 0, .int .i64 0, .bool false, .int .i64 0, .bool false, .int .u8 0, .int .i64 0, .int .i64 0, .bool false, .int .i64 0, .bool false, .int .u8 0, .int .i64 0, .int .i64 0, .bool false] 43)) w.heap.size (m * 6) zeroP := by
  refine ⟨_, _, Box.new w _ _ rfl, ?_⟩
  match m, hm with
  | 0, _ => exact ⟨rfl, rfl, rfl, rfl, rfl, rfl⟩
  | 1, _ => exact ⟨rfl, rfl, rfl, rfl, rfl, rfl⟩
  | 2, _ => exact ⟨rfl, rfl, rfl, rfl, rfl, rfl⟩
  | 3, _ => exact ⟨rfl, rfl, rfl, rfl, rfl, rfl⟩
def evs (W : World) (q : Option Addr) (i : Nat) : Prop := ∃ b off x, q = some ⟨b, off, none⟩ ∧ b < W.heap.size ∧ EvAt W b off i x

set_option maxHeartbeats 60000000 in
set_option maxRecDepth 100000 in
theorem pointerHolds_any (q : Option Addr) (len cap : Nat) (x : Bool) (w : World) (ht : Tab w) (hc : ∀ i, i < len → evs w q i) : Calls Tryd.prog 4 #[.slice q len cap, .bool x] w fun e w' => e = .returned (.bool true) ∧ Below w.heap.size w w' := by
  have HC := Lib.hid hc
  clear hc
  by_cases h40 : 40 < len
  · have r1 : (40 : Int) < (len : Int) := by omega
    go_enter Tryd.func4, Tryd.ntmps4
    go_wp2_with (first | (go_at_call 12; (with_reducible refine (known_any _ ht).mono ?_); rintro e w1 ⟨rfl, hb⟩))
    go_ret
    exact ⟨rfl, hb⟩
  have r40 : ¬ (40 : Int) < (len : Int) := by omega
  have hD : 0 ≠ w.heap.size := Nat.ne_of_lt (tab_lt ht)
  go_enter Tryd.func4, Tryd.ntmps4
  go_wp2_with fail
  go_loopw [6] (fun i wr => ∃ j : Nat, j ≤ 4 ∧ i = .int .i64 j ∧ (∀ m : Nat, m < 4 → PtB wr w.heap.size (m * 6) (if m < j then ptk x m q0 else zeroP)) ∧ Below w.heap.size w wr) (fun i _ => 4 - (intOf i).toNat)
  case atStart => exact ⟨0, by omega, rfl, fun m hm => by rw [if_neg (by omega)]; exact zeros_new w m hm, (by repeat (first | with_reducible exact Below.refl _ _ | with_reducible assumption | with_reducible exact GW.grow _ | with_reducible refine bl_alloc ?_ _ | with_reducible refine Below.drew ?_ | (with_reducible refine Below.setCell ?_ ?_ _; rotate_left; focus (simp; first | done | omega)) | with_reducible refine bl_trans ?_ (GW.grow _) | (with_reducible refine bl_trans ?_ (by assumption))))⟩
  case round =>
    obtain ⟨j, hj, rfl, hpt, hbel⟩ := hrel
    by_cases hlt : j < 4
    · have hP := hpt j hlt
      rw [if_neg (Nat.lt_irrefl j)] at hP
      have cS := set_any w.heap.size (j * 6) zeroP (j : Int) x wr hP
      have e1 : setE (j : Int) = 0 := if_neg (by omega)
      have e2 : setP zeroP (j : Int) x = ptk x j q0 := if_neg (by omega)
      rw [e1, e2] at cS
      have r1 : (0 : Int) ≤ (j : Int) := by omega
      have r2 : (j : Int) < 4 := by omega
      have HP := Lib.hid hpt
      have hlD := hP.lt
      clear hpt hP e1 e2
      go_wp2_with (first | (go_at_call 7; (with_reducible refine cS.mono ?_); rintro e w1 ⟨rfl, hq1, hk⟩))
      go_roundw
      case rel =>
        refine ⟨j + 1, by omega, by go_num, fun m hm => ?_, Bar.to_below hbel hk.1 (Nat.le_refl _)⟩
        by_cases hmj : m = j
        · subst hmj; rw [if_pos (by omega)]; exact hq1
        · have h := (HP.out m hm).keep hk (by omega)
          by_cases hlt2 : m < j
          · rw [if_pos (by omega)]; rwa [if_pos hlt2] at h
          · rw [if_neg (by omega)]; rwa [if_neg hlt2] at h
      case measure => simp [intOf]; omega
    · have hpt' : ∀ m : Nat, m < 4 → PtB (wr.alloc (.cells #[.int .i64 0, .int .i64 0, .int .i64 0, .int .i64 0] 44)) w.heap.size (m * 6) (ptk x m q0) := fun m hm => by
        have h := hpt m hm
        rw [if_pos (by omega)] at h
        exact h.below (bl_alloc (Below.refl _ _) _)
      have hlD := (hpt 0 (by omega)).lt
      clear hpt
      go_wp2_with fail
      have hl1 : Below w.heap.size w (wr.alloc (.cells #[.int .i64 0, .int .i64 0, .int .i64 0, .int .i64 0] 44)) := bl_alloc hbel _
      have xs1 : Box (wr.alloc (.cells #[.int .i64 0, .int .i64 0, .int .i64 0, .int .i64 0] 44)) wr.heap.size #[.int .i64 0, .int .i64 0, .int .i64 0, .int .i64 0] 44 := Box.new _ _ _ rfl
      generalize wr.alloc (.cells #[.int .i64 0, .int .i64 0, .int .i64 0, .int .i64 0] 44) = W1 at *
      obtain ⟨b1, hb1⟩ : ∃ b1, wr.heap.size = b1 := ⟨_, rfl⟩
      have hws : w.heap.size ≤ wr.heap.size := hbel.size
      rw [hb1] at xs1 hlD hws ⊢
      clear hb1 hbel hlt hj
      go_loopw [8] (fun i wr => ∃ (n : Nat) (g : Sh) (s0 s1 s2 s3 : Int), n ≤ len ∧ i = .int .i64 n ∧ (∀ m : Nat, m < 4 → PtB wr w.heap.size (m * 6) (ptk x m g)) ∧ Box wr b1 #[.int .i64 s0, .int .i64 s1, .int .i64 s2, .int .i64 s3] 44 ∧ (x = true → s1 = (if g.h1 then 3 else 0) ∧ s2 = (if g.h2 then 3 else 0) ∧ s3 = (if g.h3 then 3 else 0)) ∧ Below w.heap.size w wr) (fun i _ => len - (intOf i).toNat)
      case atStart => exact ⟨0, q0, 0, 0, 0, 0, Nat.zero_le _, rfl, hpt', xs1, fun _ => ⟨rfl, rfl, rfl⟩, hl1⟩
      case round =>
        obtain ⟨n, g, s0, s1, s2, s3, hn, rfl, hpt, hxs, hsum, hbel⟩ := hrel
        by_cases hlt : n < len
        · obtain ⟨bb, off, ev, rfl, hbb, hev⟩ := HC.out n hlt
          have hnb : bb ≠ b1 := by omega
          obtain ⟨k, b, r, c, sh, al, ct⟩ := ev
          have HPT := Lib.hid hpt
          have HSUM := Lib.hid hsum
          have r1 : (0 : Int) ≤ (n : Int) := by omega
          have r2 : (n : Int) < (len : Int) := by omega
          clear hpt hsum hpt' xs1 hl1
          go_wp2_with fail
          obtain ⟨wo, hwo⟩ : ∃ wo : World, wo = wr := ⟨_, rfl⟩
          subst hwo
          cases hv : validE k b r c
          · have cD := fun j W => do_bad w.heap.size (j * 6) (ptk x (j : Int) g) k b r c sh al ct W hv
            have cV := fun W => valid_any k b r c sh al ct W
            rw [hv] at cV
            have kc := fun W => run_str (P := Tryd.prog) 45 9 5 Tryd.underlying45 Tryd.underlying5 Tryd.underlying9 (Rd.nil W .u8)
            rw [show strOfNums ([] : List Int) = ⟨#[]⟩ from rfl] at kc
            have hlDo := (HPT.out 0 (by omega)).lt
            go_loopw [9, 10] (fun bf kk wr => ∃ j : Nat, j ≤ 4 ∧ kk = .int .i64 j ∧ bf = .string ⟨#[]⟩ ∧ Below wo.heap.size wo wr) (fun _ kk _ => 4 - (intOf kk).toNat)
            case atStart => exact ⟨0, by omega, rfl, rfl, Below.refl _ _⟩
            case round =>
              obtain ⟨j, hj, rfl, rfl, hbel3⟩ := hrel
              have hlw := bl_trans hbel hbel3
              by_cases hlt3 : j < 4
              · obtain ⟨e0, e1, e2, e3, e4, e5, e6⟩ := hev.block (hlw.block bb hbb)
                simp only at e0 e1 e2 e3 e4 e5 e6
                have hbw := Nat.lt_of_lt_of_le hbb hlw.size
                have hlD3 := Nat.lt_of_lt_of_le hlDo hbel3.size
                have q1 : (0 : Int) ≤ (j : Int) := by omega
                have q2 : (j : Int) < 4 := by omega
                have cDj := cD j
                clear HSUM HPT hxs
                by_cases hj0 : j = 0
                · subst hj0
                  go_wp2_with fail
                  have hdr : Below wr.heap.size wr wr.drew := (Below.refl _ _).drew
                  have hTr : ∀ u1 u2 u3 : World, Bar w.heap.size u1 u2 → Bar w.heap.size u2 u3 → Bar w.heap.size u1 u3 := fun _ _ _ h1 h2 => Bar.trans h1 h2
                  have hGr : ∀ u1 u2 : World, Gr u1 u2 → Bar w.heap.size u1 u2 := fun _ _ h1 => Below.bar _ h1
                  refine wp_region_V (fun u1 u2 => Bar w.heap.size u1 u2) (by kernel_rfl) ?_
                  refine wpAnyV_takeS hTr hGr (A := ?A0a) 0 rfl (by kernel_rfl) (by kernel_rfl) (by kernel_rfl) (fun _ _ _ _ h => h) ?q0a ?r0a
                  case q0a =>
                    intro W hW
                    try simp only [List.getElem_toArray, List.getElem_cons_zero, List.getElem_cons_succ]
                    go_big_quiet_step (fail)
                    refine wpQuiet_nil ?_
                    rfl
                  refine wpAnyV_takeS hTr hGr (A := ?A1a) 1 rfl (by kernel_rfl) (by kernel_rfl) (by kernel_rfl) (fun _ _ _ _ h => h) ?q1a ?r1a
                  case q1a =>
                    intro W hW
                    try simp only [List.getElem_toArray, List.getElem_cons_zero, List.getElem_cons_succ]
                    go_big_quiet_step (fail)
                    refine wpQuiet_nil ?_
                    rfl
                  refine wpAnyV_takeS hTr hGr (A := ?A2a) 2 rfl (by kernel_rfl) (by kernel_rfl) (by kernel_rfl) (fun _ _ _ _ h => h) ?q2a ?r2a
                  case q2a =>
                    intro W hW
                    try simp only [List.getElem_toArray, List.getElem_cons_zero, List.getElem_cons_succ]
                    go_big_quiet_step (fail)
                    refine wpQuiet_nil ?_
                    rfl
                  refine wpAnyV_takeS hTr hGr (A := ?A3a) 3 rfl (by kernel_rfl) (by kernel_rfl) (by kernel_rfl) (fun _ _ _ _ h => h) ?q3a ?r3a
                  case q3a =>
                    intro W hW
                    try simp only [List.getElem_toArray, List.getElem_cons_zero, List.getElem_cons_succ]
                    go_big_quiet_step (fail)
                    refine wpQuiet_nil ?_
                    rfl
                  refine wpAnyV_takeS hTr hGr (A := ?A4a) 4 rfl (by kernel_rfl) (by kernel_rfl) (by kernel_rfl) (fun _ _ _ _ h => h) ?q4a ?r4a
                  case q4a =>
                    intro W hW
                    try simp only [List.getElem_toArray, List.getElem_cons_zero, List.getElem_cons_succ]
                    go_big_quiet_step (fail)
                    refine wpQuiet_nil ?_
                    rfl
                  refine wpAnyV_one 5 (by kernel_rfl) ?_
                  intro W hW
                  obtain ⟨X, rfl⟩ := GW.of (bl_trans hdr hW)
                  refine wpOp_step rfl (fun K hK => ?_)
                  go_simp
                  refine hK _ _ ⟨Bar.refl _ _, ?_⟩
                  clear hK K
                  try simp only [Act.put, List.getElem_toArray, List.getElem_cons_zero, List.getElem_cons_succ, List.setIfInBounds_toArray, List.set_cons_zero, List.set_cons_succ]
                  refine wpAnyV_one 6 (by kernel_rfl) ?_
                  intro W hW
                  obtain ⟨X, rfl⟩ := GW.of2 hW
                  refine wpOp_step rfl (fun K hK => ?_)
                  go_simp
                  refine (cDj _).mono ?_
                  rintro e w1 ⟨rfl, hb⟩
                  go_simp
                  refine hK _ _ ⟨Below.bar _ hb, ?_⟩
                  clear hK K
                  try simp only [Act.put, List.getElem_toArray, List.getElem_cons_zero, List.getElem_cons_succ, List.setIfInBounds_toArray, List.set_cons_zero, List.set_cons_succ]
                  obtain ⟨X, rfl⟩ := GW.of2 hb
                  clear hb hW
                  refine wpAnyV_takeS hTr hGr (A := ?A7a) 7 rfl (by kernel_rfl) (by kernel_rfl) (by kernel_rfl) (fun _ _ _ _ h => h) ?q7a ?r7a
                  case q7a =>
                    intro W hW
                    try simp only [List.getElem_toArray, List.getElem_cons_zero, List.getElem_cons_succ]
                    go_big_quiet_step (fail)
                    refine wpQuiet_nil ?_
                    rfl
                  refine wpAnyV_takeS hTr hGr (A := ?A8a) 8 rfl (by kernel_rfl) (by kernel_rfl) (by kernel_rfl) (fun _ _ _ _ h => h) ?q8a ?r8a
                  case q8a =>
                    intro W hW
                    try simp only [List.getElem_toArray, List.getElem_cons_zero, List.getElem_cons_succ]
                    go_big_quiet_step (fail)
                    refine wpQuiet_nil ?_
                    rfl
                  refine wpAnyV_takeS hTr hGr (A := ?A9a) 9 rfl (by kernel_rfl) (by kernel_rfl) (by kernel_rfl) (fun _ _ _ _ h => h) ?q9a ?r9a
                  case q9a =>
                    intro W hW
                    try simp only [List.getElem_toArray, List.getElem_cons_zero, List.getElem_cons_succ]
                    go_big_quiet_step (fail)
                    refine wpQuiet_nil ?_
                    rfl
                  refine wpAnyV_takeS hTr hGr (A := ?A10a) 10 rfl (by kernel_rfl) (by kernel_rfl) (by kernel_rfl) (fun _ _ _ _ h => h) ?q10a ?r10a
                  case q10a =>
                    intro W hW
                    try simp only [List.getElem_toArray, List.getElem_cons_zero, List.getElem_cons_succ]
                    go_big_quiet_step (fail)
                    refine wpQuiet_nil ?_
                    rfl
                  refine wpAnyV_takeS hTr hGr (A := ?A11a) 11 rfl (by kernel_rfl) (by kernel_rfl) (by kernel_rfl) (fun _ _ _ _ h => h) ?q11a ?r11a
                  case q11a =>
                    intro W hW
                    try simp only [List.getElem_toArray, List.getElem_cons_zero, List.getElem_cons_succ]
                    go_big_quiet_step (fail)
                    refine wpQuiet_nil ?_
                    rfl
                  refine wpAnyV_done (by kernel_rfl) ?_ _
                  intro W hW
                  obtain ⟨X, rfl⟩ := GW.of2 hW
                  clear hW
                  go_wp2_with (first | (go_at_call 14; (with_reducible refine (cV _).mono ?_); rintro e w1 ⟨rfl, hb⟩; obtain ⟨X, rfl⟩ := GW.of2 hb; clear hb))
                  go_roundw
                  case rel => exact ⟨1, by omega, by go_num, rfl, bl_trans hbel3 (GW.grow _)⟩
                  case measure => simp [intOf]
                · have hj0' : ((j : Int) == 0) = false := by simp; omega
                  go_wp2_with fail
                  have hdr : Below wr.heap.size wr wr.drew := (Below.refl _ _).drew
                  have hTr : ∀ u1 u2 u3 : World, Bar w.heap.size u1 u2 → Bar w.heap.size u2 u3 → Bar w.heap.size u1 u3 := fun _ _ _ h1 h2 => Bar.trans h1 h2
                  have hGr : ∀ u1 u2 : World, Gr u1 u2 → Bar w.heap.size u1 u2 := fun _ _ h1 => Below.bar _ h1
                  refine wp_region_V (fun u1 u2 => Bar w.heap.size u1 u2) (by kernel_rfl) ?_
                  refine wpAnyV_takeS hTr hGr (A := ?A0b) 0 rfl (by kernel_rfl) (by kernel_rfl) (by kernel_rfl) (fun _ _ _ _ h => h) ?q0b ?r0b
                  case q0b =>
                    intro W hW
                    try simp only [List.getElem_toArray, List.getElem_cons_zero, List.getElem_cons_succ]
                    go_big_quiet_step (fail)
                    refine wpQuiet_nil ?_
                    rfl
                  refine wpAnyV_takeS hTr hGr (A := ?A1b) 1 rfl (by kernel_rfl) (by kernel_rfl) (by kernel_rfl) (fun _ _ _ _ h => h) ?q1b ?r1b
                  case q1b =>
                    intro W hW
                    try simp only [List.getElem_toArray, List.getElem_cons_zero, List.getElem_cons_succ]
                    go_big_quiet_step (fail)
                    refine wpQuiet_nil ?_
                    rfl
                  refine wpAnyV_takeS hTr hGr (A := ?A2b) 2 rfl (by kernel_rfl) (by kernel_rfl) (by kernel_rfl) (fun _ _ _ _ h => h) ?q2b ?r2b
                  case q2b =>
                    intro W hW
                    try simp only [List.getElem_toArray, List.getElem_cons_zero, List.getElem_cons_succ]
                    go_big_quiet_step (fail)
                    refine wpQuiet_nil ?_
                    rfl
                  refine wpAnyV_takeS hTr hGr (A := ?A3b) 3 rfl (by kernel_rfl) (by kernel_rfl) (by kernel_rfl) (fun _ _ _ _ h => h) ?q3b ?r3b
                  case q3b =>
                    intro W hW
                    try simp only [List.getElem_toArray, List.getElem_cons_zero, List.getElem_cons_succ]
                    go_big_quiet_step (fail)
                    refine wpQuiet_nil ?_
                    rfl
                  refine wpAnyV_takeS hTr hGr (A := ?A4b) 4 rfl (by kernel_rfl) (by kernel_rfl) (by kernel_rfl) (fun _ _ _ _ h => h) ?q4b ?r4b
                  case q4b =>
                    intro W hW
                    try simp only [List.getElem_toArray, List.getElem_cons_zero, List.getElem_cons_succ]
                    go_big_quiet_step (fail)
                    refine wpQuiet_nil ?_
                    rfl
                  refine wpAnyV_one 5 (by kernel_rfl) ?_
                  intro W hW
                  obtain ⟨X, rfl⟩ := GW.of (bl_trans hdr hW)
                  refine wpOp_step rfl (fun K hK => ?_)
                  go_simp
                  refine hK _ _ ⟨Bar.refl _ _, ?_⟩
                  clear hK K
                  try simp only [Act.put, List.getElem_toArray, List.getElem_cons_zero, List.getElem_cons_succ, List.setIfInBounds_toArray, List.set_cons_zero, List.set_cons_succ]
                  refine wpAnyV_one 6 (by kernel_rfl) ?_
                  intro W hW
                  obtain ⟨X, rfl⟩ := GW.of2 hW
                  refine wpOp_step rfl (fun K hK => ?_)
                  go_simp
                  refine (cDj _).mono ?_
                  rintro e w1 ⟨rfl, hb⟩
                  go_simp
                  refine hK _ _ ⟨Below.bar _ hb, ?_⟩
                  clear hK K
                  try simp only [Act.put, List.getElem_toArray, List.getElem_cons_zero, List.getElem_cons_succ, List.setIfInBounds_toArray, List.set_cons_zero, List.set_cons_succ]
                  obtain ⟨X, rfl⟩ := GW.of2 hb
                  clear hb hW
                  refine wpAnyV_takeS hTr hGr (A := ?A7b) 7 rfl (by kernel_rfl) (by kernel_rfl) (by kernel_rfl) (fun _ _ _ _ h => h) ?q7b ?r7b
                  case q7b =>
                    intro W hW
                    try simp only [List.getElem_toArray, List.getElem_cons_zero, List.getElem_cons_succ]
                    go_big_quiet_step (fail)
                    refine wpQuiet_nil ?_
                    rfl
                  refine wpAnyV_takeS hTr hGr (A := ?A8b) 8 rfl (by kernel_rfl) (by kernel_rfl) (by kernel_rfl) (fun _ _ _ _ h => h) ?q8b ?r8b
                  case q8b =>
                    intro W hW
                    try simp only [List.getElem_toArray, List.getElem_cons_zero, List.getElem_cons_succ]
                    go_big_quiet_step (fail)
                    refine wpQuiet_nil ?_
                    rfl
                  refine wpAnyV_takeS hTr hGr (A := ?A9b) 9 rfl (by kernel_rfl) (by kernel_rfl) (by kernel_rfl) (fun _ _ _ _ h => h) ?q9b ?r9b
                  case q9b =>
                    intro W hW
                    try simp only [List.getElem_toArray, List.getElem_cons_zero, List.getElem_cons_succ]
                    go_big_quiet_step (fail)
                    refine wpQuiet_nil ?_
                    rfl
                  refine wpAnyV_takeS hTr hGr (A := ?A10b) 10 rfl (by kernel_rfl) (by kernel_rfl) (by kernel_rfl) (fun _ _ _ _ h => h) ?q10b ?r10b
                  case q10b =>
                    intro W hW
                    try simp only [List.getElem_toArray, List.getElem_cons_zero, List.getElem_cons_succ]
                    go_big_quiet_step (fail)
                    refine wpQuiet_nil ?_
                    rfl
                  refine wpAnyV_takeS hTr hGr (A := ?A11b) 11 rfl (by kernel_rfl) (by kernel_rfl) (by kernel_rfl) (fun _ _ _ _ h => h) ?q11b ?r11b
                  case q11b =>
                    intro W hW
                    try simp only [List.getElem_toArray, List.getElem_cons_zero, List.getElem_cons_succ]
                    go_big_quiet_step (fail)
                    refine wpQuiet_nil ?_
                    rfl
                  refine wpAnyV_done (by kernel_rfl) ?_ _
                  intro W hW
                  obtain ⟨X, rfl⟩ := GW.of2 hW
                  clear hW
                  go_wp2_with (first | (go_at_call 14; (with_reducible refine (cV _).mono ?_); rintro e w1 ⟨rfl, hb⟩; obtain ⟨X, rfl⟩ := GW.of2 hb; clear hb))
                  go_roundw
                  case rel => exact ⟨j + 1, by omega, by go_num, rfl, bl_trans hbel3 (GW.grow _)⟩
                  case measure => simp [intOf]; omega
              · obtain ⟨wF, hwF⟩ : ∃ wF : World, wF = wr := ⟨_, rfl⟩
                subst hwF
                have hxsF : Box wF b1 _ _ := (hbel3.block _ hxs.lt).trans hxs
                have hsumF := HSUM.out
                have hptF : ∀ m : Nat, m < 4 → PtB wF w.heap.size (m * 6) (ptk x m g) := fun m hm => (HPT.out m hm).below hbel3
                have hblF := hlw
                clear HSUM HPT
                have hcF := hxsF.cell
                have hlF := hxsF.lt
                have HSF := Lib.hid hsumF
                have HPF := Lib.hid hptF
                clear hsumF hptF
                go_wp2_with fail
                go_loopw [16] (fun i wr => ∃ u : Nat, 1 ≤ u ∧ u ≤ 4 ∧ i = .int .i64 u ∧ Below wF.heap.size wF wr) (fun i _ => 4 - (intOf i).toNat)
                case atStart => exact ⟨1, by omega, by omega, rfl, Below.refl _ _⟩
                case round =>
                  obtain ⟨u, hu1, hu4, rfl, hbel4⟩ := hrel
                  by_cases hlt4 : u < 4
                  · have xs4 : Box wr b1 _ _ := (hbel4.block _ hlF).trans hxsF
                    have c4 := xs4.cell
                    have l4 := xs4.lt
                    clear hcF
                    cases x
                    · have q3 : (u : Int) ≤ 3 := by omega
                      go_wp2_with fail
                      go_roundw
                      case rel => exact ⟨u + 1, by omega, by omega, by go_num, hbel4⟩
                      case measure => simp [intOf]; omega
                    · obtain ⟨g1, g2, g3⟩ := HSF.out rfl
                      have n1 : ¬ s1 < 0 := by rw [g1]; split <;> omega
                      have n2 : ¬ s2 < 0 := by rw [g2]; split <;> omega
                      have n3 : ¬ s3 < 0 := by rw [g3]; split <;> omega
                      clear g1 g2 g3
                      have hu : u = 1 ∨ u = 2 ∨ u = 3 := by omega
                      rcases hu with rfl | rfl | rfl
                      · go_wp2_with fail
                        go_roundw
                        case rel => exact ⟨2, by omega, by omega, by go_num, hbel4⟩
                        case measure => simp [intOf]
                      · go_wp2_with fail
                        go_roundw
                        case rel => exact ⟨3, by omega, by omega, by go_num, hbel4⟩
                        case measure => simp [intOf]
                      · go_wp2_with fail
                        go_roundw
                        case rel => exact ⟨4, by omega, by omega, by go_num, hbel4⟩
                        case measure => simp [intOf]
                  · have q3 : ¬ (u : Int) ≤ 3 := by omega
                    have hz : n + 1 ≤ len := by omega
                    go_wp2_with fail
                    go_roundw
                    case rel => exact ⟨n + 1, g, s0, s1, s2, s3, hz, by go_num, fun m hm => (HPF.out m hm).below hbel4, (hbel4.block _ hlF).trans hxsF, HSF.out, bl_trans hblF hbel4⟩
                    case measure => simp [intOf]; omega
          · have cV := fun W => valid_any k b r c sh al ct W
            rw [hv] at cV
            have hmv : validE 3 0 r c = true := by
              unfold validE at hv ⊢
              have hv := of_decide_eq_true hv
              exact decide_eq_true (by omega)
            have hlDo := (HPT.out 0 (by omega)).lt
            have hws1 : w.heap.size ≤ b1 := hws
            go_loopw [9, 10] (fun bf kk wr => ∃ (j : Nat) (O : ByteArray) (u0 u1 u2 u3 : Int), j ≤ 4 ∧ kk = .int .i64 j ∧ bf = .string O ∧ (j = 0 → O = ⟨#[]⟩) ∧ Hid (∀ i : Nat, i + 1 = j → doS (ptk x (i : Int) g) k b r c sh al ct = O) ∧ (∀ m : Nat, m < 4 → PtB wr w.heap.size (m * 6) (ptk x (m : Int) (if m < j then nxt g k b r c else g))) ∧ Box wr b1 #[.int .i64 u0, .int .i64 u1, .int .i64 u2, .int .i64 u3] 44 ∧ (x = true → u1 = cntN g k b 1 g.h1 j ∧ u2 = cntN g k b 2 g.h2 j ∧ u3 = cntN g k b 3 g.h3 j) ∧ Below w.heap.size w wr) (fun _ kk _ => 4 - (intOf kk).toNat)
            case atStart => exact ⟨0, ⟨#[]⟩, s0, s1, s2, s3, by omega, rfl, rfl, fun _ => rfl, fun i hi => absurd hi (by omega), fun m hm => by rw [if_neg (by omega)]; exact HPT.out m hm, hxs, fun hx => by rw [cnt_zero, cnt_zero, cnt_zero]; exact HSUM.out hx, hbel⟩
            case round =>
              obtain ⟨j, O, u0, u1, u2, u3, hj, rfl, rfl, hO0, HOP, hpt2, hus, hsum2, hlw⟩ := hrel
              have HSUM2 := Lib.hid hsum2
              have HPT2 := Lib.hid hpt2
              clear hsum2 hpt2 hbel hxs
              by_cases hlt3 : j < 4
              · have hPj := HPT2.out j hlt3
                rw [if_neg (Nat.lt_irrefl j)] at hPj
                have cDj := fun W h1 h2 => do_p w.heap.size (j * 6) (ptk x (j : Int) g) k b r c sh al ct W h1 h2 hD hv
                have cM := fun W h1 h2 => do_p w.heap.size (j * 6) (ptk x (j : Int) (nxt g k b r c)) 3 0 r c false false false W h1 h2 hD hmv
                unfold DoE at cDj cM
                rw [move_none] at cM
                obtain ⟨Oj, hOj⟩ : ∃ Oj, doS (ptk x (j : Int) g) k b r c sh al ct = Oj := ⟨_, rfl⟩
                rw [hOj] at cDj
                have HX0 : Hid (j = 0 → Oj = ⟨#[]⟩) := fun h => by subst h; rw [← hOj]; exact do_zero x g k b r c sh al ct
                have HX1 : Hid (O ≠ ⟨#[]⟩ → Oj = O) := fun h => by
                  have hj0 : j ≠ 0 := fun h0 => h (hO0 h0)
                  obtain ⟨i, rfl⟩ : ∃ i, j = i + 1 := ⟨j - 1, by omega⟩
                  have h1 := HOP.out i rfl
                  rw [← hOj, ← h1]
                  refine do_same x (i : Int) ((i + 1 : Nat) : Int) g k b r c sh al ct (by omega) (by omega) (by omega) (by rw [h1]; exact h)
                clear HOP
                obtain ⟨e0, e1, e2, e3, e4, e5, e6⟩ := hev.block (hlw.block bb hbb)
                simp only at e0 e1 e2 e3 e4 e5 e6
                have hbw := Nat.lt_of_lt_of_le hbb hlw.size
                have hlD3 := hPj.lt
                have q1 : (0 : Int) ≤ (j : Int) := by omega
                have q2 : (j : Int) < 4 := by omega
                go_wp2_with fail
                have hdr : Below wr.heap.size wr wr.drew := (Below.refl _ _).drew
                have hTr : ∀ u1 u2 u3 : World, Bar w.heap.size u1 u2 → Bar w.heap.size u2 u3 → Bar w.heap.size u1 u3 := fun _ _ _ h1 h2 => Bar.trans h1 h2
                have hGr : ∀ u1 u2 : World, Gr u1 u2 → Bar w.heap.size u1 u2 := fun _ _ h1 => Below.bar _ h1
                refine wp_region_V (fun u1 u2 => Bar w.heap.size u1 u2) (by kernel_rfl) ?_
                refine wpAnyV_takeS hTr hGr (A := ?A0s) 0 rfl (by kernel_rfl) (by kernel_rfl) (by kernel_rfl) (fun _ _ _ _ h => h) ?q0s ?r0s
                case q0s =>
                  intro W hW
                  try simp only [List.getElem_toArray, List.getElem_cons_zero, List.getElem_cons_succ]
                  go_big_quiet_step (fail)
                  refine wpQuiet_nil ?_
                  rfl
                refine wpAnyV_takeS hTr hGr (A := ?A1s) 1 rfl (by kernel_rfl) (by kernel_rfl) (by kernel_rfl) (fun _ _ _ _ h => h) ?q1s ?r1s
                case q1s =>
                  intro W hW
                  try simp only [List.getElem_toArray, List.getElem_cons_zero, List.getElem_cons_succ]
                  go_big_quiet_step (fail)
                  refine wpQuiet_nil ?_
                  rfl
                refine wpAnyV_takeS hTr hGr (A := ?A2s) 2 rfl (by kernel_rfl) (by kernel_rfl) (by kernel_rfl) (fun _ _ _ _ h => h) ?q2s ?r2s
                case q2s =>
                  intro W hW
                  try simp only [List.getElem_toArray, List.getElem_cons_zero, List.getElem_cons_succ]
                  go_big_quiet_step (fail)
                  refine wpQuiet_nil ?_
                  rfl
                refine wpAnyV_takeS hTr hGr (A := ?A3s) 3 rfl (by kernel_rfl) (by kernel_rfl) (by kernel_rfl) (fun _ _ _ _ h => h) ?q3s ?r3s
                case q3s =>
                  intro W hW
                  try simp only [List.getElem_toArray, List.getElem_cons_zero, List.getElem_cons_succ]
                  go_big_quiet_step (fail)
                  refine wpQuiet_nil ?_
                  rfl
                refine wpAnyV_takeS hTr hGr (A := ?A4s) 4 rfl (by kernel_rfl) (by kernel_rfl) (by kernel_rfl) (fun _ _ _ _ h => h) ?q4s ?r4s
                case q4s =>
                  intro W hW
                  try simp only [List.getElem_toArray, List.getElem_cons_zero, List.getElem_cons_succ]
                  go_big_quiet_step (fail)
                  refine wpQuiet_nil ?_
                  rfl
                refine wpAnyV_one 5 (by kernel_rfl) ?_
                intro W hW
                obtain ⟨X, rfl⟩ := GW.of (bl_trans hdr hW)
                refine wpOp_step rfl (fun K hK => ?_)
                go_simp
                refine hK _ _ ⟨Bar.refl _ _, ?_⟩
                clear hK K
                try simp only [Act.put, List.getElem_toArray, List.getElem_cons_zero, List.getElem_cons_succ, List.setIfInBounds_toArray, List.set_cons_zero, List.set_cons_succ]
                refine wpAnyV_one 6 (by kernel_rfl) ?_
                intro W hW
                obtain ⟨X, rfl⟩ := GW.of2 hW
                refine wpOp_step rfl (fun K hK => ?_)
                go_simp
                (with_reducible refine (cDj _ (hPj.below X.grow) (ht.below (bl_trans hlw X.grow))).mono ?_)
                rintro e w3 ⟨v, xs, rfl, hrd, hxs2, hpt3, hk3⟩
                have hl3 : Below w.heap.size w w3 := Bar.to_below (bl_trans hlw X.grow) hk3.1 (Nat.le_refl _)
                obtain ⟨pv, nv, cv, hve⟩ := hrd.shape
                subst hve
                obtain rfl := hrd.len
                have hkk := (Keep.of_below X.grow).trans hk3
                go_simp
                refine hK _ _ ⟨hk3.1, ?_⟩
                clear hK K
                try simp only [Act.put, List.getElem_toArray, List.getElem_cons_zero, List.getElem_cons_succ, List.setIfInBounds_toArray, List.set_cons_zero, List.set_cons_succ]
                refine wpAnyV_takeS hTr hGr (A := ?A7s) 7 rfl (by kernel_rfl) (by kernel_rfl) (by kernel_rfl) (fun _ _ _ _ h => h) ?q7s ?r7s
                case q7s =>
                  intro W hW
                  try simp only [List.getElem_toArray, List.getElem_cons_zero, List.getElem_cons_succ]
                  go_big_quiet_step (fail)
                  refine wpQuiet_nil ?_
                  rfl
                refine wpAnyV_takeS hTr hGr (A := ?A8s) 8 rfl (by kernel_rfl) (by kernel_rfl) (by kernel_rfl) (fun _ _ _ _ h => h) ?q8s ?r8s
                case q8s =>
                  intro W hW
                  try simp only [List.getElem_toArray, List.getElem_cons_zero, List.getElem_cons_succ]
                  go_big_quiet_step (fail)
                  refine wpQuiet_nil ?_
                  rfl
                refine wpAnyV_takeS hTr hGr (A := ?A9s) 9 rfl (by kernel_rfl) (by kernel_rfl) (by kernel_rfl) (fun _ _ _ _ h => h) ?q9s ?r9s
                case q9s =>
                  intro W hW
                  try simp only [List.getElem_toArray, List.getElem_cons_zero, List.getElem_cons_succ]
                  go_big_quiet_step (fail)
                  refine wpQuiet_nil ?_
                  rfl
                refine wpAnyV_takeS hTr hGr (A := ?A10s) 10 rfl (by kernel_rfl) (by kernel_rfl) (by kernel_rfl) (fun _ _ _ _ h => h) ?q10s ?r10s
                case q10s =>
                  intro W hW
                  try simp only [List.getElem_toArray, List.getElem_cons_zero, List.getElem_cons_succ]
                  go_big_quiet_step (fail)
                  refine wpQuiet_nil ?_
                  rfl
                refine wpAnyV_takeS hTr hGr (A := ?A11s) 11 rfl (by kernel_rfl) (by kernel_rfl) (by kernel_rfl) (fun _ _ _ _ h => h) ?q11s ?r11s
                case q11s =>
                  intro W hW
                  try simp only [List.getElem_toArray, List.getElem_cons_zero, List.getElem_cons_succ]
                  go_big_quiet_step (fail)
                  refine wpQuiet_nil ?_
                  rfl
                refine wpAnyV_done (by kernel_rfl) ?_ _
                intro W hW
                obtain ⟨X, rfl⟩ := GW.of hW
                clear hW
                have hl4 : Below w.heap.size w X.world := bl_trans hl3 X.grow
                have hkk4 : Keep w.heap.size (j * 6) wr X.world := hkk.below X.grow
                have hpt4 : PtB X.world w.heap.size (j * 6) (ptk x (j : Int) (nxt g k b r c)) := hpt3.below X.grow
                have hrd4 := hrd.below X.grow
                have xs4 : Box X.world b1 _ _ := (hkk4.1.block b1 (by omega) hus.lt).trans hus
                generalize X.world = W4 at *
                clear X hl3 hkk hpt3 hrd hk3 hdr e0 e1 e2 e3 e4 e5 e6 hbw hlD3
                obtain ⟨e0, e1, e2, e3, e4, e5, e6⟩ := hev.block (hl4.block bb hbb)
                simp only at e0 e1 e2 e3 e4 e5 e6
                have hbw := Nat.lt_of_lt_of_le hbb hl4.size
                have cs4 := xs4.cell
                have ls4 := xs4.lt
                have fs4 := xs4.free
                have kc := fun Y : GW W4 => run_str (P := Tryd.prog) 45 9 5 Tryd.underlying45 Tryd.underlying5 Tryd.underlying9 (hrd4.below Y.grow)
                rw [hxs2] at kc
                by_cases hOe : Oj = ⟨#[]⟩
                · have hOb : O = ⟨#[]⟩ := by
                    rcases Classical.em (O = ⟨#[]⟩) with h | h
                    · exact h
                    · rw [HX1.out h] at hOe; exact absurd hOe h
                  have hxe : xs = [] := strOf_nil (hxs2.trans hOe)
                  have HSN : Hid (x = true → u1 = cntN g k b 1 g.h1 (j + 1) ∧ u2 = cntN g k b 2 g.h2 (j + 1) ∧ u3 = cntN g k b 3 g.h3 (j + 1)) := fun hx1 => by
                    obtain ⟨y1, y2, y3⟩ := HSUM2.out hx1
                    have z1 := cnt_step j hlt3 g k b r c sh al ct 1 g.h1 rfl (by decide) Oj (hx1 ▸ hOj)
                    have v1 := cnt_range g k b 1 g.h1 (j + 1) (by omega)
                    have p1 := cnt_range g k b 1 g.h1 j (by omega)
                    have z2 := cnt_step j hlt3 g k b r c sh al ct 2 g.h2 rfl (by decide) Oj (hx1 ▸ hOj)
                    have v2 := cnt_range g k b 2 g.h2 (j + 1) (by omega)
                    have p2 := cnt_range g k b 2 g.h2 j (by omega)
                    have z3 := cnt_step j hlt3 g k b r c sh al ct 3 g.h3 rfl (by decide) Oj (hx1 ▸ hOj)
                    have v3 := cnt_range g k b 3 g.h3 (j + 1) (by omega)
                    have p3 := cnt_range g k b 3 g.h3 j (by omega)
                    rw [if_neg (fun h => h.1 hOe), if_neg (fun h => h.1 hOe)] at z1
                    rw [if_neg (fun h => h.1 hOe), if_neg (fun h => h.1 hOe)] at z2
                    rw [if_neg (fun h => h.1 hOe), if_neg (fun h => h.1 hOe)] at z3
                    refine ⟨?_, ?_, ?_⟩
                    · omega
                    · omega
                    · omega
                  subst hOb hxe
                  simp only [List.length_nil] at kc hrd4
                  clear HX0 HX1 hO0
                  by_cases hj0 : j = 0
                  · subst hj0
                    simp only [Nat.zero_mul] at cM hpt4 hkk4
                    as_aux_lemma =>
                      go_wp2_with (first | (go_at_call 14; (with_reducible refine (cV _).mono ?_); rintro e w9 ⟨rfl, hb⟩; obtain ⟨X, rfl⟩ := GW.of hb; clear hb))
                      have hl5' : Below w.heap.size w X.world := bl_trans hl4 X.grow
                      have hb5' : Bar b1 W4 X.world := (Bar.refl _ _).below X.grow
                      have xs5' : Box X.world b1 #[.int .i64 u0, .int .i64 u1, .int .i64 u2, .int .i64 u3] 44 := xs4.gw
                      have hl5 : Below w.heap.size w (X.world.alloc (.cells #[.int .i64 k, .int .i64 b, .int .i64 r, .int .i64 c, .bool sh, .bool al, .bool ct] 24)) := bl_alloc hl5' _
                      have hb5 : Bar b1 W4 (X.world.alloc (.cells #[.int .i64 k, .int .i64 b, .int .i64 r, .int .i64 c, .bool sh, .bool al, .bool ct] 24)) := hb5'.alloc _
                      have xs5 : Box (X.world.alloc (.cells #[.int .i64 k, .int .i64 b, .int .i64 r, .int .i64 c, .bool sh, .bool al, .bool ct] 24)) b1 #[.int .i64 u0, .int .i64 u1, .int .i64 u2, .int .i64 u3] 44 := xs5'.alloc _
                      have xe5 : Box (X.world.alloc (.cells #[.int .i64 k, .int .i64 b, .int .i64 r, .int .i64 c, .bool sh, .bool al, .bool ct] 24)) X.world.heap.size #[.int .i64 k, .int .i64 b, .int .i64 r, .int .i64 c, .bool sh, .bool al, .bool ct] 24 := Box.new _ _ _ rfl
                      have hne5 : X.world.heap.size ≠ w.heap.size := by have := X.grow.size; have := hl4.size; omega
                      generalize (X.world.alloc (.cells #[.int .i64 k, .int .i64 b, .int .i64 r, .int .i64 c, .bool sh, .bool al, .bool ct] 24)) = W5 at *
                      obtain ⟨bx, hbx⟩ : ∃ bx, X.world.heap.size = bx := ⟨_, rfl⟩
                      rw [hbx] at xe5 hne5 ⊢
                      clear hbx hl5' hb5' xs5'  cs4 ls4 fs4 kc X e0 e1 e2 e3 e4 e5 e6 hbw
                      have hpt5 : PtB W5 w.heap.size 0 (ptk x ((0 : Nat) : Int) (nxt g k b r c)) := hpt4.same (hb5.block w.heap.size (by omega) hpt4.lt)
                      have hld5 := hpt5.lt
                      have hdr : Below W5.heap.size W5 W5.drew := (Below.refl _ _).drew
                      obtain ⟨W6, hW6, xe6⟩ : ∃ W6, W5.drew = W6 ∧ Box W6 bx #[.int .i64 k, .int .i64 b, .int .i64 r, .int .i64 c, .bool sh, .bool al, .bool ct] 24 := ⟨W5.drew, rfl, xe5⟩
                      have hdr6 : Below W5.heap.size W5 W6 := hW6 ▸ hdr
                      have hTr : ∀ u1 u2 u3 : World, Bar w.heap.size u1 u2 → Bar w.heap.size u2 u3 → Bar w.heap.size u1 u3 := fun _ _ _ h1 h2 => Bar.trans h1 h2
                      have hGr : ∀ u1 u2 : World, Gr u1 u2 → Bar w.heap.size u1 u2 := fun _ _ h1 => Below.bar _ h1
                      refine wp_region_V (fun u1 u2 => Bar w.heap.size u1 u2) (by kernel_rfl) ?_
                      rw [hW6]
                      clear hW6 hdr
                      refine wpAnyV_takeS hTr hGr (A := ?A0n1) 0 rfl (by kernel_rfl) (by kernel_rfl) (by kernel_rfl) (fun _ _ _ _ h => h) ?q0n1 ?r0n1
                      case q0n1 =>
                        intro W hW
                        try simp only [List.getElem_toArray, List.getElem_cons_zero, List.getElem_cons_succ]
                        go_big_quiet_step (fail)
                        refine wpQuiet_nil ?_
                        rfl
                      refine wpAnyV_takeS hTr hGr (A := ?A1n1) 1 rfl (by kernel_rfl) (by kernel_rfl) (by kernel_rfl) (fun _ _ _ _ h => h) ?q1n1 ?r1n1
                      case q1n1 =>
                        intro W hW
                        try simp only [List.getElem_toArray, List.getElem_cons_zero, List.getElem_cons_succ]
                        go_big_quiet_step (fail)
                        refine wpQuiet_nil ?_
                        rfl
                      refine wpAnyV_takeS hTr hGr (A := ?A2n1) 2 rfl (by kernel_rfl) (by kernel_rfl) (by kernel_rfl) (fun _ _ _ _ h => h) ?q2n1 ?r2n1
                      case q2n1 =>
                        intro W hW
                        try simp only [List.getElem_toArray, List.getElem_cons_zero, List.getElem_cons_succ]
                        go_big_quiet_step (fail)
                        refine wpQuiet_nil ?_
                        rfl
                      refine wpAnyV_takeS hTr hGr (A := ?A3n1) 3 rfl (by kernel_rfl) (by kernel_rfl) (by kernel_rfl) (fun _ _ _ _ h => h) ?q3n1 ?r3n1
                      case q3n1 =>
                        intro W hW
                        have hxW : Box W bx _ _ := (hW.block bx hne5 xe6.lt).trans xe6
                        have cxW := hxW.cell
                        have lxW := hxW.lt
                        try simp only [List.getElem_toArray, List.getElem_cons_zero, List.getElem_cons_succ]
                        go_big_quiet_step (fail)
                        refine wpQuiet_nil ?_
                        rfl
                      refine wpAnyV_takeS hTr hGr (A := ?A4n1) 4 rfl (by kernel_rfl) (by kernel_rfl) (by kernel_rfl) (fun _ _ _ _ h => h) ?q4n1 ?r4n1
                      case q4n1 =>
                        intro W hW
                        try simp only [List.getElem_toArray, List.getElem_cons_zero, List.getElem_cons_succ]
                        go_big_quiet_step (fail)
                        refine wpQuiet_nil ?_
                        rfl
                      refine wpAnyV_takeS hTr hGr (A := ?A5n1) 5 rfl (by kernel_rfl) (by kernel_rfl) (by kernel_rfl) (fun _ _ _ _ h => h) ?q5n1 ?r5n1
                      case q5n1 =>
                        intro W hW
                        have hxW : Box W bx _ _ := (hW.block bx hne5 xe6.lt).trans xe6
                        have cxW := hxW.cell
                        have lxW := hxW.lt
                        try simp only [List.getElem_toArray, List.getElem_cons_zero, List.getElem_cons_succ]
                        go_big_quiet_step (fail)
                        refine wpQuiet_nil ?_
                        rfl
                      refine wpAnyV_takeS hTr hGr (A := ?A6n1) 6 rfl (by kernel_rfl) (by kernel_rfl) (by kernel_rfl) (fun _ _ _ _ h => h) ?q6n1 ?r6n1
                      case q6n1 =>
                        intro W hW
                        try simp only [List.getElem_toArray, List.getElem_cons_zero, List.getElem_cons_succ]
                        go_big_quiet_step ((go_at_call 15; with_reducible exact GW.call (move_any _ _ _)))
                        refine wpQuiet_nil ?_
                        rfl
                      refine wpAnyV_one 7 (by kernel_rfl) ?_
                      intro W hW
                      obtain ⟨X, rfl⟩ := GW.of hW
                      refine wpOp_step rfl (fun K hK => ?_)
                      go_simp
                      (with_reducible refine (cM _ (hpt5.below (bl_trans hdr6 X.grow)) (ht.below (bl_trans hl5 (bl_trans hdr6 X.grow)))).mono ?_)
                      rintro e w7 ⟨v7, xs7, rfl, hrd7, hxs7, hpt7, hk7⟩
                      rw [strOf_nil hxs7] at hrd7
                      obtain ⟨pv7, nv7, cv7, hve7⟩ := hrd7.shape
                      subst hve7
                      have hnv7 := hrd7.len
                      simp only [List.length_nil] at hnv7
                      subst hnv7
                      have hk57 : Keep w.heap.size 0 W5 w7 := (Keep.of_below (bl_trans hdr6 X.grow)).trans hk7
                      have hl7 : Below w.heap.size w w7 := Bar.to_below hl5 hk57.1 (Nat.le_refl _)
                      go_simp
                      refine hK _ _ ⟨hk7.1, ?_⟩
                      clear hK K
                      try simp only [Act.put, List.getElem_toArray, List.getElem_cons_zero, List.getElem_cons_succ, List.setIfInBounds_toArray, List.set_cons_zero, List.set_cons_succ]
                      refine wpAnyV_takeS hTr hGr (A := ?A8n1) 8 rfl (by kernel_rfl) (by kernel_rfl) (by kernel_rfl) (fun _ _ _ _ h => h) ?q8n1 ?r8n1
                      case q8n1 =>
                        intro W hW
                        try simp only [List.getElem_toArray, List.getElem_cons_zero, List.getElem_cons_succ]
                        go_big_quiet_step (fail)
                        refine wpQuiet_nil ?_
                        rfl
                      refine wpAnyV_takeS hTr hGr (A := ?A9n1) 9 rfl (by kernel_rfl) (by kernel_rfl) (by kernel_rfl) (fun _ _ _ _ h => h) ?q9n1 ?r9n1
                      case q9n1 =>
                        intro W hW
                        try simp only [List.getElem_toArray, List.getElem_cons_zero, List.getElem_cons_succ]
                        go_big_quiet_step (fail)
                        refine wpQuiet_nil ?_
                        rfl
                      refine wpAnyV_takeS hTr hGr (A := ?A10n1) 10 rfl (by kernel_rfl) (by kernel_rfl) (by kernel_rfl) (fun _ _ _ _ h => h) ?q10n1 ?r10n1
                      case q10n1 =>
                        intro W hW
                        try simp only [List.getElem_toArray, List.getElem_cons_zero, List.getElem_cons_succ]
                        go_big_quiet_step (fail)
                        refine wpQuiet_nil ?_
                        rfl
                      refine wpAnyV_takeS hTr hGr (A := ?A11n1) 11 rfl (by kernel_rfl) (by kernel_rfl) (by kernel_rfl) (fun _ _ _ _ h => h) ?q11n1 ?r11n1
                      case q11n1 =>
                        intro W hW
                        try simp only [List.getElem_toArray, List.getElem_cons_zero, List.getElem_cons_succ]
                        go_big_quiet_step (fail)
                        refine wpQuiet_nil ?_
                        rfl
                      refine wpAnyV_takeS hTr hGr (A := ?A12n1) 12 rfl (by kernel_rfl) (by kernel_rfl) (by kernel_rfl) (fun _ _ _ _ h => h) ?q12n1 ?r12n1
                      case q12n1 =>
                        intro W hW
                        try simp only [List.getElem_toArray, List.getElem_cons_zero, List.getElem_cons_succ]
                        go_big_quiet_step (fail)
                        refine wpQuiet_nil ?_
                        rfl
                      refine wpAnyV_done (by kernel_rfl) ?_ _
                      intro W hW
                      obtain ⟨X, rfl⟩ := GW.of hW
                      clear hW
                      go_wp2_with fail
                      have hq1 : ∀ m : Nat, m < 4 → PtB X.world w.heap.size (m * 6) (ptk x (m : Int) (if m < 0 + 1 then nxt g k b r c else g)) := fun m hm => by
                        by_cases hmj : m = 0
                        · subst hmj
                          rw [if_pos (by omega)]
                          rw [after_move] at hpt7
                          exact hpt7.below X.grow
                        · have h1 := (HPT2.out m hm).keep hkk4 (by omega)
                          have h2 := h1.same (hb5.block w.heap.size (by omega) h1.lt)
                          have h3 := (h2.keep hk57 (by omega)).below X.grow
                          by_cases hmj2 : m < 0
                          · rw [if_pos hmj2] at h3; rw [if_pos (by omega)]; exact h3
                          · rw [if_neg hmj2] at h3; rw [if_neg (by omega)]; exact h3
                      have hq2 : Box X.world b1 #[.int .i64 u0, .int .i64 u1, .int .i64 u2, .int .i64 u3] 44 := Box.gw ((hk57.1.block b1 (by omega) xs5.lt).trans xs5)
                      have hq3 : Hid (∀ i : Nat, i + 1 = 0 + 1 → doS (ptk x (i : Int) g) k b r c sh al ct = Oj) := fun i hi => by
                        have hij : i = 0 := by omega
                        rw [hij]
                        exact hOj
                      go_roundw
                      case rel => exact ⟨0 + 1, Oj, u0, u1, u2, u3, by omega, by go_num, (by rw [hOe]), fun h => absurd h (by omega), hq3, hq1, hq2, HSN.out, bl_trans hl7 X.grow⟩
                      case measure => first | (simp [intOf]; done) | (simp [intOf]; omega)
                  · have hj0' : ((j : Int) == 0) = false := by simp; omega
                    as_aux_lemma =>
                      go_wp2_with (first | (go_at_call 14; (with_reducible refine (cV _).mono ?_); rintro e w9 ⟨rfl, hb⟩; obtain ⟨X, rfl⟩ := GW.of hb; clear hb))
                      have hl5' : Below w.heap.size w X.world := bl_trans hl4 X.grow
                      have hb5' : Bar b1 W4 X.world := (Bar.refl _ _).below X.grow
                      have xs5' : Box X.world b1 #[.int .i64 u0, .int .i64 u1, .int .i64 u2, .int .i64 u3] 44 := xs4.gw
                      have hl5 : Below w.heap.size w (X.world.alloc (.cells #[.int .i64 k, .int .i64 b, .int .i64 r, .int .i64 c, .bool sh, .bool al, .bool ct] 24)) := bl_alloc hl5' _
                      have hb5 : Bar b1 W4 (X.world.alloc (.cells #[.int .i64 k, .int .i64 b, .int .i64 r, .int .i64 c, .bool sh, .bool al, .bool ct] 24)) := hb5'.alloc _
                      have xs5 : Box (X.world.alloc (.cells #[.int .i64 k, .int .i64 b, .int .i64 r, .int .i64 c, .bool sh, .bool al, .bool ct] 24)) b1 #[.int .i64 u0, .int .i64 u1, .int .i64 u2, .int .i64 u3] 44 := xs5'.alloc _
                      have xe5 : Box (X.world.alloc (.cells #[.int .i64 k, .int .i64 b, .int .i64 r, .int .i64 c, .bool sh, .bool al, .bool ct] 24)) X.world.heap.size #[.int .i64 k, .int .i64 b, .int .i64 r, .int .i64 c, .bool sh, .bool al, .bool ct] 24 := Box.new _ _ _ rfl
                      have hne5 : X.world.heap.size ≠ w.heap.size := by have := X.grow.size; have := hl4.size; omega
                      generalize (X.world.alloc (.cells #[.int .i64 k, .int .i64 b, .int .i64 r, .int .i64 c, .bool sh, .bool al, .bool ct] 24)) = W5 at *
                      obtain ⟨bx, hbx⟩ : ∃ bx, X.world.heap.size = bx := ⟨_, rfl⟩
                      rw [hbx] at xe5 hne5 ⊢
                      clear hbx hl5' hb5' xs5'  cs4 ls4 fs4 kc X e0 e1 e2 e3 e4 e5 e6 hbw
                      have hpt5 : PtB W5 w.heap.size (j * 6) (ptk x (j : Int) (nxt g k b r c)) := hpt4.same (hb5.block w.heap.size (by omega) hpt4.lt)
                      have hld5 := hpt5.lt
                      have hdr : Below W5.heap.size W5 W5.drew := (Below.refl _ _).drew
                      obtain ⟨W6, hW6, xe6⟩ : ∃ W6, W5.drew = W6 ∧ Box W6 bx #[.int .i64 k, .int .i64 b, .int .i64 r, .int .i64 c, .bool sh, .bool al, .bool ct] 24 := ⟨W5.drew, rfl, xe5⟩
                      have hdr6 : Below W5.heap.size W5 W6 := hW6 ▸ hdr
                      have hTr : ∀ u1 u2 u3 : World, Bar w.heap.size u1 u2 → Bar w.heap.size u2 u3 → Bar w.heap.size u1 u3 := fun _ _ _ h1 h2 => Bar.trans h1 h2
                      have hGr : ∀ u1 u2 : World, Gr u1 u2 → Bar w.heap.size u1 u2 := fun _ _ h1 => Below.bar _ h1
                      refine wp_region_V (fun u1 u2 => Bar w.heap.size u1 u2) (by kernel_rfl) ?_
                      rw [hW6]
                      clear hW6 hdr
                      refine wpAnyV_takeS hTr hGr (A := ?A0n2) 0 rfl (by kernel_rfl) (by kernel_rfl) (by kernel_rfl) (fun _ _ _ _ h => h) ?q0n2 ?r0n2
                      case q0n2 =>
                        intro W hW
                        try simp only [List.getElem_toArray, List.getElem_cons_zero, List.getElem_cons_succ]
                        go_big_quiet_step (fail)
                        refine wpQuiet_nil ?_
                        rfl
                      refine wpAnyV_takeS hTr hGr (A := ?A1n2) 1 rfl (by kernel_rfl) (by kernel_rfl) (by kernel_rfl) (fun _ _ _ _ h => h) ?q1n2 ?r1n2
                      case q1n2 =>
                        intro W hW
                        try simp only [List.getElem_toArray, List.getElem_cons_zero, List.getElem_cons_succ]
                        go_big_quiet_step (fail)
                        refine wpQuiet_nil ?_
                        rfl
                      refine wpAnyV_takeS hTr hGr (A := ?A2n2) 2 rfl (by kernel_rfl) (by kernel_rfl) (by kernel_rfl) (fun _ _ _ _ h => h) ?q2n2 ?r2n2
                      case q2n2 =>
                        intro W hW
                        try simp only [List.getElem_toArray, List.getElem_cons_zero, List.getElem_cons_succ]
                        go_big_quiet_step (fail)
                        refine wpQuiet_nil ?_
                        rfl
                      refine wpAnyV_takeS hTr hGr (A := ?A3n2) 3 rfl (by kernel_rfl) (by kernel_rfl) (by kernel_rfl) (fun _ _ _ _ h => h) ?q3n2 ?r3n2
                      case q3n2 =>
                        intro W hW
                        have hxW : Box W bx _ _ := (hW.block bx hne5 xe6.lt).trans xe6
                        have cxW := hxW.cell
                        have lxW := hxW.lt
                        try simp only [List.getElem_toArray, List.getElem_cons_zero, List.getElem_cons_succ]
                        go_big_quiet_step (fail)
                        refine wpQuiet_nil ?_
                        rfl
                      refine wpAnyV_takeS hTr hGr (A := ?A4n2) 4 rfl (by kernel_rfl) (by kernel_rfl) (by kernel_rfl) (fun _ _ _ _ h => h) ?q4n2 ?r4n2
                      case q4n2 =>
                        intro W hW
                        try simp only [List.getElem_toArray, List.getElem_cons_zero, List.getElem_cons_succ]
                        go_big_quiet_step (fail)
                        refine wpQuiet_nil ?_
                        rfl
                      refine wpAnyV_takeS hTr hGr (A := ?A5n2) 5 rfl (by kernel_rfl) (by kernel_rfl) (by kernel_rfl) (fun _ _ _ _ h => h) ?q5n2 ?r5n2
                      case q5n2 =>
                        intro W hW
                        have hxW : Box W bx _ _ := (hW.block bx hne5 xe6.lt).trans xe6
                        have cxW := hxW.cell
                        have lxW := hxW.lt
                        try simp only [List.getElem_toArray, List.getElem_cons_zero, List.getElem_cons_succ]
                        go_big_quiet_step (fail)
                        refine wpQuiet_nil ?_
                        rfl
                      refine wpAnyV_takeS hTr hGr (A := ?A6n2) 6 rfl (by kernel_rfl) (by kernel_rfl) (by kernel_rfl) (fun _ _ _ _ h => h) ?q6n2 ?r6n2
                      case q6n2 =>
                        intro W hW
                        try simp only [List.getElem_toArray, List.getElem_cons_zero, List.getElem_cons_succ]
                        go_big_quiet_step ((go_at_call 15; with_reducible exact GW.call (move_any _ _ _)))
                        refine wpQuiet_nil ?_
                        rfl
                      refine wpAnyV_one 7 (by kernel_rfl) ?_
                      intro W hW
                      obtain ⟨X, rfl⟩ := GW.of hW
                      refine wpOp_step rfl (fun K hK => ?_)
                      go_simp
                      (with_reducible refine (cM _ (hpt5.below (bl_trans hdr6 X.grow)) (ht.below (bl_trans hl5 (bl_trans hdr6 X.grow)))).mono ?_)
                      rintro e w7 ⟨v7, xs7, rfl, hrd7, hxs7, hpt7, hk7⟩
                      rw [strOf_nil hxs7] at hrd7
                      obtain ⟨pv7, nv7, cv7, hve7⟩ := hrd7.shape
                      subst hve7
                      have hnv7 := hrd7.len
                      simp only [List.length_nil] at hnv7
                      subst hnv7
                      have hk57 : Keep w.heap.size (j * 6) W5 w7 := (Keep.of_below (bl_trans hdr6 X.grow)).trans hk7
                      have hl7 : Below w.heap.size w w7 := Bar.to_below hl5 hk57.1 (Nat.le_refl _)
                      go_simp
                      refine hK _ _ ⟨hk7.1, ?_⟩
                      clear hK K
                      try simp only [Act.put, List.getElem_toArray, List.getElem_cons_zero, List.getElem_cons_succ, List.setIfInBounds_toArray, List.set_cons_zero, List.set_cons_succ]
                      refine wpAnyV_takeS hTr hGr (A := ?A8n2) 8 rfl (by kernel_rfl) (by kernel_rfl) (by kernel_rfl) (fun _ _ _ _ h => h) ?q8n2 ?r8n2
                      case q8n2 =>
                        intro W hW
                        try simp only [List.getElem_toArray, List.getElem_cons_zero, List.getElem_cons_succ]
                        go_big_quiet_step (fail)
                        refine wpQuiet_nil ?_
                        rfl
                      refine wpAnyV_takeS hTr hGr (A := ?A9n2) 9 rfl (by kernel_rfl) (by kernel_rfl) (by kernel_rfl) (fun _ _ _ _ h => h) ?q9n2 ?r9n2
                      case q9n2 =>
                        intro W hW
                        try simp only [List.getElem_toArray, List.getElem_cons_zero, List.getElem_cons_succ]
                        go_big_quiet_step (fail)
                        refine wpQuiet_nil ?_
                        rfl
                      refine wpAnyV_takeS hTr hGr (A := ?A10n2) 10 rfl (by kernel_rfl) (by kernel_rfl) (by kernel_rfl) (fun _ _ _ _ h => h) ?q10n2 ?r10n2
                      case q10n2 =>
                        intro W hW
                        try simp only [List.getElem_toArray, List.getElem_cons_zero, List.getElem_cons_succ]
                        go_big_quiet_step (fail)
                        refine wpQuiet_nil ?_
                        rfl
                      refine wpAnyV_takeS hTr hGr (A := ?A11n2) 11 rfl (by kernel_rfl) (by kernel_rfl) (by kernel_rfl) (fun _ _ _ _ h => h) ?q11n2 ?r11n2
                      case q11n2 =>
                        intro W hW
                        try simp only [List.getElem_toArray, List.getElem_cons_zero, List.getElem_cons_succ]
                        go_big_quiet_step (fail)
                        refine wpQuiet_nil ?_
                        rfl
                      refine wpAnyV_takeS hTr hGr (A := ?A12n2) 12 rfl (by kernel_rfl) (by kernel_rfl) (by kernel_rfl) (fun _ _ _ _ h => h) ?q12n2 ?r12n2
                      case q12n2 =>
                        intro W hW
                        try simp only [List.getElem_toArray, List.getElem_cons_zero, List.getElem_cons_succ]
                        go_big_quiet_step (fail)
                        refine wpQuiet_nil ?_
                        rfl
                      refine wpAnyV_done (by kernel_rfl) ?_ _
                      intro W hW
                      obtain ⟨X, rfl⟩ := GW.of hW
                      clear hW
                      go_wp2_with fail
                      have hq1 : ∀ m : Nat, m < 4 → PtB X.world w.heap.size (m * 6) (ptk x (m : Int) (if m < j + 1 then nxt g k b r c else g)) := fun m hm => by
                        by_cases hmj : m = j
                        · subst hmj
                          rw [if_pos (by omega)]
                          rw [after_move] at hpt7
                          exact hpt7.below X.grow
                        · have h1 := (HPT2.out m hm).keep hkk4 (by omega)
                          have h2 := h1.same (hb5.block w.heap.size (by omega) h1.lt)
                          have h3 := (h2.keep hk57 (by omega)).below X.grow
                          by_cases hmj2 : m < j
                          · rw [if_pos hmj2] at h3; rw [if_pos (by omega)]; exact h3
                          · rw [if_neg hmj2] at h3; rw [if_neg (by omega)]; exact h3
                      have hq2 : Box X.world b1 #[.int .i64 u0, .int .i64 u1, .int .i64 u2, .int .i64 u3] 44 := Box.gw ((hk57.1.block b1 (by omega) xs5.lt).trans xs5)
                      have hq3 : Hid (∀ i : Nat, i + 1 = j + 1 → doS (ptk x (i : Int) g) k b r c sh al ct = Oj) := fun i hi => by
                        have hij : i = j := by omega
                        rw [hij]
                        exact hOj
                      go_roundw
                      case rel => exact ⟨j + 1, Oj, u0, u1, u2, u3, by omega, by go_num, (by rw [hOe]), fun h => absurd h (by omega), hq3, hq1, hq2, HSN.out, bl_trans hl7 X.grow⟩
                      case measure => first | (simp [intOf]; done) | (simp [intOf]; omega)
                · have hj0 : j ≠ 0 := fun h => hOe (HX0.out h)
                  have hj0' : ((j : Int) == 0) = false := by simp; omega
                  have hpos := strOf_ne hxs2 hOe
                  have hpos' : (0 : Int) < (xs.length : Int) := by omega
                  have hvv : (((k = 1 ∨ k = 2) ∧ 1 ≤ b ∧ b ≤ 3) ∨ ((k = 3 ∨ k = 4 ∨ k = 5) ∧ b = 0)) := by
                    unfold validE at hv
                    exact (of_decide_eq_true hv).1
                  have HOO : Hid (O = ⟨#[]⟩ ∨ (Oj = O ∧ (O.toList == ([] : List UInt8)) = false)) := by
                    rcases Classical.em (O = ⟨#[]⟩) with h | h
                    · exact .inl h
                    · exact .inr ⟨HX1.out h, toList_ne h⟩
                  clear HX0 HX1 hO0
                  rcases hvv with ⟨hk12, hb13⟩ | ⟨hk35, hb0⟩
                  · have hb3 : b = 1 ∨ b = 2 ∨ b = 3 := by omega
                    rcases hk12 with rfl | rfl
                    · rcases hb3 with rfl | rfl | rfl
                      · have HSN : Hid (x = true → (wrap64 (u1 + 1)) = cntN g 1 1 1 g.h1 (j + 1) ∧ u2 = cntN g 1 1 2 g.h2 (j + 1) ∧ u3 = cntN g 1 1 3 g.h3 (j + 1)) := fun hx1 => by
                          obtain ⟨y1, y2, y3⟩ := HSUM2.out hx1
                          have z1 := cnt_step j hlt3 g 1 1 r c sh al ct 1 g.h1 rfl (by decide) Oj (hx1 ▸ hOj)
                          have v1 := cnt_range g 1 1 1 g.h1 (j + 1) (by omega)
                          have p1 := cnt_range g 1 1 1 g.h1 j (by omega)
                          have z2 := cnt_step j hlt3 g 1 1 r c sh al ct 2 g.h2 rfl (by decide) Oj (hx1 ▸ hOj)
                          have v2 := cnt_range g 1 1 2 g.h2 (j + 1) (by omega)
                          have p2 := cnt_range g 1 1 2 g.h2 j (by omega)
                          have z3 := cnt_step j hlt3 g 1 1 r c sh al ct 3 g.h3 rfl (by decide) Oj (hx1 ▸ hOj)
                          have v3 := cnt_range g 1 1 3 g.h3 (j + 1) (by omega)
                          have p3 := cnt_range g 1 1 3 g.h3 j (by omega)
                          rw [if_pos ⟨hOe, rfl, rfl⟩, if_neg (fun h => by have := h.2.1; omega)] at z1
                          rw [if_neg (fun h => absurd h.2.2 (by decide)), if_neg (fun h => by have := h.2.1; omega)] at z2
                          rw [if_neg (fun h => absurd h.2.2 (by decide)), if_neg (fun h => by have := h.2.1; omega)] at z3
                          refine ⟨?_, ?_, ?_⟩
                          · rw [IntWalk.wrap64_in _ (by omega)]; omega
                          · omega
                          · omega
                        rcases HOO.out with rfl | ⟨hoo, hto⟩
                        · clear HOO
                          as_aux_lemma =>
                            go_wp2_with (first | (go_at_call 14; (with_reducible refine (cV _).mono ?_); rintro e w9 ⟨rfl, hb⟩; obtain ⟨X, rfl⟩ := GW.of hb; clear hb))
                            have hl5' : Below w.heap.size w (X.world.setCell ⟨b1, 1, none⟩ (.int .i64 (wrap64 (u1 + 1)))) := Bar.to_below (bl_trans hl4 X.grow) ((Bar.refl b1 _).set _ _) hws1
                            have hb5' : Bar b1 W4 (X.world.setCell ⟨b1, 1, none⟩ (.int .i64 (wrap64 (u1 + 1)))) := ((Bar.refl b1 W4).below X.grow).set _ _
                            have xs5' : Box (X.world.setCell ⟨b1, 1, none⟩ (.int .i64 (wrap64 (u1 + 1)))) b1 #[.int .i64 u0, .int .i64 (wrap64 (u1 + 1)), .int .i64 u2, .int .i64 u3] 44 := Box.as (Box.set (Box.gw xs4) 1 _) (by simp)
                            have hl5 : Below w.heap.size w ((X.world.setCell ⟨b1, 1, none⟩ (.int .i64 (wrap64 (u1 + 1)))).alloc (.cells #[.int .i64 1, .int .i64 1, .int .i64 r, .int .i64 c, .bool sh, .bool al, .bool ct] 24)) := bl_alloc hl5' _
                            have hb5 : Bar b1 W4 ((X.world.setCell ⟨b1, 1, none⟩ (.int .i64 (wrap64 (u1 + 1)))).alloc (.cells #[.int .i64 1, .int .i64 1, .int .i64 r, .int .i64 c, .bool sh, .bool al, .bool ct] 24)) := hb5'.alloc _
                            have xs5 : Box ((X.world.setCell ⟨b1, 1, none⟩ (.int .i64 (wrap64 (u1 + 1)))).alloc (.cells #[.int .i64 1, .int .i64 1, .int .i64 r, .int .i64 c, .bool sh, .bool al, .bool ct] 24)) b1 #[.int .i64 u0, .int .i64 (wrap64 (u1 + 1)), .int .i64 u2, .int .i64 u3] 44 := xs5'.alloc _
                            have xe5 : Box ((X.world.setCell ⟨b1, 1, none⟩ (.int .i64 (wrap64 (u1 + 1)))).alloc (.cells #[.int .i64 1, .int .i64 1, .int .i64 r, .int .i64 c, .bool sh, .bool al, .bool ct] 24)) (X.world.setCell ⟨b1, 1, none⟩ (.int .i64 (wrap64 (u1 + 1)))).heap.size #[.int .i64 1, .int .i64 1, .int .i64 r, .int .i64 c, .bool sh, .bool al, .bool ct] 24 := Box.new _ _ _ rfl
                            have esz : (X.world.setCell ⟨b1, 1, none⟩ (.int .i64 (wrap64 (u1 + 1)))).heap.size = X.world.heap.size := by simp
                            rw [esz] at xe5
                            have hne5 : X.world.heap.size ≠ w.heap.size := by have := X.grow.size; have := hl4.size; omega
                            generalize ((X.world.setCell ⟨b1, 1, none⟩ (.int .i64 (wrap64 (u1 + 1)))).alloc (.cells #[.int .i64 1, .int .i64 1, .int .i64 r, .int .i64 c, .bool sh, .bool al, .bool ct] 24)) = W5 at *
                            obtain ⟨bx, hbx⟩ : ∃ bx, X.world.heap.size = bx := ⟨_, rfl⟩
                            rw [hbx] at xe5 hne5 ⊢
                            clear hbx hl5' hb5' xs5' esz cs4 ls4 fs4 kc X e0 e1 e2 e3 e4 e5 e6 hbw
                            have hpt5 : PtB W5 w.heap.size (j * 6) (ptk x (j : Int) (nxt g 1 1 r c)) := hpt4.same (hb5.block w.heap.size (by omega) hpt4.lt)
                            have hld5 := hpt5.lt
                            have hdr : Below W5.heap.size W5 W5.drew := (Below.refl _ _).drew
                            obtain ⟨W6, hW6, xe6⟩ : ∃ W6, W5.drew = W6 ∧ Box W6 bx #[.int .i64 1, .int .i64 1, .int .i64 r, .int .i64 c, .bool sh, .bool al, .bool ct] 24 := ⟨W5.drew, rfl, xe5⟩
                            have hdr6 : Below W5.heap.size W5 W6 := hW6 ▸ hdr
                            have hTr : ∀ u1 u2 u3 : World, Bar w.heap.size u1 u2 → Bar w.heap.size u2 u3 → Bar w.heap.size u1 u3 := fun _ _ _ h1 h2 => Bar.trans h1 h2
                            have hGr : ∀ u1 u2 : World, Gr u1 u2 → Bar w.heap.size u1 u2 := fun _ _ h1 => Below.bar _ h1
                            refine wp_region_V (fun u1 u2 => Bar w.heap.size u1 u2) (by kernel_rfl) ?_
                            rw [hW6]
                            clear hW6 hdr
                            refine wpAnyV_takeS hTr hGr (A := ?A0p11a) 0 rfl (by kernel_rfl) (by kernel_rfl) (by kernel_rfl) (fun _ _ _ _ h => h) ?q0p11a ?r0p11a
                            case q0p11a =>
                              intro W hW
                              try simp only [List.getElem_toArray, List.getElem_cons_zero, List.getElem_cons_succ]
                              go_big_quiet_step (fail)
                              refine wpQuiet_nil ?_
                              rfl
                            refine wpAnyV_takeS hTr hGr (A := ?A1p11a) 1 rfl (by kernel_rfl) (by kernel_rfl) (by kernel_rfl) (fun _ _ _ _ h => h) ?q1p11a ?r1p11a
                            case q1p11a =>
                              intro W hW
                              try simp only [List.getElem_toArray, List.getElem_cons_zero, List.getElem_cons_succ]
                              go_big_quiet_step (fail)
                              refine wpQuiet_nil ?_
                              rfl
                            refine wpAnyV_takeS hTr hGr (A := ?A2p11a) 2 rfl (by kernel_rfl) (by kernel_rfl) (by kernel_rfl) (fun _ _ _ _ h => h) ?q2p11a ?r2p11a
                            case q2p11a =>
                              intro W hW
                              try simp only [List.getElem_toArray, List.getElem_cons_zero, List.getElem_cons_succ]
                              go_big_quiet_step (fail)
                              refine wpQuiet_nil ?_
                              rfl
                            refine wpAnyV_takeS hTr hGr (A := ?A3p11a) 3 rfl (by kernel_rfl) (by kernel_rfl) (by kernel_rfl) (fun _ _ _ _ h => h) ?q3p11a ?r3p11a
                            case q3p11a =>
                              intro W hW
                              have hxW : Box W bx _ _ := (hW.block bx hne5 xe6.lt).trans xe6
                              have cxW := hxW.cell
                              have lxW := hxW.lt
                              try simp only [List.getElem_toArray, List.getElem_cons_zero, List.getElem_cons_succ]
                              go_big_quiet_step (fail)
                              refine wpQuiet_nil ?_
                              rfl
                            refine wpAnyV_takeS hTr hGr (A := ?A4p11a) 4 rfl (by kernel_rfl) (by kernel_rfl) (by kernel_rfl) (fun _ _ _ _ h => h) ?q4p11a ?r4p11a
                            case q4p11a =>
                              intro W hW
                              try simp only [List.getElem_toArray, List.getElem_cons_zero, List.getElem_cons_succ]
                              go_big_quiet_step (fail)
                              refine wpQuiet_nil ?_
                              rfl
                            refine wpAnyV_takeS hTr hGr (A := ?A5p11a) 5 rfl (by kernel_rfl) (by kernel_rfl) (by kernel_rfl) (fun _ _ _ _ h => h) ?q5p11a ?r5p11a
                            case q5p11a =>
                              intro W hW
                              have hxW : Box W bx _ _ := (hW.block bx hne5 xe6.lt).trans xe6
                              have cxW := hxW.cell
                              have lxW := hxW.lt
                              try simp only [List.getElem_toArray, List.getElem_cons_zero, List.getElem_cons_succ]
                              go_big_quiet_step (fail)
                              refine wpQuiet_nil ?_
                              rfl
                            refine wpAnyV_takeS hTr hGr (A := ?A6p11a) 6 rfl (by kernel_rfl) (by kernel_rfl) (by kernel_rfl) (fun _ _ _ _ h => h) ?q6p11a ?r6p11a
                            case q6p11a =>
                              intro W hW
                              try simp only [List.getElem_toArray, List.getElem_cons_zero, List.getElem_cons_succ]
                              go_big_quiet_step ((go_at_call 15; with_reducible exact GW.call (move_any _ _ _)))
                              refine wpQuiet_nil ?_
                              rfl
                            refine wpAnyV_one 7 (by kernel_rfl) ?_
                            intro W hW
                            obtain ⟨X, rfl⟩ := GW.of hW
                            refine wpOp_step rfl (fun K hK => ?_)
                            go_simp
                            (with_reducible refine (cM _ (hpt5.below (bl_trans hdr6 X.grow)) (ht.below (bl_trans hl5 (bl_trans hdr6 X.grow)))).mono ?_)
                            rintro e w7 ⟨v7, xs7, rfl, hrd7, hxs7, hpt7, hk7⟩
                            rw [strOf_nil hxs7] at hrd7
                            obtain ⟨pv7, nv7, cv7, hve7⟩ := hrd7.shape
                            subst hve7
                            have hnv7 := hrd7.len
                            simp only [List.length_nil] at hnv7
                            subst hnv7
                            have hk57 : Keep w.heap.size (j * 6) W5 w7 := (Keep.of_below (bl_trans hdr6 X.grow)).trans hk7
                            have hl7 : Below w.heap.size w w7 := Bar.to_below hl5 hk57.1 (Nat.le_refl _)
                            go_simp
                            refine hK _ _ ⟨hk7.1, ?_⟩
                            clear hK K
                            try simp only [Act.put, List.getElem_toArray, List.getElem_cons_zero, List.getElem_cons_succ, List.setIfInBounds_toArray, List.set_cons_zero, List.set_cons_succ]
                            refine wpAnyV_takeS hTr hGr (A := ?A8p11a) 8 rfl (by kernel_rfl) (by kernel_rfl) (by kernel_rfl) (fun _ _ _ _ h => h) ?q8p11a ?r8p11a
                            case q8p11a =>
                              intro W hW
                              try simp only [List.getElem_toArray, List.getElem_cons_zero, List.getElem_cons_succ]
                              go_big_quiet_step (fail)
                              refine wpQuiet_nil ?_
                              rfl
                            refine wpAnyV_takeS hTr hGr (A := ?A9p11a) 9 rfl (by kernel_rfl) (by kernel_rfl) (by kernel_rfl) (fun _ _ _ _ h => h) ?q9p11a ?r9p11a
                            case q9p11a =>
                              intro W hW
                              try simp only [List.getElem_toArray, List.getElem_cons_zero, List.getElem_cons_succ]
                              go_big_quiet_step (fail)
                              refine wpQuiet_nil ?_
                              rfl
                            refine wpAnyV_takeS hTr hGr (A := ?A10p11a) 10 rfl (by kernel_rfl) (by kernel_rfl) (by kernel_rfl) (fun _ _ _ _ h => h) ?q10p11a ?r10p11a
                            case q10p11a =>
                              intro W hW
                              try simp only [List.getElem_toArray, List.getElem_cons_zero, List.getElem_cons_succ]
                              go_big_quiet_step (fail)
                              refine wpQuiet_nil ?_
                              rfl
                            refine wpAnyV_takeS hTr hGr (A := ?A11p11a) 11 rfl (by kernel_rfl) (by kernel_rfl) (by kernel_rfl) (fun _ _ _ _ h => h) ?q11p11a ?r11p11a
                            case q11p11a =>
                              intro W hW
                              try simp only [List.getElem_toArray, List.getElem_cons_zero, List.getElem_cons_succ]
                              go_big_quiet_step (fail)
                              refine wpQuiet_nil ?_
                              rfl
                            refine wpAnyV_takeS hTr hGr (A := ?A12p11a) 12 rfl (by kernel_rfl) (by kernel_rfl) (by kernel_rfl) (fun _ _ _ _ h => h) ?q12p11a ?r12p11a
                            case q12p11a =>
                              intro W hW
                              try simp only [List.getElem_toArray, List.getElem_cons_zero, List.getElem_cons_succ]
                              go_big_quiet_step (fail)
                              refine wpQuiet_nil ?_
                              rfl
                            refine wpAnyV_done (by kernel_rfl) ?_ _
                            intro W hW
                            obtain ⟨X, rfl⟩ := GW.of hW
                            clear hW
                            go_wp2_with fail
                            have hq1 : ∀ m : Nat, m < 4 → PtB X.world w.heap.size (m * 6) (ptk x (m : Int) (if m < j + 1 then nxt g 1 1 r c else g)) := fun m hm => by
                              by_cases hmj : m = j
                              · subst hmj
                                rw [if_pos (by omega)]
                                rw [after_move] at hpt7
                                exact hpt7.below X.grow
                              · have h1 := (HPT2.out m hm).keep hkk4 (by omega)
                                have h2 := h1.same (hb5.block w.heap.size (by omega) h1.lt)
                                have h3 := (h2.keep hk57 (by omega)).below X.grow
                                by_cases hmj2 : m < j
                                · rw [if_pos hmj2] at h3; rw [if_pos (by omega)]; exact h3
                                · rw [if_neg hmj2] at h3; rw [if_neg (by omega)]; exact h3
                            have hq2 : Box X.world b1 #[.int .i64 u0, .int .i64 (wrap64 (u1 + 1)), .int .i64 u2, .int .i64 u3] 44 := Box.gw ((hk57.1.block b1 (by omega) xs5.lt).trans xs5)
                            have hq3 : Hid (∀ i : Nat, i + 1 = j + 1 → doS (ptk x (i : Int) g) 1 1 r c sh al ct = Oj) := fun i hi => by
                              have hij : i = j := by omega
                              rw [hij]
                              exact hOj
                            go_roundw
                            case rel => exact ⟨j + 1, Oj, u0, (wrap64 (u1 + 1)), u2, u3, by omega, by go_num, rfl, fun h => absurd h (by omega), hq3, hq1, hq2, HSN.out, bl_trans hl7 X.grow⟩
                            case measure => first | (simp [intOf]; done) | (simp [intOf]; omega)
                        · subst hoo
                          clear HOO
                          as_aux_lemma =>
                            go_wp2_with (first | (go_at_call 14; (with_reducible refine (cV _).mono ?_); rintro e w9 ⟨rfl, hb⟩; obtain ⟨X, rfl⟩ := GW.of hb; clear hb))
                            have hl5' : Below w.heap.size w (X.world.setCell ⟨b1, 1, none⟩ (.int .i64 (wrap64 (u1 + 1)))) := Bar.to_below (bl_trans hl4 X.grow) ((Bar.refl b1 _).set _ _) hws1
                            have hb5' : Bar b1 W4 (X.world.setCell ⟨b1, 1, none⟩ (.int .i64 (wrap64 (u1 + 1)))) := ((Bar.refl b1 W4).below X.grow).set _ _
                            have xs5' : Box (X.world.setCell ⟨b1, 1, none⟩ (.int .i64 (wrap64 (u1 + 1)))) b1 #[.int .i64 u0, .int .i64 (wrap64 (u1 + 1)), .int .i64 u2, .int .i64 u3] 44 := Box.as (Box.set (Box.gw xs4) 1 _) (by simp)
                            have hl5 : Below w.heap.size w ((X.world.setCell ⟨b1, 1, none⟩ (.int .i64 (wrap64 (u1 + 1)))).alloc (.cells #[.int .i64 1, .int .i64 1, .int .i64 r, .int .i64 c, .bool sh, .bool al, .bool ct] 24)) := bl_alloc hl5' _
                            have hb5 : Bar b1 W4 ((X.world.setCell ⟨b1, 1, none⟩ (.int .i64 (wrap64 (u1 + 1)))).alloc (.cells #[.int .i64 1, .int .i64 1, .int .i64 r, .int .i64 c, .bool sh, .bool al, .bool ct] 24)) := hb5'.alloc _
                            have xs5 : Box ((X.world.setCell ⟨b1, 1, none⟩ (.int .i64 (wrap64 (u1 + 1)))).alloc (.cells #[.int .i64 1, .int .i64 1, .int .i64 r, .int .i64 c, .bool sh, .bool al, .bool ct] 24)) b1 #[.int .i64 u0, .int .i64 (wrap64 (u1 + 1)), .int .i64 u2, .int .i64 u3] 44 := xs5'.alloc _
                            have xe5 : Box ((X.world.setCell ⟨b1, 1, none⟩ (.int .i64 (wrap64 (u1 + 1)))).alloc (.cells #[.int .i64 1, .int .i64 1, .int .i64 r, .int .i64 c, .bool sh, .bool al, .bool ct] 24)) (X.world.setCell ⟨b1, 1, none⟩ (.int .i64 (wrap64 (u1 + 1)))).heap.size #[.int .i64 1, .int .i64 1, .int .i64 r, .int .i64 c, .bool sh, .bool al, .bool ct] 24 := Box.new _ _ _ rfl
                            have esz : (X.world.setCell ⟨b1, 1, none⟩ (.int .i64 (wrap64 (u1 + 1)))).heap.size = X.world.heap.size := by simp
                            rw [esz] at xe5
                            have hne5 : X.world.heap.size ≠ w.heap.size := by have := X.grow.size; have := hl4.size; omega
                            generalize ((X.world.setCell ⟨b1, 1, none⟩ (.int .i64 (wrap64 (u1 + 1)))).alloc (.cells #[.int .i64 1, .int .i64 1, .int .i64 r, .int .i64 c, .bool sh, .bool al, .bool ct] 24)) = W5 at *
                            obtain ⟨bx, hbx⟩ : ∃ bx, X.world.heap.size = bx := ⟨_, rfl⟩
                            rw [hbx] at xe5 hne5 ⊢
                            clear hbx hl5' hb5' xs5' esz cs4 ls4 fs4 kc X e0 e1 e2 e3 e4 e5 e6 hbw
                            have hpt5 : PtB W5 w.heap.size (j * 6) (ptk x (j : Int) (nxt g 1 1 r c)) := hpt4.same (hb5.block w.heap.size (by omega) hpt4.lt)
                            have hld5 := hpt5.lt
                            have hdr : Below W5.heap.size W5 W5.drew := (Below.refl _ _).drew
                            obtain ⟨W6, hW6, xe6⟩ : ∃ W6, W5.drew = W6 ∧ Box W6 bx #[.int .i64 1, .int .i64 1, .int .i64 r, .int .i64 c, .bool sh, .bool al, .bool ct] 24 := ⟨W5.drew, rfl, xe5⟩
                            have hdr6 : Below W5.heap.size W5 W6 := hW6 ▸ hdr
                            have hTr : ∀ u1 u2 u3 : World, Bar w.heap.size u1 u2 → Bar w.heap.size u2 u3 → Bar w.heap.size u1 u3 := fun _ _ _ h1 h2 => Bar.trans h1 h2
                            have hGr : ∀ u1 u2 : World, Gr u1 u2 → Bar w.heap.size u1 u2 := fun _ _ h1 => Below.bar _ h1
                            refine wp_region_V (fun u1 u2 => Bar w.heap.size u1 u2) (by kernel_rfl) ?_
                            rw [hW6]
                            clear hW6 hdr
                            refine wpAnyV_takeS hTr hGr (A := ?A0p11b) 0 rfl (by kernel_rfl) (by kernel_rfl) (by kernel_rfl) (fun _ _ _ _ h => h) ?q0p11b ?r0p11b
                            case q0p11b =>
                              intro W hW
                              try simp only [List.getElem_toArray, List.getElem_cons_zero, List.getElem_cons_succ]
                              go_big_quiet_step (fail)
                              refine wpQuiet_nil ?_
                              rfl
                            refine wpAnyV_takeS hTr hGr (A := ?A1p11b) 1 rfl (by kernel_rfl) (by kernel_rfl) (by kernel_rfl) (fun _ _ _ _ h => h) ?q1p11b ?r1p11b
                            case q1p11b =>
                              intro W hW
                              try simp only [List.getElem_toArray, List.getElem_cons_zero, List.getElem_cons_succ]
                              go_big_quiet_step (fail)
                              refine wpQuiet_nil ?_
                              rfl
                            refine wpAnyV_takeS hTr hGr (A := ?A2p11b) 2 rfl (by kernel_rfl) (by kernel_rfl) (by kernel_rfl) (fun _ _ _ _ h => h) ?q2p11b ?r2p11b
                            case q2p11b =>
                              intro W hW
                              try simp only [List.getElem_toArray, List.getElem_cons_zero, List.getElem_cons_succ]
                              go_big_quiet_step (fail)
                              refine wpQuiet_nil ?_
                              rfl
                            refine wpAnyV_takeS hTr hGr (A := ?A3p11b) 3 rfl (by kernel_rfl) (by kernel_rfl) (by kernel_rfl) (fun _ _ _ _ h => h) ?q3p11b ?r3p11b
                            case q3p11b =>
                              intro W hW
                              have hxW : Box W bx _ _ := (hW.block bx hne5 xe6.lt).trans xe6
                              have cxW := hxW.cell
                              have lxW := hxW.lt
                              try simp only [List.getElem_toArray, List.getElem_cons_zero, List.getElem_cons_succ]
                              go_big_quiet_step (fail)
                              refine wpQuiet_nil ?_
                              rfl
                            refine wpAnyV_takeS hTr hGr (A := ?A4p11b) 4 rfl (by kernel_rfl) (by kernel_rfl) (by kernel_rfl) (fun _ _ _ _ h => h) ?q4p11b ?r4p11b
                            case q4p11b =>
                              intro W hW
                              try simp only [List.getElem_toArray, List.getElem_cons_zero, List.getElem_cons_succ]
                              go_big_quiet_step (fail)
                              refine wpQuiet_nil ?_
                              rfl
                            refine wpAnyV_takeS hTr hGr (A := ?A5p11b) 5 rfl (by kernel_rfl) (by kernel_rfl) (by kernel_rfl) (fun _ _ _ _ h => h) ?q5p11b ?r5p11b
                            case q5p11b =>
                              intro W hW
                              have hxW : Box W bx _ _ := (hW.block bx hne5 xe6.lt).trans xe6
                              have cxW := hxW.cell
                              have lxW := hxW.lt
                              try simp only [List.getElem_toArray, List.getElem_cons_zero, List.getElem_cons_succ]
                              go_big_quiet_step (fail)
                              refine wpQuiet_nil ?_
                              rfl
                            refine wpAnyV_takeS hTr hGr (A := ?A6p11b) 6 rfl (by kernel_rfl) (by kernel_rfl) (by kernel_rfl) (fun _ _ _ _ h => h) ?q6p11b ?r6p11b
                            case q6p11b =>
                              intro W hW
                              try simp only [List.getElem_toArray, List.getElem_cons_zero, List.getElem_cons_succ]
                              go_big_quiet_step ((go_at_call 15; with_reducible exact GW.call (move_any _ _ _)))
                              refine wpQuiet_nil ?_
                              rfl
                            refine wpAnyV_one 7 (by kernel_rfl) ?_
                            intro W hW
                            obtain ⟨X, rfl⟩ := GW.of hW
                            refine wpOp_step rfl (fun K hK => ?_)
                            go_simp
                            (with_reducible refine (cM _ (hpt5.below (bl_trans hdr6 X.grow)) (ht.below (bl_trans hl5 (bl_trans hdr6 X.grow)))).mono ?_)
                            rintro e w7 ⟨v7, xs7, rfl, hrd7, hxs7, hpt7, hk7⟩
                            rw [strOf_nil hxs7] at hrd7
                            obtain ⟨pv7, nv7, cv7, hve7⟩ := hrd7.shape
                            subst hve7
                            have hnv7 := hrd7.len
                            simp only [List.length_nil] at hnv7
                            subst hnv7
                            have hk57 : Keep w.heap.size (j * 6) W5 w7 := (Keep.of_below (bl_trans hdr6 X.grow)).trans hk7
                            have hl7 : Below w.heap.size w w7 := Bar.to_below hl5 hk57.1 (Nat.le_refl _)
                            go_simp
                            refine hK _ _ ⟨hk7.1, ?_⟩
                            clear hK K
                            try simp only [Act.put, List.getElem_toArray, List.getElem_cons_zero, List.getElem_cons_succ, List.setIfInBounds_toArray, List.set_cons_zero, List.set_cons_succ]
                            refine wpAnyV_takeS hTr hGr (A := ?A8p11b) 8 rfl (by kernel_rfl) (by kernel_rfl) (by kernel_rfl) (fun _ _ _ _ h => h) ?q8p11b ?r8p11b
                            case q8p11b =>
                              intro W hW
                              try simp only [List.getElem_toArray, List.getElem_cons_zero, List.getElem_cons_succ]
                              go_big_quiet_step (fail)
                              refine wpQuiet_nil ?_
                              rfl
                            refine wpAnyV_takeS hTr hGr (A := ?A9p11b) 9 rfl (by kernel_rfl) (by kernel_rfl) (by kernel_rfl) (fun _ _ _ _ h => h) ?q9p11b ?r9p11b
                            case q9p11b =>
                              intro W hW
                              try simp only [List.getElem_toArray, List.getElem_cons_zero, List.getElem_cons_succ]
                              go_big_quiet_step (fail)
                              refine wpQuiet_nil ?_
                              rfl
                            refine wpAnyV_takeS hTr hGr (A := ?A10p11b) 10 rfl (by kernel_rfl) (by kernel_rfl) (by kernel_rfl) (fun _ _ _ _ h => h) ?q10p11b ?r10p11b
                            case q10p11b =>
                              intro W hW
                              try simp only [List.getElem_toArray, List.getElem_cons_zero, List.getElem_cons_succ]
                              go_big_quiet_step (fail)
                              refine wpQuiet_nil ?_
                              rfl
                            refine wpAnyV_takeS hTr hGr (A := ?A11p11b) 11 rfl (by kernel_rfl) (by kernel_rfl) (by kernel_rfl) (fun _ _ _ _ h => h) ?q11p11b ?r11p11b
                            case q11p11b =>
                              intro W hW
                              try simp only [List.getElem_toArray, List.getElem_cons_zero, List.getElem_cons_succ]
                              go_big_quiet_step (fail)
                              refine wpQuiet_nil ?_
                              rfl
                            refine wpAnyV_takeS hTr hGr (A := ?A12p11b) 12 rfl (by kernel_rfl) (by kernel_rfl) (by kernel_rfl) (fun _ _ _ _ h => h) ?q12p11b ?r12p11b
                            case q12p11b =>
                              intro W hW
                              try simp only [List.getElem_toArray, List.getElem_cons_zero, List.getElem_cons_succ]
                              go_big_quiet_step (fail)
                              refine wpQuiet_nil ?_
                              rfl
                            refine wpAnyV_done (by kernel_rfl) ?_ _
                            intro W hW
                            obtain ⟨X, rfl⟩ := GW.of hW
                            clear hW
                            go_wp2_with fail
                            have hq1 : ∀ m : Nat, m < 4 → PtB X.world w.heap.size (m * 6) (ptk x (m : Int) (if m < j + 1 then nxt g 1 1 r c else g)) := fun m hm => by
                              by_cases hmj : m = j
                              · subst hmj
                                rw [if_pos (by omega)]
                                rw [after_move] at hpt7
                                exact hpt7.below X.grow
                              · have h1 := (HPT2.out m hm).keep hkk4 (by omega)
                                have h2 := h1.same (hb5.block w.heap.size (by omega) h1.lt)
                                have h3 := (h2.keep hk57 (by omega)).below X.grow
                                by_cases hmj2 : m < j
                                · rw [if_pos hmj2] at h3; rw [if_pos (by omega)]; exact h3
                                · rw [if_neg hmj2] at h3; rw [if_neg (by omega)]; exact h3
                            have hq2 : Box X.world b1 #[.int .i64 u0, .int .i64 (wrap64 (u1 + 1)), .int .i64 u2, .int .i64 u3] 44 := Box.gw ((hk57.1.block b1 (by omega) xs5.lt).trans xs5)
                            have hq3 : Hid (∀ i : Nat, i + 1 = j + 1 → doS (ptk x (i : Int) g) 1 1 r c sh al ct = Oj) := fun i hi => by
                              have hij : i = j := by omega
                              rw [hij]
                              exact hOj
                            go_roundw
                            case rel => exact ⟨j + 1, Oj, u0, (wrap64 (u1 + 1)), u2, u3, by omega, by go_num, rfl, fun h => absurd h (by omega), hq3, hq1, hq2, HSN.out, bl_trans hl7 X.grow⟩
                            case measure => first | (simp [intOf]; done) | (simp [intOf]; omega)
                      · have HSN : Hid (x = true → u1 = cntN g 1 2 1 g.h1 (j + 1) ∧ (wrap64 (u2 + 1)) = cntN g 1 2 2 g.h2 (j + 1) ∧ u3 = cntN g 1 2 3 g.h3 (j + 1)) := fun hx1 => by
                          obtain ⟨y1, y2, y3⟩ := HSUM2.out hx1
                          have z1 := cnt_step j hlt3 g 1 2 r c sh al ct 1 g.h1 rfl (by decide) Oj (hx1 ▸ hOj)
                          have v1 := cnt_range g 1 2 1 g.h1 (j + 1) (by omega)
                          have p1 := cnt_range g 1 2 1 g.h1 j (by omega)
                          have z2 := cnt_step j hlt3 g 1 2 r c sh al ct 2 g.h2 rfl (by decide) Oj (hx1 ▸ hOj)
                          have v2 := cnt_range g 1 2 2 g.h2 (j + 1) (by omega)
                          have p2 := cnt_range g 1 2 2 g.h2 j (by omega)
                          have z3 := cnt_step j hlt3 g 1 2 r c sh al ct 3 g.h3 rfl (by decide) Oj (hx1 ▸ hOj)
                          have v3 := cnt_range g 1 2 3 g.h3 (j + 1) (by omega)
                          have p3 := cnt_range g 1 2 3 g.h3 j (by omega)
                          rw [if_neg (fun h => absurd h.2.2 (by decide)), if_neg (fun h => by have := h.2.1; omega)] at z1
                          rw [if_pos ⟨hOe, rfl, rfl⟩, if_neg (fun h => by have := h.2.1; omega)] at z2
                          rw [if_neg (fun h => absurd h.2.2 (by decide)), if_neg (fun h => by have := h.2.1; omega)] at z3
                          refine ⟨?_, ?_, ?_⟩
                          · omega
                          · rw [IntWalk.wrap64_in _ (by omega)]; omega
                          · omega
                        rcases HOO.out with rfl | ⟨hoo, hto⟩
                        · clear HOO
                          as_aux_lemma =>
                            go_wp2_with (first | (go_at_call 14; (with_reducible refine (cV _).mono ?_); rintro e w9 ⟨rfl, hb⟩; obtain ⟨X, rfl⟩ := GW.of hb; clear hb))
                            have hl5' : Below w.heap.size w (X.world.setCell ⟨b1, 2, none⟩ (.int .i64 (wrap64 (u2 + 1)))) := Bar.to_below (bl_trans hl4 X.grow) ((Bar.refl b1 _).set _ _) hws1
                            have hb5' : Bar b1 W4 (X.world.setCell ⟨b1, 2, none⟩ (.int .i64 (wrap64 (u2 + 1)))) := ((Bar.refl b1 W4).below X.grow).set _ _
                            have xs5' : Box (X.world.setCell ⟨b1, 2, none⟩ (.int .i64 (wrap64 (u2 + 1)))) b1 #[.int .i64 u0, .int .i64 u1, .int .i64 (wrap64 (u2 + 1)), .int .i64 u3] 44 := Box.as (Box.set (Box.gw xs4) 2 _) (by simp)
                            have hl5 : Below w.heap.size w ((X.world.setCell ⟨b1, 2, none⟩ (.int .i64 (wrap64 (u2 + 1)))).alloc (.cells #[.int .i64 1, .int .i64 2, .int .i64 r, .int .i64 c, .bool sh, .bool al, .bool ct] 24)) := bl_alloc hl5' _
                            have hb5 : Bar b1 W4 ((X.world.setCell ⟨b1, 2, none⟩ (.int .i64 (wrap64 (u2 + 1)))).alloc (.cells #[.int .i64 1, .int .i64 2, .int .i64 r, .int .i64 c, .bool sh, .bool al, .bool ct] 24)) := hb5'.alloc _
                            have xs5 : Box ((X.world.setCell ⟨b1, 2, none⟩ (.int .i64 (wrap64 (u2 + 1)))).alloc (.cells #[.int .i64 1, .int .i64 2, .int .i64 r, .int .i64 c, .bool sh, .bool al, .bool ct] 24)) b1 #[.int .i64 u0, .int .i64 u1, .int .i64 (wrap64 (u2 + 1)), .int .i64 u3] 44 := xs5'.alloc _
                            have xe5 : Box ((X.world.setCell ⟨b1, 2, none⟩ (.int .i64 (wrap64 (u2 + 1)))).alloc (.cells #[.int .i64 1, .int .i64 2, .int .i64 r, .int .i64 c, .bool sh, .bool al, .bool ct] 24)) (X.world.setCell ⟨b1, 2, none⟩ (.int .i64 (wrap64 (u2 + 1)))).heap.size #[.int .i64 1, .int .i64 2, .int .i64 r, .int .i64 c, .bool sh, .bool al, .bool ct] 24 := Box.new _ _ _ rfl
                            have esz : (X.world.setCell ⟨b1, 2, none⟩ (.int .i64 (wrap64 (u2 + 1)))).heap.size = X.world.heap.size := by simp
                            rw [esz] at xe5
                            have hne5 : X.world.heap.size ≠ w.heap.size := by have := X.grow.size; have := hl4.size; omega
                            generalize ((X.world.setCell ⟨b1, 2, none⟩ (.int .i64 (wrap64 (u2 + 1)))).alloc (.cells #[.int .i64 1, .int .i64 2, .int .i64 r, .int .i64 c, .bool sh, .bool al, .bool ct] 24)) = W5 at *
                            obtain ⟨bx, hbx⟩ : ∃ bx, X.world.heap.size = bx := ⟨_, rfl⟩
                            rw [hbx] at xe5 hne5 ⊢
                            clear hbx hl5' hb5' xs5' esz cs4 ls4 fs4 kc X e0 e1 e2 e3 e4 e5 e6 hbw
                            have hpt5 : PtB W5 w.heap.size (j * 6) (ptk x (j : Int) (nxt g 1 2 r c)) := hpt4.same (hb5.block w.heap.size (by omega) hpt4.lt)
                            have hld5 := hpt5.lt
                            have hdr : Below W5.heap.size W5 W5.drew := (Below.refl _ _).drew
                            obtain ⟨W6, hW6, xe6⟩ : ∃ W6, W5.drew = W6 ∧ Box W6 bx #[.int .i64 1, .int .i64 2, .int .i64 r, .int .i64 c, .bool sh, .bool al, .bool ct] 24 := ⟨W5.drew, rfl, xe5⟩
                            have hdr6 : Below W5.heap.size W5 W6 := hW6 ▸ hdr
                            have hTr : ∀ u1 u2 u3 : World, Bar w.heap.size u1 u2 → Bar w.heap.size u2 u3 → Bar w.heap.size u1 u3 := fun _ _ _ h1 h2 => Bar.trans h1 h2
                            have hGr : ∀ u1 u2 : World, Gr u1 u2 → Bar w.heap.size u1 u2 := fun _ _ h1 => Below.bar _ h1
                            refine wp_region_V (fun u1 u2 => Bar w.heap.size u1 u2) (by kernel_rfl) ?_
                            rw [hW6]
                            clear hW6 hdr
                            refine wpAnyV_takeS hTr hGr (A := ?A0p12a) 0 rfl (by kernel_rfl) (by kernel_rfl) (by kernel_rfl) (fun _ _ _ _ h => h) ?q0p12a ?r0p12a
                            case q0p12a =>
                              intro W hW
                              try simp only [List.getElem_toArray, List.getElem_cons_zero, List.getElem_cons_succ]
                              go_big_quiet_step (fail)
                              refine wpQuiet_nil ?_
                              rfl
                            refine wpAnyV_takeS hTr hGr (A := ?A1p12a) 1 rfl (by kernel_rfl) (by kernel_rfl) (by kernel_rfl) (fun _ _ _ _ h => h) ?q1p12a ?r1p12a
                            case q1p12a =>
                              intro W hW
                              try simp only [List.getElem_toArray, List.getElem_cons_zero, List.getElem_cons_succ]
                              go_big_quiet_step (fail)
                              refine wpQuiet_nil ?_
                              rfl
                            refine wpAnyV_takeS hTr hGr (A := ?A2p12a) 2 rfl (by kernel_rfl) (by kernel_rfl) (by kernel_rfl) (fun _ _ _ _ h => h) ?q2p12a ?r2p12a
                            case q2p12a =>
                              intro W hW
                              try simp only [List.getElem_toArray, List.getElem_cons_zero, List.getElem_cons_succ]
                              go_big_quiet_step (fail)
                              refine wpQuiet_nil ?_
                              rfl
                            refine wpAnyV_takeS hTr hGr (A := ?A3p12a) 3 rfl (by kernel_rfl) (by kernel_rfl) (by kernel_rfl) (fun _ _ _ _ h => h) ?q3p12a ?r3p12a
                            case q3p12a =>
                              intro W hW
                              have hxW : Box W bx _ _ := (hW.block bx hne5 xe6.lt).trans xe6
                              have cxW := hxW.cell
                              have lxW := hxW.lt
                              try simp only [List.getElem_toArray, List.getElem_cons_zero, List.getElem_cons_succ]
                              go_big_quiet_step (fail)
                              refine wpQuiet_nil ?_
                              rfl
                            refine wpAnyV_takeS hTr hGr (A := ?A4p12a) 4 rfl (by kernel_rfl) (by kernel_rfl) (by kernel_rfl) (fun _ _ _ _ h => h) ?q4p12a ?r4p12a
                            case q4p12a =>
                              intro W hW
                              try simp only [List.getElem_toArray, List.getElem_cons_zero, List.getElem_cons_succ]
                              go_big_quiet_step (fail)
                              refine wpQuiet_nil ?_
                              rfl
                            refine wpAnyV_takeS hTr hGr (A := ?A5p12a) 5 rfl (by kernel_rfl) (by kernel_rfl) (by kernel_rfl) (fun _ _ _ _ h => h) ?q5p12a ?r5p12a
                            case q5p12a =>
                              intro W hW
                              have hxW : Box W bx _ _ := (hW.block bx hne5 xe6.lt).trans xe6
                              have cxW := hxW.cell
                              have lxW := hxW.lt
                              try simp only [List.getElem_toArray, List.getElem_cons_zero, List.getElem_cons_succ]
                              go_big_quiet_step (fail)
                              refine wpQuiet_nil ?_
                              rfl
                            refine wpAnyV_takeS hTr hGr (A := ?A6p12a) 6 rfl (by kernel_rfl) (by kernel_rfl) (by kernel_rfl) (fun _ _ _ _ h => h) ?q6p12a ?r6p12a
                            case q6p12a =>
                              intro W hW
                              try simp only [List.getElem_toArray, List.getElem_cons_zero, List.getElem_cons_succ]
                              go_big_quiet_step ((go_at_call 15; with_reducible exact GW.call (move_any _ _ _)))
                              refine wpQuiet_nil ?_
                              rfl
                            refine wpAnyV_one 7 (by kernel_rfl) ?_
                            intro W hW
                            obtain ⟨X, rfl⟩ := GW.of hW
                            refine wpOp_step rfl (fun K hK => ?_)
                            go_simp
                            (with_reducible refine (cM _ (hpt5.below (bl_trans hdr6 X.grow)) (ht.below (bl_trans hl5 (bl_trans hdr6 X.grow)))).mono ?_)
                            rintro e w7 ⟨v7, xs7, rfl, hrd7, hxs7, hpt7, hk7⟩
                            rw [strOf_nil hxs7] at hrd7
                            obtain ⟨pv7, nv7, cv7, hve7⟩ := hrd7.shape
                            subst hve7
                            have hnv7 := hrd7.len
                            simp only [List.length_nil] at hnv7
                            subst hnv7
                            have hk57 : Keep w.heap.size (j * 6) W5 w7 := (Keep.of_below (bl_trans hdr6 X.grow)).trans hk7
                            have hl7 : Below w.heap.size w w7 := Bar.to_below hl5 hk57.1 (Nat.le_refl _)
                            go_simp
                            refine hK _ _ ⟨hk7.1, ?_⟩
                            clear hK K
                            try simp only [Act.put, List.getElem_toArray, List.getElem_cons_zero, List.getElem_cons_succ, List.setIfInBounds_toArray, List.set_cons_zero, List.set_cons_succ]
                            refine wpAnyV_takeS hTr hGr (A := ?A8p12a) 8 rfl (by kernel_rfl) (by kernel_rfl) (by kernel_rfl) (fun _ _ _ _ h => h) ?q8p12a ?r8p12a
                            case q8p12a =>
                              intro W hW
                              try simp only [List.getElem_toArray, List.getElem_cons_zero, List.getElem_cons_succ]
                              go_big_quiet_step (fail)
                              refine wpQuiet_nil ?_
                              rfl
                            refine wpAnyV_takeS hTr hGr (A := ?A9p12a) 9 rfl (by kernel_rfl) (by kernel_rfl) (by kernel_rfl) (fun _ _ _ _ h => h) ?q9p12a ?r9p12a
                            case q9p12a =>
                              intro W hW
                              try simp only [List.getElem_toArray, List.getElem_cons_zero, List.getElem_cons_succ]
                              go_big_quiet_step (fail)
                              refine wpQuiet_nil ?_
                              rfl
                            refine wpAnyV_takeS hTr hGr (A := ?A10p12a) 10 rfl (by kernel_rfl) (by kernel_rfl) (by kernel_rfl) (fun _ _ _ _ h => h) ?q10p12a ?r10p12a
                            case q10p12a =>
                              intro W hW
                              try simp only [List.getElem_toArray, List.getElem_cons_zero, List.getElem_cons_succ]
                              go_big_quiet_step (fail)
                              refine wpQuiet_nil ?_
                              rfl
                            refine wpAnyV_takeS hTr hGr (A := ?A11p12a) 11 rfl (by kernel_rfl) (by kernel_rfl) (by kernel_rfl) (fun _ _ _ _ h => h) ?q11p12a ?r11p12a
                            case q11p12a =>
                              intro W hW
                              try simp only [List.getElem_toArray, List.getElem_cons_zero, List.getElem_cons_succ]
                              go_big_quiet_step (fail)
                              refine wpQuiet_nil ?_
                              rfl
                            refine wpAnyV_takeS hTr hGr (A := ?A12p12a) 12 rfl (by kernel_rfl) (by kernel_rfl) (by kernel_rfl) (fun _ _ _ _ h => h) ?q12p12a ?r12p12a
                            case q12p12a =>
                              intro W hW
                              try simp only [List.getElem_toArray, List.getElem_cons_zero, List.getElem_cons_succ]
                              go_big_quiet_step (fail)
                              refine wpQuiet_nil ?_
                              rfl
                            refine wpAnyV_done (by kernel_rfl) ?_ _
                            intro W hW
                            obtain ⟨X, rfl⟩ := GW.of hW
                            clear hW
                            go_wp2_with fail
                            have hq1 : ∀ m : Nat, m < 4 → PtB X.world w.heap.size (m * 6) (ptk x (m : Int) (if m < j + 1 then nxt g 1 2 r c else g)) := fun m hm => by
                              by_cases hmj : m = j
                              · subst hmj
                                rw [if_pos (by omega)]
                                rw [after_move] at hpt7
                                exact hpt7.below X.grow
                              · have h1 := (HPT2.out m hm).keep hkk4 (by omega)
                                have h2 := h1.same (hb5.block w.heap.size (by omega) h1.lt)
                                have h3 := (h2.keep hk57 (by omega)).below X.grow
                                by_cases hmj2 : m < j
                                · rw [if_pos hmj2] at h3; rw [if_pos (by omega)]; exact h3
                                · rw [if_neg hmj2] at h3; rw [if_neg (by omega)]; exact h3
                            have hq2 : Box X.world b1 #[.int .i64 u0, .int .i64 u1, .int .i64 (wrap64 (u2 + 1)), .int .i64 u3] 44 := Box.gw ((hk57.1.block b1 (by omega) xs5.lt).trans xs5)
                            have hq3 : Hid (∀ i : Nat, i + 1 = j + 1 → doS (ptk x (i : Int) g) 1 2 r c sh al ct = Oj) := fun i hi => by
                              have hij : i = j := by omega
                              rw [hij]
                              exact hOj
                            go_roundw
                            case rel => exact ⟨j + 1, Oj, u0, u1, (wrap64 (u2 + 1)), u3, by omega, by go_num, rfl, fun h => absurd h (by omega), hq3, hq1, hq2, HSN.out, bl_trans hl7 X.grow⟩
                            case measure => first | (simp [intOf]; done) | (simp [intOf]; omega)
                        · subst hoo
                          clear HOO
                          as_aux_lemma =>
                            go_wp2_with (first | (go_at_call 14; (with_reducible refine (cV _).mono ?_); rintro e w9 ⟨rfl, hb⟩; obtain ⟨X, rfl⟩ := GW.of hb; clear hb))
                            have hl5' : Below w.heap.size w (X.world.setCell ⟨b1, 2, none⟩ (.int .i64 (wrap64 (u2 + 1)))) := Bar.to_below (bl_trans hl4 X.grow) ((Bar.refl b1 _).set _ _) hws1
                            have hb5' : Bar b1 W4 (X.world.setCell ⟨b1, 2, none⟩ (.int .i64 (wrap64 (u2 + 1)))) := ((Bar.refl b1 W4).below X.grow).set _ _
                            have xs5' : Box (X.world.setCell ⟨b1, 2, none⟩ (.int .i64 (wrap64 (u2 + 1)))) b1 #[.int .i64 u0, .int .i64 u1, .int .i64 (wrap64 (u2 + 1)), .int .i64 u3] 44 := Box.as (Box.set (Box.gw xs4) 2 _) (by simp)
                            have hl5 : Below w.heap.size w ((X.world.setCell ⟨b1, 2, none⟩ (.int .i64 (wrap64 (u2 + 1)))).alloc (.cells #[.int .i64 1, .int .i64 2, .int .i64 r, .int .i64 c, .bool sh, .bool al, .bool ct] 24)) := bl_alloc hl5' _
                            have hb5 : Bar b1 W4 ((X.world.setCell ⟨b1, 2, none⟩ (.int .i64 (wrap64 (u2 + 1)))).alloc (.cells #[.int .i64 1, .int .i64 2, .int .i64 r, .int .i64 c, .bool sh, .bool al, .bool ct] 24)) := hb5'.alloc _
                            have xs5 : Box ((X.world.setCell ⟨b1, 2, none⟩ (.int .i64 (wrap64 (u2 + 1)))).alloc (.cells #[.int .i64 1, .int .i64 2, .int .i64 r, .int .i64 c, .bool sh, .bool al, .bool ct] 24)) b1 #[.int .i64 u0, .int .i64 u1, .int .i64 (wrap64 (u2 + 1)), .int .i64 u3] 44 := xs5'.alloc _
                            have xe5 : Box ((X.world.setCell ⟨b1, 2, none⟩ (.int .i64 (wrap64 (u2 + 1)))).alloc (.cells #[.int .i64 1, .int .i64 2, .int .i64 r, .int .i64 c, .bool sh, .bool al, .bool ct] 24)) (X.world.setCell ⟨b1, 2, none⟩ (.int .i64 (wrap64 (u2 + 1)))).heap.size #[.int .i64 1, .int .i64 2, .int .i64 r, .int .i64 c, .bool sh, .bool al, .bool ct] 24 := Box.new _ _ _ rfl
                            have esz : (X.world.setCell ⟨b1, 2, none⟩ (.int .i64 (wrap64 (u2 + 1)))).heap.size = X.world.heap.size := by simp
                            rw [esz] at xe5
                            have hne5 : X.world.heap.size ≠ w.heap.size := by have := X.grow.size; have := hl4.size; omega
                            generalize ((X.world.setCell ⟨b1, 2, none⟩ (.int .i64 (wrap64 (u2 + 1)))).alloc (.cells #[.int .i64 1, .int .i64 2, .int .i64 r, .int .i64 c, .bool sh, .bool al, .bool ct] 24)) = W5 at *
                            obtain ⟨bx, hbx⟩ : ∃ bx, X.world.heap.size = bx := ⟨_, rfl⟩
                            rw [hbx] at xe5 hne5 ⊢
                            clear hbx hl5' hb5' xs5' esz cs4 ls4 fs4 kc X e0 e1 e2 e3 e4 e5 e6 hbw
                            have hpt5 : PtB W5 w.heap.size (j * 6) (ptk x (j : Int) (nxt g 1 2 r c)) := hpt4.same (hb5.block w.heap.size (by omega) hpt4.lt)
                            have hld5 := hpt5.lt
                            have hdr : Below W5.heap.size W5 W5.drew := (Below.refl _ _).drew
                            obtain ⟨W6, hW6, xe6⟩ : ∃ W6, W5.drew = W6 ∧ Box W6 bx #[.int .i64 1, .int .i64 2, .int .i64 r, .int .i64 c, .bool sh, .bool al, .bool ct] 24 := ⟨W5.drew, rfl, xe5⟩
                            have hdr6 : Below W5.heap.size W5 W6 := hW6 ▸ hdr
                            have hTr : ∀ u1 u2 u3 : World, Bar w.heap.size u1 u2 → Bar w.heap.size u2 u3 → Bar w.heap.size u1 u3 := fun _ _ _ h1 h2 => Bar.trans h1 h2
                            have hGr : ∀ u1 u2 : World, Gr u1 u2 → Bar w.heap.size u1 u2 := fun _ _ h1 => Below.bar _ h1
                            refine wp_region_V (fun u1 u2 => Bar w.heap.size u1 u2) (by kernel_rfl) ?_
                            rw [hW6]
                            clear hW6 hdr
                            refine wpAnyV_takeS hTr hGr (A := ?A0p12b) 0 rfl (by kernel_rfl) (by kernel_rfl) (by kernel_rfl) (fun _ _ _ _ h => h) ?q0p12b ?r0p12b
                            case q0p12b =>
                              intro W hW
                              try simp only [List.getElem_toArray, List.getElem_cons_zero, List.getElem_cons_succ]
                              go_big_quiet_step (fail)
                              refine wpQuiet_nil ?_
                              rfl
                            refine wpAnyV_takeS hTr hGr (A := ?A1p12b) 1 rfl (by kernel_rfl) (by kernel_rfl) (by kernel_rfl) (fun _ _ _ _ h => h) ?q1p12b ?r1p12b
                            case q1p12b =>
                              intro W hW
                              try simp only [List.getElem_toArray, List.getElem_cons_zero, List.getElem_cons_succ]
                              go_big_quiet_step (fail)
                              refine wpQuiet_nil ?_
                              rfl
                            refine wpAnyV_takeS hTr hGr (A := ?A2p12b) 2 rfl (by kernel_rfl) (by kernel_rfl) (by kernel_rfl) (fun _ _ _ _ h => h) ?q2p12b ?r2p12b
                            case q2p12b =>
                              intro W hW
                              try simp only [List.getElem_toArray, List.getElem_cons_zero, List.getElem_cons_succ]
                              go_big_quiet_step (fail)
                              refine wpQuiet_nil ?_
                              rfl
                            refine wpAnyV_takeS hTr hGr (A := ?A3p12b) 3 rfl (by kernel_rfl) (by kernel_rfl) (by kernel_rfl) (fun _ _ _ _ h => h) ?q3p12b ?r3p12b
                            case q3p12b =>
                              intro W hW
                              have hxW : Box W bx _ _ := (hW.block bx hne5 xe6.lt).trans xe6
                              have cxW := hxW.cell
                              have lxW := hxW.lt
                              try simp only [List.getElem_toArray, List.getElem_cons_zero, List.getElem_cons_succ]
                              go_big_quiet_step (fail)
                              refine wpQuiet_nil ?_
                              rfl
                            refine wpAnyV_takeS hTr hGr (A := ?A4p12b) 4 rfl (by kernel_rfl) (by kernel_rfl) (by kernel_rfl) (fun _ _ _ _ h => h) ?q4p12b ?r4p12b
                            case q4p12b =>
                              intro W hW
                              try simp only [List.getElem_toArray, List.getElem_cons_zero, List.getElem_cons_succ]
                              go_big_quiet_step (fail)
                              refine wpQuiet_nil ?_
                              rfl
                            refine wpAnyV_takeS hTr hGr (A := ?A5p12b) 5 rfl (by kernel_rfl) (by kernel_rfl) (by kernel_rfl) (fun _ _ _ _ h => h) ?q5p12b ?r5p12b
                            case q5p12b =>
                              intro W hW
                              have hxW : Box W bx _ _ := (hW.block bx hne5 xe6.lt).trans xe6
                              have cxW := hxW.cell
                              have lxW := hxW.lt
                              try simp only [List.getElem_toArray, List.getElem_cons_zero, List.getElem_cons_succ]
                              go_big_quiet_step (fail)
                              refine wpQuiet_nil ?_
                              rfl
                            refine wpAnyV_takeS hTr hGr (A := ?A6p12b) 6 rfl (by kernel_rfl) (by kernel_rfl) (by kernel_rfl) (fun _ _ _ _ h => h) ?q6p12b ?r6p12b
                            case q6p12b =>
                              intro W hW
                              try simp only [List.getElem_toArray, List.getElem_cons_zero, List.getElem_cons_succ]
                              go_big_quiet_step ((go_at_call 15; with_reducible exact GW.call (move_any _ _ _)))
                              refine wpQuiet_nil ?_
                              rfl
                            refine wpAnyV_one 7 (by kernel_rfl) ?_
                            intro W hW
                            obtain ⟨X, rfl⟩ := GW.of hW
                            refine wpOp_step rfl (fun K hK => ?_)
                            go_simp
                            (with_reducible refine (cM _ (hpt5.below (bl_trans hdr6 X.grow)) (ht.below (bl_trans hl5 (bl_trans hdr6 X.grow)))).mono ?_)
                            rintro e w7 ⟨v7, xs7, rfl, hrd7, hxs7, hpt7, hk7⟩
                            rw [strOf_nil hxs7] at hrd7
                            obtain ⟨pv7, nv7, cv7, hve7⟩ := hrd7.shape
                            subst hve7
                            have hnv7 := hrd7.len
                            simp only [List.length_nil] at hnv7
                            subst hnv7
                            have hk57 : Keep w.heap.size (j * 6) W5 w7 := (Keep.of_below (bl_trans hdr6 X.grow)).trans hk7
                            have hl7 : Below w.heap.size w w7 := Bar.to_below hl5 hk57.1 (Nat.le_refl _)
                            go_simp
                            refine hK _ _ ⟨hk7.1, ?_⟩
                            clear hK K
                            try simp only [Act.put, List.getElem_toArray, List.getElem_cons_zero, List.getElem_cons_succ, List.setIfInBounds_toArray, List.set_cons_zero, List.set_cons_succ]
                            refine wpAnyV_takeS hTr hGr (A := ?A8p12b) 8 rfl (by kernel_rfl) (by kernel_rfl) (by kernel_rfl) (fun _ _ _ _ h => h) ?q8p12b ?r8p12b
                            case q8p12b =>
                              intro W hW
                              try simp only [List.getElem_toArray, List.getElem_cons_zero, List.getElem_cons_succ]
                              go_big_quiet_step (fail)
                              refine wpQuiet_nil ?_
                              rfl
                            refine wpAnyV_takeS hTr hGr (A := ?A9p12b) 9 rfl (by kernel_rfl) (by kernel_rfl) (by kernel_rfl) (fun _ _ _ _ h => h) ?q9p12b ?r9p12b
                            case q9p12b =>
                              intro W hW
                              try simp only [List.getElem_toArray, List.getElem_cons_zero, List.getElem_cons_succ]
                              go_big_quiet_step (fail)
                              refine wpQuiet_nil ?_
                              rfl
                            refine wpAnyV_takeS hTr hGr (A := ?A10p12b) 10 rfl (by kernel_rfl) (by kernel_rfl) (by kernel_rfl) (fun _ _ _ _ h => h) ?q10p12b ?r10p12b
                            case q10p12b =>
                              intro W hW
                              try simp only [List.getElem_toArray, List.getElem_cons_zero, List.getElem_cons_succ]
                              go_big_quiet_step (fail)
                              refine wpQuiet_nil ?_
                              rfl
                            refine wpAnyV_takeS hTr hGr (A := ?A11p12b) 11 rfl (by kernel_rfl) (by kernel_rfl) (by kernel_rfl) (fun _ _ _ _ h => h) ?q11p12b ?r11p12b
                            case q11p12b =>
                              intro W hW
                              try simp only [List.getElem_toArray, List.getElem_cons_zero, List.getElem_cons_succ]
                              go_big_quiet_step (fail)
                              refine wpQuiet_nil ?_
                              rfl
                            refine wpAnyV_takeS hTr hGr (A := ?A12p12b) 12 rfl (by kernel_rfl) (by kernel_rfl) (by kernel_rfl) (fun _ _ _ _ h => h) ?q12p12b ?r12p12b
                            case q12p12b =>
                              intro W hW
                              try simp only [List.getElem_toArray, List.getElem_cons_zero, List.getElem_cons_succ]
                              go_big_quiet_step (fail)
                              refine wpQuiet_nil ?_
                              rfl
                            refine wpAnyV_done (by kernel_rfl) ?_ _
                            intro W hW
                            obtain ⟨X, rfl⟩ := GW.of hW
                            clear hW
                            go_wp2_with fail
                            have hq1 : ∀ m : Nat, m < 4 → PtB X.world w.heap.size (m * 6) (ptk x (m : Int) (if m < j + 1 then nxt g 1 2 r c else g)) := fun m hm => by
                              by_cases hmj : m = j
                              · subst hmj
                                rw [if_pos (by omega)]
                                rw [after_move] at hpt7
                                exact hpt7.below X.grow
                              · have h1 := (HPT2.out m hm).keep hkk4 (by omega)
                                have h2 := h1.same (hb5.block w.heap.size (by omega) h1.lt)
                                have h3 := (h2.keep hk57 (by omega)).below X.grow
                                by_cases hmj2 : m < j
                                · rw [if_pos hmj2] at h3; rw [if_pos (by omega)]; exact h3
                                · rw [if_neg hmj2] at h3; rw [if_neg (by omega)]; exact h3
                            have hq2 : Box X.world b1 #[.int .i64 u0, .int .i64 u1, .int .i64 (wrap64 (u2 + 1)), .int .i64 u3] 44 := Box.gw ((hk57.1.block b1 (by omega) xs5.lt).trans xs5)
                            have hq3 : Hid (∀ i : Nat, i + 1 = j + 1 → doS (ptk x (i : Int) g) 1 2 r c sh al ct = Oj) := fun i hi => by
                              have hij : i = j := by omega
                              rw [hij]
                              exact hOj
                            go_roundw
                            case rel => exact ⟨j + 1, Oj, u0, u1, (wrap64 (u2 + 1)), u3, by omega, by go_num, rfl, fun h => absurd h (by omega), hq3, hq1, hq2, HSN.out, bl_trans hl7 X.grow⟩
                            case measure => first | (simp [intOf]; done) | (simp [intOf]; omega)
                      · have HSN : Hid (x = true → u1 = cntN g 1 3 1 g.h1 (j + 1) ∧ u2 = cntN g 1 3 2 g.h2 (j + 1) ∧ (wrap64 (u3 + 1)) = cntN g 1 3 3 g.h3 (j + 1)) := fun hx1 => by
                          obtain ⟨y1, y2, y3⟩ := HSUM2.out hx1
                          have z1 := cnt_step j hlt3 g 1 3 r c sh al ct 1 g.h1 rfl (by decide) Oj (hx1 ▸ hOj)
                          have v1 := cnt_range g 1 3 1 g.h1 (j + 1) (by omega)
                          have p1 := cnt_range g 1 3 1 g.h1 j (by omega)
                          have z2 := cnt_step j hlt3 g 1 3 r c sh al ct 2 g.h2 rfl (by decide) Oj (hx1 ▸ hOj)
                          have v2 := cnt_range g 1 3 2 g.h2 (j + 1) (by omega)
                          have p2 := cnt_range g 1 3 2 g.h2 j (by omega)
                          have z3 := cnt_step j hlt3 g 1 3 r c sh al ct 3 g.h3 rfl (by decide) Oj (hx1 ▸ hOj)
                          have v3 := cnt_range g 1 3 3 g.h3 (j + 1) (by omega)
                          have p3 := cnt_range g 1 3 3 g.h3 j (by omega)
                          rw [if_neg (fun h => absurd h.2.2 (by decide)), if_neg (fun h => by have := h.2.1; omega)] at z1
                          rw [if_neg (fun h => absurd h.2.2 (by decide)), if_neg (fun h => by have := h.2.1; omega)] at z2
                          rw [if_pos ⟨hOe, rfl, rfl⟩, if_neg (fun h => by have := h.2.1; omega)] at z3
                          refine ⟨?_, ?_, ?_⟩
                          · omega
                          · omega
                          · rw [IntWalk.wrap64_in _ (by omega)]; omega
                        rcases HOO.out with rfl | ⟨hoo, hto⟩
                        · clear HOO
                          as_aux_lemma =>
                            go_wp2_with (first | (go_at_call 14; (with_reducible refine (cV _).mono ?_); rintro e w9 ⟨rfl, hb⟩; obtain ⟨X, rfl⟩ := GW.of hb; clear hb))
                            have hl5' : Below w.heap.size w (X.world.setCell ⟨b1, 3, none⟩ (.int .i64 (wrap64 (u3 + 1)))) := Bar.to_below (bl_trans hl4 X.grow) ((Bar.refl b1 _).set _ _) hws1
                            have hb5' : Bar b1 W4 (X.world.setCell ⟨b1, 3, none⟩ (.int .i64 (wrap64 (u3 + 1)))) := ((Bar.refl b1 W4).below X.grow).set _ _
                            have xs5' : Box (X.world.setCell ⟨b1, 3, none⟩ (.int .i64 (wrap64 (u3 + 1)))) b1 #[.int .i64 u0, .int .i64 u1, .int .i64 u2, .int .i64 (wrap64 (u3 + 1))] 44 := Box.as (Box.set (Box.gw xs4) 3 _) (by simp)
                            have hl5 : Below w.heap.size w ((X.world.setCell ⟨b1, 3, none⟩ (.int .i64 (wrap64 (u3 + 1)))).alloc (.cells #[.int .i64 1, .int .i64 3, .int .i64 r, .int .i64 c, .bool sh, .bool al, .bool ct] 24)) := bl_alloc hl5' _
                            have hb5 : Bar b1 W4 ((X.world.setCell ⟨b1, 3, none⟩ (.int .i64 (wrap64 (u3 + 1)))).alloc (.cells #[.int .i64 1, .int .i64 3, .int .i64 r, .int .i64 c, .bool sh, .bool al, .bool ct] 24)) := hb5'.alloc _
                            have xs5 : Box ((X.world.setCell ⟨b1, 3, none⟩ (.int .i64 (wrap64 (u3 + 1)))).alloc (.cells #[.int .i64 1, .int .i64 3, .int .i64 r, .int .i64 c, .bool sh, .bool al, .bool ct] 24)) b1 #[.int .i64 u0, .int .i64 u1, .int .i64 u2, .int .i64 (wrap64 (u3 + 1))] 44 := xs5'.alloc _
                            have xe5 : Box ((X.world.setCell ⟨b1, 3, none⟩ (.int .i64 (wrap64 (u3 + 1)))).alloc (.cells #[.int .i64 1, .int .i64 3, .int .i64 r, .int .i64 c, .bool sh, .bool al, .bool ct] 24)) (X.world.setCell ⟨b1, 3, none⟩ (.int .i64 (wrap64 (u3 + 1)))).heap.size #[.int .i64 1, .int .i64 3, .int .i64 r, .int .i64 c, .bool sh, .bool al, .bool ct] 24 := Box.new _ _ _ rfl
                            have esz : (X.world.setCell ⟨b1, 3, none⟩ (.int .i64 (wrap64 (u3 + 1)))).heap.size = X.world.heap.size := by simp
                            rw [esz] at xe5
                            have hne5 : X.world.heap.size ≠ w.heap.size := by have := X.grow.size; have := hl4.size; omega
                            generalize ((X.world.setCell ⟨b1, 3, none⟩ (.int .i64 (wrap64 (u3 + 1)))).alloc (.cells #[.int .i64 1, .int .i64 3, .int .i64 r, .int .i64 c, .bool sh, .bool al, .bool ct] 24)) = W5 at *
                            obtain ⟨bx, hbx⟩ : ∃ bx, X.world.heap.size = bx := ⟨_, rfl⟩
                            rw [hbx] at xe5 hne5 ⊢
                            clear hbx hl5' hb5' xs5' esz cs4 ls4 fs4 kc X e0 e1 e2 e3 e4 e5 e6 hbw
                            have hpt5 : PtB W5 w.heap.size (j * 6) (ptk x (j : Int) (nxt g 1 3 r c)) := hpt4.same (hb5.block w.heap.size (by omega) hpt4.lt)
                            have hld5 := hpt5.lt
                            have hdr : Below W5.heap.size W5 W5.drew := (Below.refl _ _).drew
                            obtain ⟨W6, hW6, xe6⟩ : ∃ W6, W5.drew = W6 ∧ Box W6 bx #[.int .i64 1, .int .i64 3, .int .i64 r, .int .i64 c, .bool sh, .bool al, .bool ct] 24 := ⟨W5.drew, rfl, xe5⟩
                            have hdr6 : Below W5.heap.size W5 W6 := hW6 ▸ hdr
                            have hTr : ∀ u1 u2 u3 : World, Bar w.heap.size u1 u2 → Bar w.heap.size u2 u3 → Bar w.heap.size u1 u3 := fun _ _ _ h1 h2 => Bar.trans h1 h2
                            have hGr : ∀ u1 u2 : World, Gr u1 u2 → Bar w.heap.size u1 u2 := fun _ _ h1 => Below.bar _ h1
                            refine wp_region_V (fun u1 u2 => Bar w.heap.size u1 u2) (by kernel_rfl) ?_
                            rw [hW6]
                            clear hW6 hdr
                            refine wpAnyV_takeS hTr hGr (A := ?A0p13a) 0 rfl (by kernel_rfl) (by kernel_rfl) (by kernel_rfl) (fun _ _ _ _ h => h) ?q0p13a ?r0p13a
                            case q0p13a =>
                              intro W hW
                              try simp only [List.getElem_toArray, List.getElem_cons_zero, List.getElem_cons_succ]
                              go_big_quiet_step (fail)
                              refine wpQuiet_nil ?_
                              rfl
                            refine wpAnyV_takeS hTr hGr (A := ?A1p13a) 1 rfl (by kernel_rfl) (by kernel_rfl) (by kernel_rfl) (fun _ _ _ _ h => h) ?q1p13a ?r1p13a
                            case q1p13a =>
                              intro W hW
                              try simp only [List.getElem_toArray, List.getElem_cons_zero, List.getElem_cons_succ]
                              go_big_quiet_step (fail)
                              refine wpQuiet_nil ?_
                              rfl
                            refine wpAnyV_takeS hTr hGr (A := ?A2p13a) 2 rfl (by kernel_rfl) (by kernel_rfl) (by kernel_rfl) (fun _ _ _ _ h => h) ?q2p13a ?r2p13a
                            case q2p13a =>
                              intro W hW
                              try simp only [List.getElem_toArray, List.getElem_cons_zero, List.getElem_cons_succ]
                              go_big_quiet_step (fail)
                              refine wpQuiet_nil ?_
                              rfl
                            refine wpAnyV_takeS hTr hGr (A := ?A3p13a) 3 rfl (by kernel_rfl) (by kernel_rfl) (by kernel_rfl) (fun _ _ _ _ h => h) ?q3p13a ?r3p13a
                            case q3p13a =>
                              intro W hW
                              have hxW : Box W bx _ _ := (hW.block bx hne5 xe6.lt).trans xe6
                              have cxW := hxW.cell
                              have lxW := hxW.lt
                              try simp only [List.getElem_toArray, List.getElem_cons_zero, List.getElem_cons_succ]
                              go_big_quiet_step (fail)
                              refine wpQuiet_nil ?_
                              rfl
                            refine wpAnyV_takeS hTr hGr (A := ?A4p13a) 4 rfl (by kernel_rfl) (by kernel_rfl) (by kernel_rfl) (fun _ _ _ _ h => h) ?q4p13a ?r4p13a
                            case q4p13a =>
                              intro W hW
                              try simp only [List.getElem_toArray, List.getElem_cons_zero, List.getElem_cons_succ]
                              go_big_quiet_step (fail)
                              refine wpQuiet_nil ?_
                              rfl
                            refine wpAnyV_takeS hTr hGr (A := ?A5p13a) 5 rfl (by kernel_rfl) (by kernel_rfl) (by kernel_rfl) (fun _ _ _ _ h => h) ?q5p13a ?r5p13a
                            case q5p13a =>
                              intro W hW
                              have hxW : Box W bx _ _ := (hW.block bx hne5 xe6.lt).trans xe6
                              have cxW := hxW.cell
                              have lxW := hxW.lt
                              try simp only [List.getElem_toArray, List.getElem_cons_zero, List.getElem_cons_succ]
                              go_big_quiet_step (fail)
                              refine wpQuiet_nil ?_
                              rfl
                            refine wpAnyV_takeS hTr hGr (A := ?A6p13a) 6 rfl (by kernel_rfl) (by kernel_rfl) (by kernel_rfl) (fun _ _ _ _ h => h) ?q6p13a ?r6p13a
                            case q6p13a =>
                              intro W hW
                              try simp only [List.getElem_toArray, List.getElem_cons_zero, List.getElem_cons_succ]
                              go_big_quiet_step ((go_at_call 15; with_reducible exact GW.call (move_any _ _ _)))
                              refine wpQuiet_nil ?_
                              rfl
                            refine wpAnyV_one 7 (by kernel_rfl) ?_
                            intro W hW
                            obtain ⟨X, rfl⟩ := GW.of hW
                            refine wpOp_step rfl (fun K hK => ?_)
                            go_simp
                            (with_reducible refine (cM _ (hpt5.below (bl_trans hdr6 X.grow)) (ht.below (bl_trans hl5 (bl_trans hdr6 X.grow)))).mono ?_)
                            rintro e w7 ⟨v7, xs7, rfl, hrd7, hxs7, hpt7, hk7⟩
                            rw [strOf_nil hxs7] at hrd7
                            obtain ⟨pv7, nv7, cv7, hve7⟩ := hrd7.shape
                            subst hve7
                            have hnv7 := hrd7.len
                            simp only [List.length_nil] at hnv7
                            subst hnv7
                            have hk57 : Keep w.heap.size (j * 6) W5 w7 := (Keep.of_below (bl_trans hdr6 X.grow)).trans hk7
                            have hl7 : Below w.heap.size w w7 := Bar.to_below hl5 hk57.1 (Nat.le_refl _)
                            go_simp
                            refine hK _ _ ⟨hk7.1, ?_⟩
                            clear hK K
                            try simp only [Act.put, List.getElem_toArray, List.getElem_cons_zero, List.getElem_cons_succ, List.setIfInBounds_toArray, List.set_cons_zero, List.set_cons_succ]
                            refine wpAnyV_takeS hTr hGr (A := ?A8p13a) 8 rfl (by kernel_rfl) (by kernel_rfl) (by kernel_rfl) (fun _ _ _ _ h => h) ?q8p13a ?r8p13a
                            case q8p13a =>
                              intro W hW
                              try simp only [List.getElem_toArray, List.getElem_cons_zero, List.getElem_cons_succ]
                              go_big_quiet_step (fail)
                              refine wpQuiet_nil ?_
                              rfl
                            refine wpAnyV_takeS hTr hGr (A := ?A9p13a) 9 rfl (by kernel_rfl) (by kernel_rfl) (by kernel_rfl) (fun _ _ _ _ h => h) ?q9p13a ?r9p13a
                            case q9p13a =>
                              intro W hW
                              try simp only [List.getElem_toArray, List.getElem_cons_zero, List.getElem_cons_succ]
                              go_big_quiet_step (fail)
                              refine wpQuiet_nil ?_
                              rfl
                            refine wpAnyV_takeS hTr hGr (A := ?A10p13a) 10 rfl (by kernel_rfl) (by kernel_rfl) (by kernel_rfl) (fun _ _ _ _ h => h) ?q10p13a ?r10p13a
                            case q10p13a =>
                              intro W hW
                              try simp only [List.getElem_toArray, List.getElem_cons_zero, List.getElem_cons_succ]
                              go_big_quiet_step (fail)
                              refine wpQuiet_nil ?_
                              rfl
                            refine wpAnyV_takeS hTr hGr (A := ?A11p13a) 11 rfl (by kernel_rfl) (by kernel_rfl) (by kernel_rfl) (fun _ _ _ _ h => h) ?q11p13a ?r11p13a
                            case q11p13a =>
                              intro W hW
                              try simp only [List.getElem_toArray, List.getElem_cons_zero, List.getElem_cons_succ]
                              go_big_quiet_step (fail)
                              refine wpQuiet_nil ?_
                              rfl
                            refine wpAnyV_takeS hTr hGr (A := ?A12p13a) 12 rfl (by kernel_rfl) (by kernel_rfl) (by kernel_rfl) (fun _ _ _ _ h => h) ?q12p13a ?r12p13a
                            case q12p13a =>
                              intro W hW
                              try simp only [List.getElem_toArray, List.getElem_cons_zero, List.getElem_cons_succ]
                              go_big_quiet_step (fail)
                              refine wpQuiet_nil ?_
                              rfl
                            refine wpAnyV_done (by kernel_rfl) ?_ _
                            intro W hW
                            obtain ⟨X, rfl⟩ := GW.of hW
                            clear hW
                            go_wp2_with fail
                            have hq1 : ∀ m : Nat, m < 4 → PtB X.world w.heap.size (m * 6) (ptk x (m : Int) (if m < j + 1 then nxt g 1 3 r c else g)) := fun m hm => by
                              by_cases hmj : m = j
                              · subst hmj
                                rw [if_pos (by omega)]
                                rw [after_move] at hpt7
                                exact hpt7.below X.grow
                              · have h1 := (HPT2.out m hm).keep hkk4 (by omega)
                                have h2 := h1.same (hb5.block w.heap.size (by omega) h1.lt)
                                have h3 := (h2.keep hk57 (by omega)).below X.grow
                                by_cases hmj2 : m < j
                                · rw [if_pos hmj2] at h3; rw [if_pos (by omega)]; exact h3
                                · rw [if_neg hmj2] at h3; rw [if_neg (by omega)]; exact h3
                            have hq2 : Box X.world b1 #[.int .i64 u0, .int .i64 u1, .int .i64 u2, .int .i64 (wrap64 (u3 + 1))] 44 := Box.gw ((hk57.1.block b1 (by omega) xs5.lt).trans xs5)
                            have hq3 : Hid (∀ i : Nat, i + 1 = j + 1 → doS (ptk x (i : Int) g) 1 3 r c sh al ct = Oj) := fun i hi => by
                              have hij : i = j := by omega
                              rw [hij]
                              exact hOj
                            go_roundw
                            case rel => exact ⟨j + 1, Oj, u0, u1, u2, (wrap64 (u3 + 1)), by omega, by go_num, rfl, fun h => absurd h (by omega), hq3, hq1, hq2, HSN.out, bl_trans hl7 X.grow⟩
                            case measure => first | (simp [intOf]; done) | (simp [intOf]; omega)
                        · subst hoo
                          clear HOO
                          as_aux_lemma =>
                            go_wp2_with (first | (go_at_call 14; (with_reducible refine (cV _).mono ?_); rintro e w9 ⟨rfl, hb⟩; obtain ⟨X, rfl⟩ := GW.of hb; clear hb))
                            have hl5' : Below w.heap.size w (X.world.setCell ⟨b1, 3, none⟩ (.int .i64 (wrap64 (u3 + 1)))) := Bar.to_below (bl_trans hl4 X.grow) ((Bar.refl b1 _).set _ _) hws1
                            have hb5' : Bar b1 W4 (X.world.setCell ⟨b1, 3, none⟩ (.int .i64 (wrap64 (u3 + 1)))) := ((Bar.refl b1 W4).below X.grow).set _ _
                            have xs5' : Box (X.world.setCell ⟨b1, 3, none⟩ (.int .i64 (wrap64 (u3 + 1)))) b1 #[.int .i64 u0, .int .i64 u1, .int .i64 u2, .int .i64 (wrap64 (u3 + 1))] 44 := Box.as (Box.set (Box.gw xs4) 3 _) (by simp)
                            have hl5 : Below w.heap.size w ((X.world.setCell ⟨b1, 3, none⟩ (.int .i64 (wrap64 (u3 + 1)))).alloc (.cells #[.int .i64 1, .int .i64 3, .int .i64 r, .int .i64 c, .bool sh, .bool al, .bool ct] 24)) := bl_alloc hl5' _
                            have hb5 : Bar b1 W4 ((X.world.setCell ⟨b1, 3, none⟩ (.int .i64 (wrap64 (u3 + 1)))).alloc (.cells #[.int .i64 1, .int .i64 3, .int .i64 r, .int .i64 c, .bool sh, .bool al, .bool ct] 24)) := hb5'.alloc _
                            have xs5 : Box ((X.world.setCell ⟨b1, 3, none⟩ (.int .i64 (wrap64 (u3 + 1)))).alloc (.cells #[.int .i64 1, .int .i64 3, .int .i64 r, .int .i64 c, .bool sh, .bool al, .bool ct] 24)) b1 #[.int .i64 u0, .int .i64 u1, .int .i64 u2, .int .i64 (wrap64 (u3 + 1))] 44 := xs5'.alloc _
                            have xe5 : Box ((X.world.setCell ⟨b1, 3, none⟩ (.int .i64 (wrap64 (u3 + 1)))).alloc (.cells #[.int .i64 1, .int .i64 3, .int .i64 r, .int .i64 c, .bool sh, .bool al, .bool ct] 24)) (X.world.setCell ⟨b1, 3, none⟩ (.int .i64 (wrap64 (u3 + 1)))).heap.size #[.int .i64 1, .int .i64 3, .int .i64 r, .int .i64 c, .bool sh, .bool al, .bool ct] 24 := Box.new _ _ _ rfl
                            have esz : (X.world.setCell ⟨b1, 3, none⟩ (.int .i64 (wrap64 (u3 + 1)))).heap.size = X.world.heap.size := by simp
                            rw [esz] at xe5
                            have hne5 : X.world.heap.size ≠ w.heap.size := by have := X.grow.size; have := hl4.size; omega
                            generalize ((X.world.setCell ⟨b1, 3, none⟩ (.int .i64 (wrap64 (u3 + 1)))).alloc (.cells #[.int .i64 1, .int .i64 3, .int .i64 r, .int .i64 c, .bool sh, .bool al, .bool ct] 24)) = W5 at *
                            obtain ⟨bx, hbx⟩ : ∃ bx, X.world.heap.size = bx := ⟨_, rfl⟩
                            rw [hbx] at xe5 hne5 ⊢
                            clear hbx hl5' hb5' xs5' esz cs4 ls4 fs4 kc X e0 e1 e2 e3 e4 e5 e6 hbw
                            have hpt5 : PtB W5 w.heap.size (j * 6) (ptk x (j : Int) (nxt g 1 3 r c)) := hpt4.same (hb5.block w.heap.size (by omega) hpt4.lt)
                            have hld5 := hpt5.lt
                            have hdr : Below W5.heap.size W5 W5.drew := (Below.refl _ _).drew
                            obtain ⟨W6, hW6, xe6⟩ : ∃ W6, W5.drew = W6 ∧ Box W6 bx #[.int .i64 1, .int .i64 3, .int .i64 r, .int .i64 c, .bool sh, .bool al, .bool ct] 24 := ⟨W5.drew, rfl, xe5⟩
                            have hdr6 : Below W5.heap.size W5 W6 := hW6 ▸ hdr
                            have hTr : ∀ u1 u2 u3 : World, Bar w.heap.size u1 u2 → Bar w.heap.size u2 u3 → Bar w.heap.size u1 u3 := fun _ _ _ h1 h2 => Bar.trans h1 h2
                            have hGr : ∀ u1 u2 : World, Gr u1 u2 → Bar w.heap.size u1 u2 := fun _ _ h1 => Below.bar _ h1
                            refine wp_region_V (fun u1 u2 => Bar w.heap.size u1 u2) (by kernel_rfl) ?_
                            rw [hW6]
                            clear hW6 hdr
                            refine wpAnyV_takeS hTr hGr (A := ?A0p13b) 0 rfl (by kernel_rfl) (by kernel_rfl) (by kernel_rfl) (fun _ _ _ _ h => h) ?q0p13b ?r0p13b
                            case q0p13b =>
                              intro W hW
                              try simp only [List.getElem_toArray, List.getElem_cons_zero, List.getElem_cons_succ]
                              go_big_quiet_step (fail)
                              refine wpQuiet_nil ?_
                              rfl
                            refine wpAnyV_takeS hTr hGr (A := ?A1p13b) 1 rfl (by kernel_rfl) (by kernel_rfl) (by kernel_rfl) (fun _ _ _ _ h => h) ?q1p13b ?r1p13b
                            case q1p13b =>
                              intro W hW
                              try simp only [List.getElem_toArray, List.getElem_cons_zero, List.getElem_cons_succ]
                              go_big_quiet_step (fail)
                              refine wpQuiet_nil ?_
                              rfl
                            refine wpAnyV_takeS hTr hGr (A := ?A2p13b) 2 rfl (by kernel_rfl) (by kernel_rfl) (by kernel_rfl) (fun _ _ _ _ h => h) ?q2p13b ?r2p13b
                            case q2p13b =>
                              intro W hW
                              try simp only [List.getElem_toArray, List.getElem_cons_zero, List.getElem_cons_succ]
                              go_big_quiet_step (fail)
                              refine wpQuiet_nil ?_
                              rfl
                            refine wpAnyV_takeS hTr hGr (A := ?A3p13b) 3 rfl (by kernel_rfl) (by kernel_rfl) (by kernel_rfl) (fun _ _ _ _ h => h) ?q3p13b ?r3p13b
                            case q3p13b =>
                              intro W hW
                              have hxW : Box W bx _ _ := (hW.block bx hne5 xe6.lt).trans xe6
                              have cxW := hxW.cell
                              have lxW := hxW.lt
                              try simp only [List.getElem_toArray, List.getElem_cons_zero, List.getElem_cons_succ]
                              go_big_quiet_step (fail)
                              refine wpQuiet_nil ?_
                              rfl
                            refine wpAnyV_takeS hTr hGr (A := ?A4p13b) 4 rfl (by kernel_rfl) (by kernel_rfl) (by kernel_rfl) (fun _ _ _ _ h => h) ?q4p13b ?r4p13b
                            case q4p13b =>
                              intro W hW
                              try simp only [List.getElem_toArray, List.getElem_cons_zero, List.getElem_cons_succ]
                              go_big_quiet_step (fail)
                              refine wpQuiet_nil ?_
                              rfl
                            refine wpAnyV_takeS hTr hGr (A := ?A5p13b) 5 rfl (by kernel_rfl) (by kernel_rfl) (by kernel_rfl) (fun _ _ _ _ h => h) ?q5p13b ?r5p13b
                            case q5p13b =>
                              intro W hW
                              have hxW : Box W bx _ _ := (hW.block bx hne5 xe6.lt).trans xe6
                              have cxW := hxW.cell
                              have lxW := hxW.lt
                              try simp only [List.getElem_toArray, List.getElem_cons_zero, List.getElem_cons_succ]
                              go_big_quiet_step (fail)
                              refine wpQuiet_nil ?_
                              rfl
                            refine wpAnyV_takeS hTr hGr (A := ?A6p13b) 6 rfl (by kernel_rfl) (by kernel_rfl) (by kernel_rfl) (fun _ _ _ _ h => h) ?q6p13b ?r6p13b
                            case q6p13b =>
                              intro W hW
                              try simp only [List.getElem_toArray, List.getElem_cons_zero, List.getElem_cons_succ]
                              go_big_quiet_step ((go_at_call 15; with_reducible exact GW.call (move_any _ _ _)))
                              refine wpQuiet_nil ?_
                              rfl
                            refine wpAnyV_one 7 (by kernel_rfl) ?_
                            intro W hW
                            obtain ⟨X, rfl⟩ := GW.of hW
                            refine wpOp_step rfl (fun K hK => ?_)
                            go_simp
                            (with_reducible refine (cM _ (hpt5.below (bl_trans hdr6 X.grow)) (ht.below (bl_trans hl5 (bl_trans hdr6 X.grow)))).mono ?_)
                            rintro e w7 ⟨v7, xs7, rfl, hrd7, hxs7, hpt7, hk7⟩
                            rw [strOf_nil hxs7] at hrd7
                            obtain ⟨pv7, nv7, cv7, hve7⟩ := hrd7.shape
                            subst hve7
                            have hnv7 := hrd7.len
                            simp only [List.length_nil] at hnv7
                            subst hnv7
                            have hk57 : Keep w.heap.size (j * 6) W5 w7 := (Keep.of_below (bl_trans hdr6 X.grow)).trans hk7
                            have hl7 : Below w.heap.size w w7 := Bar.to_below hl5 hk57.1 (Nat.le_refl _)
                            go_simp
                            refine hK _ _ ⟨hk7.1, ?_⟩
                            clear hK K
                            try simp only [Act.put, List.getElem_toArray, List.getElem_cons_zero, List.getElem_cons_succ, List.setIfInBounds_toArray, List.set_cons_zero, List.set_cons_succ]
                            refine wpAnyV_takeS hTr hGr (A := ?A8p13b) 8 rfl (by kernel_rfl) (by kernel_rfl) (by kernel_rfl) (fun _ _ _ _ h => h) ?q8p13b ?r8p13b
                            case q8p13b =>
                              intro W hW
                              try simp only [List.getElem_toArray, List.getElem_cons_zero, List.getElem_cons_succ]
                              go_big_quiet_step (fail)
                              refine wpQuiet_nil ?_
                              rfl
                            refine wpAnyV_takeS hTr hGr (A := ?A9p13b) 9 rfl (by kernel_rfl) (by kernel_rfl) (by kernel_rfl) (fun _ _ _ _ h => h) ?q9p13b ?r9p13b
                            case q9p13b =>
                              intro W hW
                              try simp only [List.getElem_toArray, List.getElem_cons_zero, List.getElem_cons_succ]
                              go_big_quiet_step (fail)
                              refine wpQuiet_nil ?_
                              rfl
                            refine wpAnyV_takeS hTr hGr (A := ?A10p13b) 10 rfl (by kernel_rfl) (by kernel_rfl) (by kernel_rfl) (fun _ _ _ _ h => h) ?q10p13b ?r10p13b
                            case q10p13b =>
                              intro W hW
                              try simp only [List.getElem_toArray, List.getElem_cons_zero, List.getElem_cons_succ]
                              go_big_quiet_step (fail)
                              refine wpQuiet_nil ?_
                              rfl
                            refine wpAnyV_takeS hTr hGr (A := ?A11p13b) 11 rfl (by kernel_rfl) (by kernel_rfl) (by kernel_rfl) (fun _ _ _ _ h => h) ?q11p13b ?r11p13b
                            case q11p13b =>
                              intro W hW
                              try simp only [List.getElem_toArray, List.getElem_cons_zero, List.getElem_cons_succ]
                              go_big_quiet_step (fail)
                              refine wpQuiet_nil ?_
                              rfl
                            refine wpAnyV_takeS hTr hGr (A := ?A12p13b) 12 rfl (by kernel_rfl) (by kernel_rfl) (by kernel_rfl) (fun _ _ _ _ h => h) ?q12p13b ?r12p13b
                            case q12p13b =>
                              intro W hW
                              try simp only [List.getElem_toArray, List.getElem_cons_zero, List.getElem_cons_succ]
                              go_big_quiet_step (fail)
                              refine wpQuiet_nil ?_
                              rfl
                            refine wpAnyV_done (by kernel_rfl) ?_ _
                            intro W hW
                            obtain ⟨X, rfl⟩ := GW.of hW
                            clear hW
                            go_wp2_with fail
                            have hq1 : ∀ m : Nat, m < 4 → PtB X.world w.heap.size (m * 6) (ptk x (m : Int) (if m < j + 1 then nxt g 1 3 r c else g)) := fun m hm => by
                              by_cases hmj : m = j
                              · subst hmj
                                rw [if_pos (by omega)]
                                rw [after_move] at hpt7
                                exact hpt7.below X.grow
                              · have h1 := (HPT2.out m hm).keep hkk4 (by omega)
                                have h2 := h1.same (hb5.block w.heap.size (by omega) h1.lt)
                                have h3 := (h2.keep hk57 (by omega)).below X.grow
                                by_cases hmj2 : m < j
                                · rw [if_pos hmj2] at h3; rw [if_pos (by omega)]; exact h3
                                · rw [if_neg hmj2] at h3; rw [if_neg (by omega)]; exact h3
                            have hq2 : Box X.world b1 #[.int .i64 u0, .int .i64 u1, .int .i64 u2, .int .i64 (wrap64 (u3 + 1))] 44 := Box.gw ((hk57.1.block b1 (by omega) xs5.lt).trans xs5)
                            have hq3 : Hid (∀ i : Nat, i + 1 = j + 1 → doS (ptk x (i : Int) g) 1 3 r c sh al ct = Oj) := fun i hi => by
                              have hij : i = j := by omega
                              rw [hij]
                              exact hOj
                            go_roundw
                            case rel => exact ⟨j + 1, Oj, u0, u1, u2, (wrap64 (u3 + 1)), by omega, by go_num, rfl, fun h => absurd h (by omega), hq3, hq1, hq2, HSN.out, bl_trans hl7 X.grow⟩
                            case measure => first | (simp [intOf]; done) | (simp [intOf]; omega)
                    · rcases hb3 with rfl | rfl | rfl
                      · have HSN : Hid (x = true → (wrap64 (u1 - 1)) = cntN g 2 1 1 g.h1 (j + 1) ∧ u2 = cntN g 2 1 2 g.h2 (j + 1) ∧ u3 = cntN g 2 1 3 g.h3 (j + 1)) := fun hx1 => by
                          obtain ⟨y1, y2, y3⟩ := HSUM2.out hx1
                          have z1 := cnt_step j hlt3 g 2 1 r c sh al ct 1 g.h1 rfl (by decide) Oj (hx1 ▸ hOj)
                          have v1 := cnt_range g 2 1 1 g.h1 (j + 1) (by omega)
                          have p1 := cnt_range g 2 1 1 g.h1 j (by omega)
                          have z2 := cnt_step j hlt3 g 2 1 r c sh al ct 2 g.h2 rfl (by decide) Oj (hx1 ▸ hOj)
                          have v2 := cnt_range g 2 1 2 g.h2 (j + 1) (by omega)
                          have p2 := cnt_range g 2 1 2 g.h2 j (by omega)
                          have z3 := cnt_step j hlt3 g 2 1 r c sh al ct 3 g.h3 rfl (by decide) Oj (hx1 ▸ hOj)
                          have v3 := cnt_range g 2 1 3 g.h3 (j + 1) (by omega)
                          have p3 := cnt_range g 2 1 3 g.h3 j (by omega)
                          rw [if_neg (fun h => by have := h.2.1; omega), if_pos ⟨hOe, rfl, rfl⟩] at z1
                          rw [if_neg (fun h => by have := h.2.1; omega), if_neg (fun h => absurd h.2.2 (by decide))] at z2
                          rw [if_neg (fun h => by have := h.2.1; omega), if_neg (fun h => absurd h.2.2 (by decide))] at z3
                          refine ⟨?_, ?_, ?_⟩
                          · rw [IntWalk.wrap64_in _ (by omega)]; omega
                          · omega
                          · omega
                        rcases HOO.out with rfl | ⟨hoo, hto⟩
                        · clear HOO
                          as_aux_lemma =>
                            go_wp2_with (first | (go_at_call 14; (with_reducible refine (cV _).mono ?_); rintro e w9 ⟨rfl, hb⟩; obtain ⟨X, rfl⟩ := GW.of hb; clear hb))
                            have hl5' : Below w.heap.size w (X.world.setCell ⟨b1, 1, none⟩ (.int .i64 (wrap64 (u1 - 1)))) := Bar.to_below (bl_trans hl4 X.grow) ((Bar.refl b1 _).set _ _) hws1
                            have hb5' : Bar b1 W4 (X.world.setCell ⟨b1, 1, none⟩ (.int .i64 (wrap64 (u1 - 1)))) := ((Bar.refl b1 W4).below X.grow).set _ _
                            have xs5' : Box (X.world.setCell ⟨b1, 1, none⟩ (.int .i64 (wrap64 (u1 - 1)))) b1 #[.int .i64 u0, .int .i64 (wrap64 (u1 - 1)), .int .i64 u2, .int .i64 u3] 44 := Box.as (Box.set (Box.gw xs4) 1 _) (by simp)
                            have hl5 : Below w.heap.size w ((X.world.setCell ⟨b1, 1, none⟩ (.int .i64 (wrap64 (u1 - 1)))).alloc (.cells #[.int .i64 2, .int .i64 1, .int .i64 r, .int .i64 c, .bool sh, .bool al, .bool ct] 24)) := bl_alloc hl5' _
                            have hb5 : Bar b1 W4 ((X.world.setCell ⟨b1, 1, none⟩ (.int .i64 (wrap64 (u1 - 1)))).alloc (.cells #[.int .i64 2, .int .i64 1, .int .i64 r, .int .i64 c, .bool sh, .bool al, .bool ct] 24)) := hb5'.alloc _
                            have xs5 : Box ((X.world.setCell ⟨b1, 1, none⟩ (.int .i64 (wrap64 (u1 - 1)))).alloc (.cells #[.int .i64 2, .int .i64 1, .int .i64 r, .int .i64 c, .bool sh, .bool al, .bool ct] 24)) b1 #[.int .i64 u0, .int .i64 (wrap64 (u1 - 1)), .int .i64 u2, .int .i64 u3] 44 := xs5'.alloc _
                            have xe5 : Box ((X.world.setCell ⟨b1, 1, none⟩ (.int .i64 (wrap64 (u1 - 1)))).alloc (.cells #[.int .i64 2, .int .i64 1, .int .i64 r, .int .i64 c, .bool sh, .bool al, .bool ct] 24)) (X.world.setCell ⟨b1, 1, none⟩ (.int .i64 (wrap64 (u1 - 1)))).heap.size #[.int .i64 2, .int .i64 1, .int .i64 r, .int .i64 c, .bool sh, .bool al, .bool ct] 24 := Box.new _ _ _ rfl
                            have esz : (X.world.setCell ⟨b1, 1, none⟩ (.int .i64 (wrap64 (u1 - 1)))).heap.size = X.world.heap.size := by simp
                            rw [esz] at xe5
                            have hne5 : X.world.heap.size ≠ w.heap.size := by have := X.grow.size; have := hl4.size; omega
                            generalize ((X.world.setCell ⟨b1, 1, none⟩ (.int .i64 (wrap64 (u1 - 1)))).alloc (.cells #[.int .i64 2, .int .i64 1, .int .i64 r, .int .i64 c, .bool sh, .bool al, .bool ct] 24)) = W5 at *
                            obtain ⟨bx, hbx⟩ : ∃ bx, X.world.heap.size = bx := ⟨_, rfl⟩
                            rw [hbx] at xe5 hne5 ⊢
                            clear hbx hl5' hb5' xs5' esz cs4 ls4 fs4 kc X e0 e1 e2 e3 e4 e5 e6 hbw
                            have hpt5 : PtB W5 w.heap.size (j * 6) (ptk x (j : Int) (nxt g 2 1 r c)) := hpt4.same (hb5.block w.heap.size (by omega) hpt4.lt)
                            have hld5 := hpt5.lt
                            have hdr : Below W5.heap.size W5 W5.drew := (Below.refl _ _).drew
                            obtain ⟨W6, hW6, xe6⟩ : ∃ W6, W5.drew = W6 ∧ Box W6 bx #[.int .i64 2, .int .i64 1, .int .i64 r, .int .i64 c, .bool sh, .bool al, .bool ct] 24 := ⟨W5.drew, rfl, xe5⟩
                            have hdr6 : Below W5.heap.size W5 W6 := hW6 ▸ hdr
                            have hTr : ∀ u1 u2 u3 : World, Bar w.heap.size u1 u2 → Bar w.heap.size u2 u3 → Bar w.heap.size u1 u3 := fun _ _ _ h1 h2 => Bar.trans h1 h2
                            have hGr : ∀ u1 u2 : World, Gr u1 u2 → Bar w.heap.size u1 u2 := fun _ _ h1 => Below.bar _ h1
                            refine wp_region_V (fun u1 u2 => Bar w.heap.size u1 u2) (by kernel_rfl) ?_
                            rw [hW6]
                            clear hW6 hdr
                            refine wpAnyV_takeS hTr hGr (A := ?A0p21a) 0 rfl (by kernel_rfl) (by kernel_rfl) (by kernel_rfl) (fun _ _ _ _ h => h) ?q0p21a ?r0p21a
                            case q0p21a =>
                              intro W hW
                              try simp only [List.getElem_toArray, List.getElem_cons_zero, List.getElem_cons_succ]
                              go_big_quiet_step (fail)
                              refine wpQuiet_nil ?_
                              rfl
                            refine wpAnyV_takeS hTr hGr (A := ?A1p21a) 1 rfl (by kernel_rfl) (by kernel_rfl) (by kernel_rfl) (fun _ _ _ _ h => h) ?q1p21a ?r1p21a
                            case q1p21a =>
                              intro W hW
                              try simp only [List.getElem_toArray, List.getElem_cons_zero, List.getElem_cons_succ]
                              go_big_quiet_step (fail)
                              refine wpQuiet_nil ?_
                              rfl
                            refine wpAnyV_takeS hTr hGr (A := ?A2p21a) 2 rfl (by kernel_rfl) (by kernel_rfl) (by kernel_rfl) (fun _ _ _ _ h => h) ?q2p21a ?r2p21a
                            case q2p21a =>
                              intro W hW
                              try simp only [List.getElem_toArray, List.getElem_cons_zero, List.getElem_cons_succ]
                              go_big_quiet_step (fail)
                              refine wpQuiet_nil ?_
                              rfl
                            refine wpAnyV_takeS hTr hGr (A := ?A3p21a) 3 rfl (by kernel_rfl) (by kernel_rfl) (by kernel_rfl) (fun _ _ _ _ h => h) ?q3p21a ?r3p21a
                            case q3p21a =>
                              intro W hW
                              have hxW : Box W bx _ _ := (hW.block bx hne5 xe6.lt).trans xe6
                              have cxW := hxW.cell
                              have lxW := hxW.lt
                              try simp only [List.getElem_toArray, List.getElem_cons_zero, List.getElem_cons_succ]
                              go_big_quiet_step (fail)
                              refine wpQuiet_nil ?_
                              rfl
                            refine wpAnyV_takeS hTr hGr (A := ?A4p21a) 4 rfl (by kernel_rfl) (by kernel_rfl) (by kernel_rfl) (fun _ _ _ _ h => h) ?q4p21a ?r4p21a
                            case q4p21a =>
                              intro W hW
                              try simp only [List.getElem_toArray, List.getElem_cons_zero, List.getElem_cons_succ]
                              go_big_quiet_step (fail)
                              refine wpQuiet_nil ?_
                              rfl
                            refine wpAnyV_takeS hTr hGr (A := ?A5p21a) 5 rfl (by kernel_rfl) (by kernel_rfl) (by kernel_rfl) (fun _ _ _ _ h => h) ?q5p21a ?r5p21a
                            case q5p21a =>
                              intro W hW
                              have hxW : Box W bx _ _ := (hW.block bx hne5 xe6.lt).trans xe6
                              have cxW := hxW.cell
                              have lxW := hxW.lt
                              try simp only [List.getElem_toArray, List.getElem_cons_zero, List.getElem_cons_succ]
                              go_big_quiet_step (fail)
                              refine wpQuiet_nil ?_
                              rfl
                            refine wpAnyV_takeS hTr hGr (A := ?A6p21a) 6 rfl (by kernel_rfl) (by kernel_rfl) (by kernel_rfl) (fun _ _ _ _ h => h) ?q6p21a ?r6p21a
                            case q6p21a =>
                              intro W hW
                              try simp only [List.getElem_toArray, List.getElem_cons_zero, List.getElem_cons_succ]
                              go_big_quiet_step ((go_at_call 15; with_reducible exact GW.call (move_any _ _ _)))
                              refine wpQuiet_nil ?_
                              rfl
                            refine wpAnyV_one 7 (by kernel_rfl) ?_
                            intro W hW
                            obtain ⟨X, rfl⟩ := GW.of hW
                            refine wpOp_step rfl (fun K hK => ?_)
                            go_simp
                            (with_reducible refine (cM _ (hpt5.below (bl_trans hdr6 X.grow)) (ht.below (bl_trans hl5 (bl_trans hdr6 X.grow)))).mono ?_)
                            rintro e w7 ⟨v7, xs7, rfl, hrd7, hxs7, hpt7, hk7⟩
                            rw [strOf_nil hxs7] at hrd7
                            obtain ⟨pv7, nv7, cv7, hve7⟩ := hrd7.shape
                            subst hve7
                            have hnv7 := hrd7.len
                            simp only [List.length_nil] at hnv7
                            subst hnv7
                            have hk57 : Keep w.heap.size (j * 6) W5 w7 := (Keep.of_below (bl_trans hdr6 X.grow)).trans hk7
                            have hl7 : Below w.heap.size w w7 := Bar.to_below hl5 hk57.1 (Nat.le_refl _)
                            go_simp
                            refine hK _ _ ⟨hk7.1, ?_⟩
                            clear hK K
                            try simp only [Act.put, List.getElem_toArray, List.getElem_cons_zero, List.getElem_cons_succ, List.setIfInBounds_toArray, List.set_cons_zero, List.set_cons_succ]
                            refine wpAnyV_takeS hTr hGr (A := ?A8p21a) 8 rfl (by kernel_rfl) (by kernel_rfl) (by kernel_rfl) (fun _ _ _ _ h => h) ?q8p21a ?r8p21a
                            case q8p21a =>
                              intro W hW
                              try simp only [List.getElem_toArray, List.getElem_cons_zero, List.getElem_cons_succ]
                              go_big_quiet_step (fail)
                              refine wpQuiet_nil ?_
                              rfl
                            refine wpAnyV_takeS hTr hGr (A := ?A9p21a) 9 rfl (by kernel_rfl) (by kernel_rfl) (by kernel_rfl) (fun _ _ _ _ h => h) ?q9p21a ?r9p21a
                            case q9p21a =>
                              intro W hW
                              try simp only [List.getElem_toArray, List.getElem_cons_zero, List.getElem_cons_succ]
                              go_big_quiet_step (fail)
                              refine wpQuiet_nil ?_
                              rfl
                            refine wpAnyV_takeS hTr hGr (A := ?A10p21a) 10 rfl (by kernel_rfl) (by kernel_rfl) (by kernel_rfl) (fun _ _ _ _ h => h) ?q10p21a ?r10p21a
                            case q10p21a =>
                              intro W hW
                              try simp only [List.getElem_toArray, List.getElem_cons_zero, List.getElem_cons_succ]
                              go_big_quiet_step (fail)
                              refine wpQuiet_nil ?_
                              rfl
                            refine wpAnyV_takeS hTr hGr (A := ?A11p21a) 11 rfl (by kernel_rfl) (by kernel_rfl) (by kernel_rfl) (fun _ _ _ _ h => h) ?q11p21a ?r11p21a
                            case q11p21a =>
                              intro W hW
                              try simp only [List.getElem_toArray, List.getElem_cons_zero, List.getElem_cons_succ]
                              go_big_quiet_step (fail)
                              refine wpQuiet_nil ?_
                              rfl
                            refine wpAnyV_takeS hTr hGr (A := ?A12p21a) 12 rfl (by kernel_rfl) (by kernel_rfl) (by kernel_rfl) (fun _ _ _ _ h => h) ?q12p21a ?r12p21a
                            case q12p21a =>
                              intro W hW
                              try simp only [List.getElem_toArray, List.getElem_cons_zero, List.getElem_cons_succ]
                              go_big_quiet_step (fail)
                              refine wpQuiet_nil ?_
                              rfl
                            refine wpAnyV_done (by kernel_rfl) ?_ _
                            intro W hW
                            obtain ⟨X, rfl⟩ := GW.of hW
                            clear hW
                            go_wp2_with fail
                            have hq1 : ∀ m : Nat, m < 4 → PtB X.world w.heap.size (m * 6) (ptk x (m : Int) (if m < j + 1 then nxt g 2 1 r c else g)) := fun m hm => by
                              by_cases hmj : m = j
                              · subst hmj
                                rw [if_pos (by omega)]
                                rw [after_move] at hpt7
                                exact hpt7.below X.grow
                              · have h1 := (HPT2.out m hm).keep hkk4 (by omega)
                                have h2 := h1.same (hb5.block w.heap.size (by omega) h1.lt)
                                have h3 := (h2.keep hk57 (by omega)).below X.grow
                                by_cases hmj2 : m < j
                                · rw [if_pos hmj2] at h3; rw [if_pos (by omega)]; exact h3
                                · rw [if_neg hmj2] at h3; rw [if_neg (by omega)]; exact h3
                            have hq2 : Box X.world b1 #[.int .i64 u0, .int .i64 (wrap64 (u1 - 1)), .int .i64 u2, .int .i64 u3] 44 := Box.gw ((hk57.1.block b1 (by omega) xs5.lt).trans xs5)
                            have hq3 : Hid (∀ i : Nat, i + 1 = j + 1 → doS (ptk x (i : Int) g) 2 1 r c sh al ct = Oj) := fun i hi => by
                              have hij : i = j := by omega
                              rw [hij]
                              exact hOj
                            go_roundw
                            case rel => exact ⟨j + 1, Oj, u0, (wrap64 (u1 - 1)), u2, u3, by omega, by go_num, rfl, fun h => absurd h (by omega), hq3, hq1, hq2, HSN.out, bl_trans hl7 X.grow⟩
                            case measure => first | (simp [intOf]; done) | (simp [intOf]; omega)
                        · subst hoo
                          clear HOO
                          as_aux_lemma =>
                            go_wp2_with (first | (go_at_call 14; (with_reducible refine (cV _).mono ?_); rintro e w9 ⟨rfl, hb⟩; obtain ⟨X, rfl⟩ := GW.of hb; clear hb))
                            have hl5' : Below w.heap.size w (X.world.setCell ⟨b1, 1, none⟩ (.int .i64 (wrap64 (u1 - 1)))) := Bar.to_below (bl_trans hl4 X.grow) ((Bar.refl b1 _).set _ _) hws1
                            have hb5' : Bar b1 W4 (X.world.setCell ⟨b1, 1, none⟩ (.int .i64 (wrap64 (u1 - 1)))) := ((Bar.refl b1 W4).below X.grow).set _ _
                            have xs5' : Box (X.world.setCell ⟨b1, 1, none⟩ (.int .i64 (wrap64 (u1 - 1)))) b1 #[.int .i64 u0, .int .i64 (wrap64 (u1 - 1)), .int .i64 u2, .int .i64 u3] 44 := Box.as (Box.set (Box.gw xs4) 1 _) (by simp)
                            have hl5 : Below w.heap.size w ((X.world.setCell ⟨b1, 1, none⟩ (.int .i64 (wrap64 (u1 - 1)))).alloc (.cells #[.int .i64 2, .int .i64 1, .int .i64 r, .int .i64 c, .bool sh, .bool al, .bool ct] 24)) := bl_alloc hl5' _
                            have hb5 : Bar b1 W4 ((X.world.setCell ⟨b1, 1, none⟩ (.int .i64 (wrap64 (u1 - 1)))).alloc (.cells #[.int .i64 2, .int .i64 1, .int .i64 r, .int .i64 c, .bool sh, .bool al, .bool ct] 24)) := hb5'.alloc _
                            have xs5 : Box ((X.world.setCell ⟨b1, 1, none⟩ (.int .i64 (wrap64 (u1 - 1)))).alloc (.cells #[.int .i64 2, .int .i64 1, .int .i64 r, .int .i64 c, .bool sh, .bool al, .bool ct] 24)) b1 #[.int .i64 u0, .int .i64 (wrap64 (u1 - 1)), .int .i64 u2, .int .i64 u3] 44 := xs5'.alloc _
                            have xe5 : Box ((X.world.setCell ⟨b1, 1, none⟩ (.int .i64 (wrap64 (u1 - 1)))).alloc (.cells #[.int .i64 2, .int .i64 1, .int .i64 r, .int .i64 c, .bool sh, .bool al, .bool ct] 24)) (X.world.setCell ⟨b1, 1, none⟩ (.int .i64 (wrap64 (u1 - 1)))).heap.size #[.int .i64 2, .int .i64 1, .int .i64 r, .int .i64 c, .bool sh, .bool al, .bool ct] 24 := Box.new _ _ _ rfl
                            have esz : (X.world.setCell ⟨b1, 1, none⟩ (.int .i64 (wrap64 (u1 - 1)))).heap.size = X.world.heap.size := by simp
                            rw [esz] at xe5
                            have hne5 : X.world.heap.size ≠ w.heap.size := by have := X.grow.size; have := hl4.size; omega
                            generalize ((X.world.setCell ⟨b1, 1, none⟩ (.int .i64 (wrap64 (u1 - 1)))).alloc (.cells #[.int .i64 2, .int .i64 1, .int .i64 r, .int .i64 c, .bool sh, .bool al, .bool ct] 24)) = W5 at *
                            obtain ⟨bx, hbx⟩ : ∃ bx, X.world.heap.size = bx := ⟨_, rfl⟩
                            rw [hbx] at xe5 hne5 ⊢
                            clear hbx hl5' hb5' xs5' esz cs4 ls4 fs4 kc X e0 e1 e2 e3 e4 e5 e6 hbw
                            have hpt5 : PtB W5 w.heap.size (j * 6) (ptk x (j : Int) (nxt g 2 1 r c)) := hpt4.same (hb5.block w.heap.size (by omega) hpt4.lt)
                            have hld5 := hpt5.lt
                            have hdr : Below W5.heap.size W5 W5.drew := (Below.refl _ _).drew
                            obtain ⟨W6, hW6, xe6⟩ : ∃ W6, W5.drew = W6 ∧ Box W6 bx #[.int .i64 2, .int .i64 1, .int .i64 r, .int .i64 c, .bool sh, .bool al, .bool ct] 24 := ⟨W5.drew, rfl, xe5⟩
                            have hdr6 : Below W5.heap.size W5 W6 := hW6 ▸ hdr
                            have hTr : ∀ u1 u2 u3 : World, Bar w.heap.size u1 u2 → Bar w.heap.size u2 u3 → Bar w.heap.size u1 u3 := fun _ _ _ h1 h2 => Bar.trans h1 h2
                            have hGr : ∀ u1 u2 : World, Gr u1 u2 → Bar w.heap.size u1 u2 := fun _ _ h1 => Below.bar _ h1
                            refine wp_region_V (fun u1 u2 => Bar w.heap.size u1 u2) (by kernel_rfl) ?_
                            rw [hW6]
                            clear hW6 hdr
                            refine wpAnyV_takeS hTr hGr (A := ?A0p21b) 0 rfl (by kernel_rfl) (by kernel_rfl) (by kernel_rfl) (fun _ _ _ _ h => h) ?q0p21b ?r0p21b
                            case q0p21b =>
                              intro W hW
                              try simp only [List.getElem_toArray, List.getElem_cons_zero, List.getElem_cons_succ]
                              go_big_quiet_step (fail)
                              refine wpQuiet_nil ?_
                              rfl
                            refine wpAnyV_takeS hTr hGr (A := ?A1p21b) 1 rfl (by kernel_rfl) (by kernel_rfl) (by kernel_rfl) (fun _ _ _ _ h => h) ?q1p21b ?r1p21b
                            case q1p21b =>
                              intro W hW
                              try simp only [List.getElem_toArray, List.getElem_cons_zero, List.getElem_cons_succ]
                              go_big_quiet_step (fail)
                              refine wpQuiet_nil ?_
                              rfl
                            refine wpAnyV_takeS hTr hGr (A := ?A2p21b) 2 rfl (by kernel_rfl) (by kernel_rfl) (by kernel_rfl) (fun _ _ _ _ h => h) ?q2p21b ?r2p21b
                            case q2p21b =>
                              intro W hW
                              try simp only [List.getElem_toArray, List.getElem_cons_zero, List.getElem_cons_succ]
                              go_big_quiet_step (fail)
                              refine wpQuiet_nil ?_
                              rfl
                            refine wpAnyV_takeS hTr hGr (A := ?A3p21b) 3 rfl (by kernel_rfl) (by kernel_rfl) (by kernel_rfl) (fun _ _ _ _ h => h) ?q3p21b ?r3p21b
                            case q3p21b =>
                              intro W hW
                              have hxW : Box W bx _ _ := (hW.block bx hne5 xe6.lt).trans xe6
                              have cxW := hxW.cell
                              have lxW := hxW.lt
                              try simp only [List.getElem_toArray, List.getElem_cons_zero, List.getElem_cons_succ]
                              go_big_quiet_step (fail)
                              refine wpQuiet_nil ?_
                              rfl
                            refine wpAnyV_takeS hTr hGr (A := ?A4p21b) 4 rfl (by kernel_rfl) (by kernel_rfl) (by kernel_rfl) (fun _ _ _ _ h => h) ?q4p21b ?r4p21b
                            case q4p21b =>
                              intro W hW
                              try simp only [List.getElem_toArray, List.getElem_cons_zero, List.getElem_cons_succ]
                              go_big_quiet_step (fail)
                              refine wpQuiet_nil ?_
                              rfl
                            refine wpAnyV_takeS hTr hGr (A := ?A5p21b) 5 rfl (by kernel_rfl) (by kernel_rfl) (by kernel_rfl) (fun _ _ _ _ h => h) ?q5p21b ?r5p21b
                            case q5p21b =>
                              intro W hW
                              have hxW : Box W bx _ _ := (hW.block bx hne5 xe6.lt).trans xe6
                              have cxW := hxW.cell
                              have lxW := hxW.lt
                              try simp only [List.getElem_toArray, List.getElem_cons_zero, List.getElem_cons_succ]
                              go_big_quiet_step (fail)
                              refine wpQuiet_nil ?_
                              rfl
                            refine wpAnyV_takeS hTr hGr (A := ?A6p21b) 6 rfl (by kernel_rfl) (by kernel_rfl) (by kernel_rfl) (fun _ _ _ _ h => h) ?q6p21b ?r6p21b
                            case q6p21b =>
                              intro W hW
                              try simp only [List.getElem_toArray, List.getElem_cons_zero, List.getElem_cons_succ]
                              go_big_quiet_step ((go_at_call 15; with_reducible exact GW.call (move_any _ _ _)))
                              refine wpQuiet_nil ?_
                              rfl
                            refine wpAnyV_one 7 (by kernel_rfl) ?_
                            intro W hW
                            obtain ⟨X, rfl⟩ := GW.of hW
                            refine wpOp_step rfl (fun K hK => ?_)
                            go_simp
                            (with_reducible refine (cM _ (hpt5.below (bl_trans hdr6 X.grow)) (ht.below (bl_trans hl5 (bl_trans hdr6 X.grow)))).mono ?_)
                            rintro e w7 ⟨v7, xs7, rfl, hrd7, hxs7, hpt7, hk7⟩
                            rw [strOf_nil hxs7] at hrd7
                            obtain ⟨pv7, nv7, cv7, hve7⟩ := hrd7.shape
                            subst hve7
                            have hnv7 := hrd7.len
                            simp only [List.length_nil] at hnv7
                            subst hnv7
                            have hk57 : Keep w.heap.size (j * 6) W5 w7 := (Keep.of_below (bl_trans hdr6 X.grow)).trans hk7
                            have hl7 : Below w.heap.size w w7 := Bar.to_below hl5 hk57.1 (Nat.le_refl _)
                            go_simp
                            refine hK _ _ ⟨hk7.1, ?_⟩
                            clear hK K
                            try simp only [Act.put, List.getElem_toArray, List.getElem_cons_zero, List.getElem_cons_succ, List.setIfInBounds_toArray, List.set_cons_zero, List.set_cons_succ]
                            refine wpAnyV_takeS hTr hGr (A := ?A8p21b) 8 rfl (by kernel_rfl) (by kernel_rfl) (by kernel_rfl) (fun _ _ _ _ h => h) ?q8p21b ?r8p21b
                            case q8p21b =>
                              intro W hW
                              try simp only [List.getElem_toArray, List.getElem_cons_zero, List.getElem_cons_succ]
                              go_big_quiet_step (fail)
                              refine wpQuiet_nil ?_
                              rfl
                            refine wpAnyV_takeS hTr hGr (A := ?A9p21b) 9 rfl (by kernel_rfl) (by kernel_rfl) (by kernel_rfl) (fun _ _ _ _ h => h) ?q9p21b ?r9p21b
                            case q9p21b =>
                              intro W hW
                              try simp only [List.getElem_toArray, List.getElem_cons_zero, List.getElem_cons_succ]
                              go_big_quiet_step (fail)
                              refine wpQuiet_nil ?_
                              rfl
                            refine wpAnyV_takeS hTr hGr (A := ?A10p21b) 10 rfl (by kernel_rfl) (by kernel_rfl) (by kernel_rfl) (fun _ _ _ _ h => h) ?q10p21b ?r10p21b
                            case q10p21b =>
                              intro W hW
                              try simp only [List.getElem_toArray, List.getElem_cons_zero, List.getElem_cons_succ]
                              go_big_quiet_step (fail)
                              refine wpQuiet_nil ?_
                              rfl
                            refine wpAnyV_takeS hTr hGr (A := ?A11p21b) 11 rfl (by kernel_rfl) (by kernel_rfl) (by kernel_rfl) (fun _ _ _ _ h => h) ?q11p21b ?r11p21b
                            case q11p21b =>
                              intro W hW
                              try simp only [List.getElem_toArray, List.getElem_cons_zero, List.getElem_cons_succ]
                              go_big_quiet_step (fail)
                              refine wpQuiet_nil ?_
                              rfl
                            refine wpAnyV_takeS hTr hGr (A := ?A12p21b) 12 rfl (by kernel_rfl) (by kernel_rfl) (by kernel_rfl) (fun _ _ _ _ h => h) ?q12p21b ?r12p21b
                            case q12p21b =>
                              intro W hW
                              try simp only [List.getElem_toArray, List.getElem_cons_zero, List.getElem_cons_succ]
                              go_big_quiet_step (fail)
                              refine wpQuiet_nil ?_
                              rfl
                            refine wpAnyV_done (by kernel_rfl) ?_ _
                            intro W hW
                            obtain ⟨X, rfl⟩ := GW.of hW
                            clear hW
                            go_wp2_with fail
                            have hq1 : ∀ m : Nat, m < 4 → PtB X.world w.heap.size (m * 6) (ptk x (m : Int) (if m < j + 1 then nxt g 2 1 r c else g)) := fun m hm => by
                              by_cases hmj : m = j
                              · subst hmj
                                rw [if_pos (by omega)]
                                rw [after_move] at hpt7
                                exact hpt7.below X.grow
                              · have h1 := (HPT2.out m hm).keep hkk4 (by omega)
                                have h2 := h1.same (hb5.block w.heap.size (by omega) h1.lt)
                                have h3 := (h2.keep hk57 (by omega)).below X.grow
                                by_cases hmj2 : m < j
                                · rw [if_pos hmj2] at h3; rw [if_pos (by omega)]; exact h3
                                · rw [if_neg hmj2] at h3; rw [if_neg (by omega)]; exact h3
                            have hq2 : Box X.world b1 #[.int .i64 u0, .int .i64 (wrap64 (u1 - 1)), .int .i64 u2, .int .i64 u3] 44 := Box.gw ((hk57.1.block b1 (by omega) xs5.lt).trans xs5)
                            have hq3 : Hid (∀ i : Nat, i + 1 = j + 1 → doS (ptk x (i : Int) g) 2 1 r c sh al ct = Oj) := fun i hi => by
                              have hij : i = j := by omega
                              rw [hij]
                              exact hOj
                            go_roundw
                            case rel => exact ⟨j + 1, Oj, u0, (wrap64 (u1 - 1)), u2, u3, by omega, by go_num, rfl, fun h => absurd h (by omega), hq3, hq1, hq2, HSN.out, bl_trans hl7 X.grow⟩
                            case measure => first | (simp [intOf]; done) | (simp [intOf]; omega)
                      · have HSN : Hid (x = true → u1 = cntN g 2 2 1 g.h1 (j + 1) ∧ (wrap64 (u2 - 1)) = cntN g 2 2 2 g.h2 (j + 1) ∧ u3 = cntN g 2 2 3 g.h3 (j + 1)) := fun hx1 => by
                          obtain ⟨y1, y2, y3⟩ := HSUM2.out hx1
                          have z1 := cnt_step j hlt3 g 2 2 r c sh al ct 1 g.h1 rfl (by decide) Oj (hx1 ▸ hOj)
                          have v1 := cnt_range g 2 2 1 g.h1 (j + 1) (by omega)
                          have p1 := cnt_range g 2 2 1 g.h1 j (by omega)
                          have z2 := cnt_step j hlt3 g 2 2 r c sh al ct 2 g.h2 rfl (by decide) Oj (hx1 ▸ hOj)
                          have v2 := cnt_range g 2 2 2 g.h2 (j + 1) (by omega)
                          have p2 := cnt_range g 2 2 2 g.h2 j (by omega)
                          have z3 := cnt_step j hlt3 g 2 2 r c sh al ct 3 g.h3 rfl (by decide) Oj (hx1 ▸ hOj)
                          have v3 := cnt_range g 2 2 3 g.h3 (j + 1) (by omega)
                          have p3 := cnt_range g 2 2 3 g.h3 j (by omega)
                          rw [if_neg (fun h => by have := h.2.1; omega), if_neg (fun h => absurd h.2.2 (by decide))] at z1
                          rw [if_neg (fun h => by have := h.2.1; omega), if_pos ⟨hOe, rfl, rfl⟩] at z2
                          rw [if_neg (fun h => by have := h.2.1; omega), if_neg (fun h => absurd h.2.2 (by decide))] at z3
                          refine ⟨?_, ?_, ?_⟩
                          · omega
                          · rw [IntWalk.wrap64_in _ (by omega)]; omega
                          · omega
                        rcases HOO.out with rfl | ⟨hoo, hto⟩
                        · clear HOO
                          as_aux_lemma =>
                            go_wp2_with (first | (go_at_call 14; (with_reducible refine (cV _).mono ?_); rintro e w9 ⟨rfl, hb⟩; obtain ⟨X, rfl⟩ := GW.of hb; clear hb))
                            have hl5' : Below w.heap.size w (X.world.setCell ⟨b1, 2, none⟩ (.int .i64 (wrap64 (u2 - 1)))) := Bar.to_below (bl_trans hl4 X.grow) ((Bar.refl b1 _).set _ _) hws1
                            have hb5' : Bar b1 W4 (X.world.setCell ⟨b1, 2, none⟩ (.int .i64 (wrap64 (u2 - 1)))) := ((Bar.refl b1 W4).below X.grow).set _ _
                            have xs5' : Box (X.world.setCell ⟨b1, 2, none⟩ (.int .i64 (wrap64 (u2 - 1)))) b1 #[.int .i64 u0, .int .i64 u1, .int .i64 (wrap64 (u2 - 1)), .int .i64 u3] 44 := Box.as (Box.set (Box.gw xs4) 2 _) (by simp)
                            have hl5 : Below w.heap.size w ((X.world.setCell ⟨b1, 2, none⟩ (.int .i64 (wrap64 (u2 - 1)))).alloc (.cells #[.int .i64 2, .int .i64 2, .int .i64 r, .int .i64 c, .bool sh, .bool al, .bool ct] 24)) := bl_alloc hl5' _
                            have hb5 : Bar b1 W4 ((X.world.setCell ⟨b1, 2, none⟩ (.int .i64 (wrap64 (u2 - 1)))).alloc (.cells #[.int .i64 2, .int .i64 2, .int .i64 r, .int .i64 c, .bool sh, .bool al, .bool ct] 24)) := hb5'.alloc _
                            have xs5 : Box ((X.world.setCell ⟨b1, 2, none⟩ (.int .i64 (wrap64 (u2 - 1)))).alloc (.cells #[.int .i64 2, .int .i64 2, .int .i64 r, .int .i64 c, .bool sh, .bool al, .bool ct] 24)) b1 #[.int .i64 u0, .int .i64 u1, .int .i64 (wrap64 (u2 - 1)), .int .i64 u3] 44 := xs5'.alloc _
                            have xe5 : Box ((X.world.setCell ⟨b1, 2, none⟩ (.int .i64 (wrap64 (u2 - 1)))).alloc (.cells #[.int .i64 2, .int .i64 2, .int .i64 r, .int .i64 c, .bool sh, .bool al, .bool ct] 24)) (X.world.setCell ⟨b1, 2, none⟩ (.int .i64 (wrap64 (u2 - 1)))).heap.size #[.int .i64 2, .int .i64 2, .int .i64 r, .int .i64 c, .bool sh, .bool al, .bool ct] 24 := Box.new _ _ _ rfl
                            have esz : (X.world.setCell ⟨b1, 2, none⟩ (.int .i64 (wrap64 (u2 - 1)))).heap.size = X.world.heap.size := by simp
                            rw [esz] at xe5
                            have hne5 : X.world.heap.size ≠ w.heap.size := by have := X.grow.size; have := hl4.size; omega
                            generalize ((X.world.setCell ⟨b1, 2, none⟩ (.int .i64 (wrap64 (u2 - 1)))).alloc (.cells #[.int .i64 2, .int .i64 2, .int .i64 r, .int .i64 c, .bool sh, .bool al, .bool ct] 24)) = W5 at *
                            obtain ⟨bx, hbx⟩ : ∃ bx, X.world.heap.size = bx := ⟨_, rfl⟩
                            rw [hbx] at xe5 hne5 ⊢
                            clear hbx hl5' hb5' xs5' esz cs4 ls4 fs4 kc X e0 e1 e2 e3 e4 e5 e6 hbw
                            have hpt5 : PtB W5 w.heap.size (j * 6) (ptk x (j : Int) (nxt g 2 2 r c)) := hpt4.same (hb5.block w.heap.size (by omega) hpt4.lt)
                            have hld5 := hpt5.lt
                            have hdr : Below W5.heap.size W5 W5.drew := (Below.refl _ _).drew
                            obtain ⟨W6, hW6, xe6⟩ : ∃ W6, W5.drew = W6 ∧ Box W6 bx #[.int .i64 2, .int .i64 2, .int .i64 r, .int .i64 c, .bool sh, .bool al, .bool ct] 24 := ⟨W5.drew, rfl, xe5⟩
                            have hdr6 : Below W5.heap.size W5 W6 := hW6 ▸ hdr
                            have hTr : ∀ u1 u2 u3 : World, Bar w.heap.size u1 u2 → Bar w.heap.size u2 u3 → Bar w.heap.size u1 u3 := fun _ _ _ h1 h2 => Bar.trans h1 h2
                            have hGr : ∀ u1 u2 : World, Gr u1 u2 → Bar w.heap.size u1 u2 := fun _ _ h1 => Below.bar _ h1
                            refine wp_region_V (fun u1 u2 => Bar w.heap.size u1 u2) (by kernel_rfl) ?_
                            rw [hW6]
                            clear hW6 hdr
                            refine wpAnyV_takeS hTr hGr (A := ?A0p22a) 0 rfl (by kernel_rfl) (by kernel_rfl) (by kernel_rfl) (fun _ _ _ _ h => h) ?q0p22a ?r0p22a
                            case q0p22a =>
                              intro W hW
                              try simp only [List.getElem_toArray, List.getElem_cons_zero, List.getElem_cons_succ]
                              go_big_quiet_step (fail)
                              refine wpQuiet_nil ?_
                              rfl
                            refine wpAnyV_takeS hTr hGr (A := ?A1p22a) 1 rfl (by kernel_rfl) (by kernel_rfl) (by kernel_rfl) (fun _ _ _ _ h => h) ?q1p22a ?r1p22a
                            case q1p22a =>
                              intro W hW
                              try simp only [List.getElem_toArray, List.getElem_cons_zero, List.getElem_cons_succ]
                              go_big_quiet_step (fail)
                              refine wpQuiet_nil ?_
                              rfl
                            refine wpAnyV_takeS hTr hGr (A := ?A2p22a) 2 rfl (by kernel_rfl) (by kernel_rfl) (by kernel_rfl) (fun _ _ _ _ h => h) ?q2p22a ?r2p22a
                            case q2p22a =>
                              intro W hW
                              try simp only [List.getElem_toArray, List.getElem_cons_zero, List.getElem_cons_succ]
                              go_big_quiet_step (fail)
                              refine wpQuiet_nil ?_
                              rfl
                            refine wpAnyV_takeS hTr hGr (A := ?A3p22a) 3 rfl (by kernel_rfl) (by kernel_rfl) (by kernel_rfl) (fun _ _ _ _ h => h) ?q3p22a ?r3p22a
                            case q3p22a =>
                              intro W hW
                              have hxW : Box W bx _ _ := (hW.block bx hne5 xe6.lt).trans xe6
                              have cxW := hxW.cell
                              have lxW := hxW.lt
                              try simp only [List.getElem_toArray, List.getElem_cons_zero, List.getElem_cons_succ]
                              go_big_quiet_step (fail)
                              refine wpQuiet_nil ?_
                              rfl
                            refine wpAnyV_takeS hTr hGr (A := ?A4p22a) 4 rfl (by kernel_rfl) (by kernel_rfl) (by kernel_rfl) (fun _ _ _ _ h => h) ?q4p22a ?r4p22a
                            case q4p22a =>
                              intro W hW
                              try simp only [List.getElem_toArray, List.getElem_cons_zero, List.getElem_cons_succ]
                              go_big_quiet_step (fail)
                              refine wpQuiet_nil ?_
                              rfl
                            refine wpAnyV_takeS hTr hGr (A := ?A5p22a) 5 rfl (by kernel_rfl) (by kernel_rfl) (by kernel_rfl) (fun _ _ _ _ h => h) ?q5p22a ?r5p22a
                            case q5p22a =>
                              intro W hW
                              have hxW : Box W bx _ _ := (hW.block bx hne5 xe6.lt).trans xe6
                              have cxW := hxW.cell
                              have lxW := hxW.lt
                              try simp only [List.getElem_toArray, List.getElem_cons_zero, List.getElem_cons_succ]
                              go_big_quiet_step (fail)
                              refine wpQuiet_nil ?_
                              rfl
                            refine wpAnyV_takeS hTr hGr (A := ?A6p22a) 6 rfl (by kernel_rfl) (by kernel_rfl) (by kernel_rfl) (fun _ _ _ _ h => h) ?q6p22a ?r6p22a
                            case q6p22a =>
                              intro W hW
                              try simp only [List.getElem_toArray, List.getElem_cons_zero, List.getElem_cons_succ]
                              go_big_quiet_step ((go_at_call 15; with_reducible exact GW.call (move_any _ _ _)))
                              refine wpQuiet_nil ?_
                              rfl
                            refine wpAnyV_one 7 (by kernel_rfl) ?_
                            intro W hW
                            obtain ⟨X, rfl⟩ := GW.of hW
                            refine wpOp_step rfl (fun K hK => ?_)
                            go_simp
                            (with_reducible refine (cM _ (hpt5.below (bl_trans hdr6 X.grow)) (ht.below (bl_trans hl5 (bl_trans hdr6 X.grow)))).mono ?_)
                            rintro e w7 ⟨v7, xs7, rfl, hrd7, hxs7, hpt7, hk7⟩
                            rw [strOf_nil hxs7] at hrd7
                            obtain ⟨pv7, nv7, cv7, hve7⟩ := hrd7.shape
                            subst hve7
                            have hnv7 := hrd7.len
                            simp only [List.length_nil] at hnv7
                            subst hnv7
                            have hk57 : Keep w.heap.size (j * 6) W5 w7 := (Keep.of_below (bl_trans hdr6 X.grow)).trans hk7
                            have hl7 : Below w.heap.size w w7 := Bar.to_below hl5 hk57.1 (Nat.le_refl _)
                            go_simp
                            refine hK _ _ ⟨hk7.1, ?_⟩
                            clear hK K
                            try simp only [Act.put, List.getElem_toArray, List.getElem_cons_zero, List.getElem_cons_succ, List.setIfInBounds_toArray, List.set_cons_zero, List.set_cons_succ]
                            refine wpAnyV_takeS hTr hGr (A := ?A8p22a) 8 rfl (by kernel_rfl) (by kernel_rfl) (by kernel_rfl) (fun _ _ _ _ h => h) ?q8p22a ?r8p22a
                            case q8p22a =>
                              intro W hW
                              try simp only [List.getElem_toArray, List.getElem_cons_zero, List.getElem_cons_succ]
                              go_big_quiet_step (fail)
                              refine wpQuiet_nil ?_
                              rfl
                            refine wpAnyV_takeS hTr hGr (A := ?A9p22a) 9 rfl (by kernel_rfl) (by kernel_rfl) (by kernel_rfl) (fun _ _ _ _ h => h) ?q9p22a ?r9p22a
                            case q9p22a =>
                              intro W hW
                              try simp only [List.getElem_toArray, List.getElem_cons_zero, List.getElem_cons_succ]
                              go_big_quiet_step (fail)
                              refine wpQuiet_nil ?_
                              rfl
                            refine wpAnyV_takeS hTr hGr (A := ?A10p22a) 10 rfl (by kernel_rfl) (by kernel_rfl) (by kernel_rfl) (fun _ _ _ _ h => h) ?q10p22a ?r10p22a
                            case q10p22a =>
                              intro W hW
                              try simp only [List.getElem_toArray, List.getElem_cons_zero, List.getElem_cons_succ]
                              go_big_quiet_step (fail)
                              refine wpQuiet_nil ?_
                              rfl
                            refine wpAnyV_takeS hTr hGr (A := ?A11p22a) 11 rfl (by kernel_rfl) (by kernel_rfl) (by kernel_rfl) (fun _ _ _ _ h => h) ?q11p22a ?r11p22a
                            case q11p22a =>
                              intro W hW
                              try simp only [List.getElem_toArray, List.getElem_cons_zero, List.getElem_cons_succ]
                              go_big_quiet_step (fail)
                              refine wpQuiet_nil ?_
                              rfl
                            refine wpAnyV_takeS hTr hGr (A := ?A12p22a) 12 rfl (by kernel_rfl) (by kernel_rfl) (by kernel_rfl) (fun _ _ _ _ h => h) ?q12p22a ?r12p22a
                            case q12p22a =>
                              intro W hW
                              try simp only [List.getElem_toArray, List.getElem_cons_zero, List.getElem_cons_succ]
                              go_big_quiet_step (fail)
                              refine wpQuiet_nil ?_
                              rfl
                            refine wpAnyV_done (by kernel_rfl) ?_ _
                            intro W hW
                            obtain ⟨X, rfl⟩ := GW.of hW
                            clear hW
                            go_wp2_with fail
                            have hq1 : ∀ m : Nat, m < 4 → PtB X.world w.heap.size (m * 6) (ptk x (m : Int) (if m < j + 1 then nxt g 2 2 r c else g)) := fun m hm => by
                              by_cases hmj : m = j
                              · subst hmj
                                rw [if_pos (by omega)]
                                rw [after_move] at hpt7
                                exact hpt7.below X.grow
                              · have h1 := (HPT2.out m hm).keep hkk4 (by omega)
                                have h2 := h1.same (hb5.block w.heap.size (by omega) h1.lt)
                                have h3 := (h2.keep hk57 (by omega)).below X.grow
                                by_cases hmj2 : m < j
                                · rw [if_pos hmj2] at h3; rw [if_pos (by omega)]; exact h3
                                · rw [if_neg hmj2] at h3; rw [if_neg (by omega)]; exact h3
                            have hq2 : Box X.world b1 #[.int .i64 u0, .int .i64 u1, .int .i64 (wrap64 (u2 - 1)), .int .i64 u3] 44 := Box.gw ((hk57.1.block b1 (by omega) xs5.lt).trans xs5)
                            have hq3 : Hid (∀ i : Nat, i + 1 = j + 1 → doS (ptk x (i : Int) g) 2 2 r c sh al ct = Oj) := fun i hi => by
                              have hij : i = j := by omega
                              rw [hij]
                              exact hOj
                            go_roundw
                            case rel => exact ⟨j + 1, Oj, u0, u1, (wrap64 (u2 - 1)), u3, by omega, by go_num, rfl, fun h => absurd h (by omega), hq3, hq1, hq2, HSN.out, bl_trans hl7 X.grow⟩
                            case measure => first | (simp [intOf]; done) | (simp [intOf]; omega)
                        · subst hoo
                          clear HOO
                          as_aux_lemma =>
                            go_wp2_with (first | (go_at_call 14; (with_reducible refine (cV _).mono ?_); rintro e w9 ⟨rfl, hb⟩; obtain ⟨X, rfl⟩ := GW.of hb; clear hb))
                            have hl5' : Below w.heap.size w (X.world.setCell ⟨b1, 2, none⟩ (.int .i64 (wrap64 (u2 - 1)))) := Bar.to_below (bl_trans hl4 X.grow) ((Bar.refl b1 _).set _ _) hws1
                            have hb5' : Bar b1 W4 (X.world.setCell ⟨b1, 2, none⟩ (.int .i64 (wrap64 (u2 - 1)))) := ((Bar.refl b1 W4).below X.grow).set _ _
                            have xs5' : Box (X.world.setCell ⟨b1, 2, none⟩ (.int .i64 (wrap64 (u2 - 1)))) b1 #[.int .i64 u0, .int .i64 u1, .int .i64 (wrap64 (u2 - 1)), .int .i64 u3] 44 := Box.as (Box.set (Box.gw xs4) 2 _) (by simp)
                            have hl5 : Below w.heap.size w ((X.world.setCell ⟨b1, 2, none⟩ (.int .i64 (wrap64 (u2 - 1)))).alloc (.cells #[.int .i64 2, .int .i64 2, .int .i64 r, .int .i64 c, .bool sh, .bool al, .bool ct] 24)) := bl_alloc hl5' _
                            have hb5 : Bar b1 W4 ((X.world.setCell ⟨b1, 2, none⟩ (.int .i64 (wrap64 (u2 - 1)))).alloc (.cells #[.int .i64 2, .int .i64 2, .int .i64 r, .int .i64 c, .bool sh, .bool al, .bool ct] 24)) := hb5'.alloc _
                            have xs5 : Box ((X.world.setCell ⟨b1, 2, none⟩ (.int .i64 (wrap64 (u2 - 1)))).alloc (.cells #[.int .i64 2, .int .i64 2, .int .i64 r, .int .i64 c, .bool sh, .bool al, .bool ct] 24)) b1 #[.int .i64 u0, .int .i64 u1, .int .i64 (wrap64 (u2 - 1)), .int .i64 u3] 44 := xs5'.alloc _
                            have xe5 : Box ((X.world.setCell ⟨b1, 2, none⟩ (.int .i64 (wrap64 (u2 - 1)))).alloc (.cells #[.int .i64 2, .int .i64 2, .int .i64 r, .int .i64 c, .bool sh, .bool al, .bool ct] 24)) (X.world.setCell ⟨b1, 2, none⟩ (.int .i64 (wrap64 (u2 - 1)))).heap.size #[.int .i64 2, .int .i64 2, .int .i64 r, .int .i64 c, .bool sh, .bool al, .bool ct] 24 := Box.new _ _ _ rfl
                            have esz : (X.world.setCell ⟨b1, 2, none⟩ (.int .i64 (wrap64 (u2 - 1)))).heap.size = X.world.heap.size := by simp
                            rw [esz] at xe5
                            have hne5 : X.world.heap.size ≠ w.heap.size := by have := X.grow.size; have := hl4.size; omega
                            generalize ((X.world.setCell ⟨b1, 2, none⟩ (.int .i64 (wrap64 (u2 - 1)))).alloc (.cells #[.int .i64 2, .int .i64 2, .int .i64 r, .int .i64 c, .bool sh, .bool al, .bool ct] 24)) = W5 at *
                            obtain ⟨bx, hbx⟩ : ∃ bx, X.world.heap.size = bx := ⟨_, rfl⟩
                            rw [hbx] at xe5 hne5 ⊢
                            clear hbx hl5' hb5' xs5' esz cs4 ls4 fs4 kc X e0 e1 e2 e3 e4 e5 e6 hbw
                            have hpt5 : PtB W5 w.heap.size (j * 6) (ptk x (j : Int) (nxt g 2 2 r c)) := hpt4.same (hb5.block w.heap.size (by omega) hpt4.lt)
                            have hld5 := hpt5.lt
                            have hdr : Below W5.heap.size W5 W5.drew := (Below.refl _ _).drew
                            obtain ⟨W6, hW6, xe6⟩ : ∃ W6, W5.drew = W6 ∧ Box W6 bx #[.int .i64 2, .int .i64 2, .int .i64 r, .int .i64 c, .bool sh, .bool al, .bool ct] 24 := ⟨W5.drew, rfl, xe5⟩
                            have hdr6 : Below W5.heap.size W5 W6 := hW6 ▸ hdr
                            have hTr : ∀ u1 u2 u3 : World, Bar w.heap.size u1 u2 → Bar w.heap.size u2 u3 → Bar w.heap.size u1 u3 := fun _ _ _ h1 h2 => Bar.trans h1 h2
                            have hGr : ∀ u1 u2 : World, Gr u1 u2 → Bar w.heap.size u1 u2 := fun _ _ h1 => Below.bar _ h1
                            refine wp_region_V (fun u1 u2 => Bar w.heap.size u1 u2) (by kernel_rfl) ?_
                            rw [hW6]
                            clear hW6 hdr
                            refine wpAnyV_takeS hTr hGr (A := ?A0p22b) 0 rfl (by kernel_rfl) (by kernel_rfl) (by kernel_rfl) (fun _ _ _ _ h => h) ?q0p22b ?r0p22b
                            case q0p22b =>
                              intro W hW
                              try simp only [List.getElem_toArray, List.getElem_cons_zero, List.getElem_cons_succ]
                              go_big_quiet_step (fail)
                              refine wpQuiet_nil ?_
                              rfl
                            refine wpAnyV_takeS hTr hGr (A := ?A1p22b) 1 rfl (by kernel_rfl) (by kernel_rfl) (by kernel_rfl) (fun _ _ _ _ h => h) ?q1p22b ?r1p22b
                            case q1p22b =>
                              intro W hW
                              try simp only [List.getElem_toArray, List.getElem_cons_zero, List.getElem_cons_succ]
                              go_big_quiet_step (fail)
                              refine wpQuiet_nil ?_
                              rfl
                            refine wpAnyV_takeS hTr hGr (A := ?A2p22b) 2 rfl (by kernel_rfl) (by kernel_rfl) (by kernel_rfl) (fun _ _ _ _ h => h) ?q2p22b ?r2p22b
                            case q2p22b =>
                              intro W hW
                              try simp only [List.getElem_toArray, List.getElem_cons_zero, List.getElem_cons_succ]
                              go_big_quiet_step (fail)
                              refine wpQuiet_nil ?_
                              rfl
                            refine wpAnyV_takeS hTr hGr (A := ?A3p22b) 3 rfl (by kernel_rfl) (by kernel_rfl) (by kernel_rfl) (fun _ _ _ _ h => h) ?q3p22b ?r3p22b
                            case q3p22b =>
                              intro W hW
                              have hxW : Box W bx _ _ := (hW.block bx hne5 xe6.lt).trans xe6
                              have cxW := hxW.cell
                              have lxW := hxW.lt
                              try simp only [List.getElem_toArray, List.getElem_cons_zero, List.getElem_cons_succ]
                              go_big_quiet_step (fail)
                              refine wpQuiet_nil ?_
                              rfl
                            refine wpAnyV_takeS hTr hGr (A := ?A4p22b) 4 rfl (by kernel_rfl) (by kernel_rfl) (by kernel_rfl) (fun _ _ _ _ h => h) ?q4p22b ?r4p22b
                            case q4p22b =>
                              intro W hW
                              try simp only [List.getElem_toArray, List.getElem_cons_zero, List.getElem_cons_succ]
                              go_big_quiet_step (fail)
                              refine wpQuiet_nil ?_
                              rfl
                            refine wpAnyV_takeS hTr hGr (A := ?A5p22b) 5 rfl (by kernel_rfl) (by kernel_rfl) (by kernel_rfl) (fun _ _ _ _ h => h) ?q5p22b ?r5p22b
                            case q5p22b =>
                              intro W hW
                              have hxW : Box W bx _ _ := (hW.block bx hne5 xe6.lt).trans xe6
                              have cxW := hxW.cell
                              have lxW := hxW.lt
                              try simp only [List.getElem_toArray, List.getElem_cons_zero, List.getElem_cons_succ]
                              go_big_quiet_step (fail)
                              refine wpQuiet_nil ?_
                              rfl
                            refine wpAnyV_takeS hTr hGr (A := ?A6p22b) 6 rfl (by kernel_rfl) (by kernel_rfl) (by kernel_rfl) (fun _ _ _ _ h => h) ?q6p22b ?r6p22b
                            case q6p22b =>
                              intro W hW
                              try simp only [List.getElem_toArray, List.getElem_cons_zero, List.getElem_cons_succ]
                              go_big_quiet_step ((go_at_call 15; with_reducible exact GW.call (move_any _ _ _)))
                              refine wpQuiet_nil ?_
                              rfl
                            refine wpAnyV_one 7 (by kernel_rfl) ?_
                            intro W hW
                            obtain ⟨X, rfl⟩ := GW.of hW
                            refine wpOp_step rfl (fun K hK => ?_)
                            go_simp
                            (with_reducible refine (cM _ (hpt5.below (bl_trans hdr6 X.grow)) (ht.below (bl_trans hl5 (bl_trans hdr6 X.grow)))).mono ?_)
                            rintro e w7 ⟨v7, xs7, rfl, hrd7, hxs7, hpt7, hk7⟩
                            rw [strOf_nil hxs7] at hrd7
                            obtain ⟨pv7, nv7, cv7, hve7⟩ := hrd7.shape
                            subst hve7
                            have hnv7 := hrd7.len
                            simp only [List.length_nil] at hnv7
                            subst hnv7
                            have hk57 : Keep w.heap.size (j * 6) W5 w7 := (Keep.of_below (bl_trans hdr6 X.grow)).trans hk7
                            have hl7 : Below w.heap.size w w7 := Bar.to_below hl5 hk57.1 (Nat.le_refl _)
                            go_simp
                            refine hK _ _ ⟨hk7.1, ?_⟩
                            clear hK K
                            try simp only [Act.put, List.getElem_toArray, List.getElem_cons_zero, List.getElem_cons_succ, List.setIfInBounds_toArray, List.set_cons_zero, List.set_cons_succ]
                            refine wpAnyV_takeS hTr hGr (A := ?A8p22b) 8 rfl (by kernel_rfl) (by kernel_rfl) (by kernel_rfl) (fun _ _ _ _ h => h) ?q8p22b ?r8p22b
                            case q8p22b =>
                              intro W hW
                              try simp only [List.getElem_toArray, List.getElem_cons_zero, List.getElem_cons_succ]
                              go_big_quiet_step (fail)
                              refine wpQuiet_nil ?_
                              rfl
                            refine wpAnyV_takeS hTr hGr (A := ?A9p22b) 9 rfl (by kernel_rfl) (by kernel_rfl) (by kernel_rfl) (fun _ _ _ _ h => h) ?q9p22b ?r9p22b
                            case q9p22b =>
                              intro W hW
                              try simp only [List.getElem_toArray, List.getElem_cons_zero, List.getElem_cons_succ]
                              go_big_quiet_step (fail)
                              refine wpQuiet_nil ?_
                              rfl
                            refine wpAnyV_takeS hTr hGr (A := ?A10p22b) 10 rfl (by kernel_rfl) (by kernel_rfl) (by kernel_rfl) (fun _ _ _ _ h => h) ?q10p22b ?r10p22b
                            case q10p22b =>
                              intro W hW
                              try simp only [List.getElem_toArray, List.getElem_cons_zero, List.getElem_cons_succ]
                              go_big_quiet_step (fail)
                              refine wpQuiet_nil ?_
                              rfl
                            refine wpAnyV_takeS hTr hGr (A := ?A11p22b) 11 rfl (by kernel_rfl) (by kernel_rfl) (by kernel_rfl) (fun _ _ _ _ h => h) ?q11p22b ?r11p22b
                            case q11p22b =>
                              intro W hW
                              try simp only [List.getElem_toArray, List.getElem_cons_zero, List.getElem_cons_succ]
                              go_big_quiet_step (fail)
                              refine wpQuiet_nil ?_
                              rfl
                            refine wpAnyV_takeS hTr hGr (A := ?A12p22b) 12 rfl (by kernel_rfl) (by kernel_rfl) (by kernel_rfl) (fun _ _ _ _ h => h) ?q12p22b ?r12p22b
                            case q12p22b =>
                              intro W hW
                              try simp only [List.getElem_toArray, List.getElem_cons_zero, List.getElem_cons_succ]
                              go_big_quiet_step (fail)
                              refine wpQuiet_nil ?_
                              rfl
                            refine wpAnyV_done (by kernel_rfl) ?_ _
                            intro W hW
                            obtain ⟨X, rfl⟩ := GW.of hW
                            clear hW
                            go_wp2_with fail
                            have hq1 : ∀ m : Nat, m < 4 → PtB X.world w.heap.size (m * 6) (ptk x (m : Int) (if m < j + 1 then nxt g 2 2 r c else g)) := fun m hm => by
                              by_cases hmj : m = j
                              · subst hmj
                                rw [if_pos (by omega)]
                                rw [after_move] at hpt7
                                exact hpt7.below X.grow
                              · have h1 := (HPT2.out m hm).keep hkk4 (by omega)
                                have h2 := h1.same (hb5.block w.heap.size (by omega) h1.lt)
                                have h3 := (h2.keep hk57 (by omega)).below X.grow
                                by_cases hmj2 : m < j
                                · rw [if_pos hmj2] at h3; rw [if_pos (by omega)]; exact h3
                                · rw [if_neg hmj2] at h3; rw [if_neg (by omega)]; exact h3
                            have hq2 : Box X.world b1 #[.int .i64 u0, .int .i64 u1, .int .i64 (wrap64 (u2 - 1)), .int .i64 u3] 44 := Box.gw ((hk57.1.block b1 (by omega) xs5.lt).trans xs5)
                            have hq3 : Hid (∀ i : Nat, i + 1 = j + 1 → doS (ptk x (i : Int) g) 2 2 r c sh al ct = Oj) := fun i hi => by
                              have hij : i = j := by omega
                              rw [hij]
                              exact hOj
                            go_roundw
                            case rel => exact ⟨j + 1, Oj, u0, u1, (wrap64 (u2 - 1)), u3, by omega, by go_num, rfl, fun h => absurd h (by omega), hq3, hq1, hq2, HSN.out, bl_trans hl7 X.grow⟩
                            case measure => first | (simp [intOf]; done) | (simp [intOf]; omega)
                      · have HSN : Hid (x = true → u1 = cntN g 2 3 1 g.h1 (j + 1) ∧ u2 = cntN g 2 3 2 g.h2 (j + 1) ∧ (wrap64 (u3 - 1)) = cntN g 2 3 3 g.h3 (j + 1)) := fun hx1 => by
                          obtain ⟨y1, y2, y3⟩ := HSUM2.out hx1
                          have z1 := cnt_step j hlt3 g 2 3 r c sh al ct 1 g.h1 rfl (by decide) Oj (hx1 ▸ hOj)
                          have v1 := cnt_range g 2 3 1 g.h1 (j + 1) (by omega)
                          have p1 := cnt_range g 2 3 1 g.h1 j (by omega)
                          have z2 := cnt_step j hlt3 g 2 3 r c sh al ct 2 g.h2 rfl (by decide) Oj (hx1 ▸ hOj)
                          have v2 := cnt_range g 2 3 2 g.h2 (j + 1) (by omega)
                          have p2 := cnt_range g 2 3 2 g.h2 j (by omega)
                          have z3 := cnt_step j hlt3 g 2 3 r c sh al ct 3 g.h3 rfl (by decide) Oj (hx1 ▸ hOj)
                          have v3 := cnt_range g 2 3 3 g.h3 (j + 1) (by omega)
                          have p3 := cnt_range g 2 3 3 g.h3 j (by omega)
                          rw [if_neg (fun h => by have := h.2.1; omega), if_neg (fun h => absurd h.2.2 (by decide))] at z1
                          rw [if_neg (fun h => by have := h.2.1; omega), if_neg (fun h => absurd h.2.2 (by decide))] at z2
                          rw [if_neg (fun h => by have := h.2.1; omega), if_pos ⟨hOe, rfl, rfl⟩] at z3
                          refine ⟨?_, ?_, ?_⟩
                          · omega
                          · omega
                          · rw [IntWalk.wrap64_in _ (by omega)]; omega
                        rcases HOO.out with rfl | ⟨hoo, hto⟩
                        · clear HOO
                          as_aux_lemma =>
                            go_wp2_with (first | (go_at_call 14; (with_reducible refine (cV _).mono ?_); rintro e w9 ⟨rfl, hb⟩; obtain ⟨X, rfl⟩ := GW.of hb; clear hb))
                            have hl5' : Below w.heap.size w (X.world.setCell ⟨b1, 3, none⟩ (.int .i64 (wrap64 (u3 - 1)))) := Bar.to_below (bl_trans hl4 X.grow) ((Bar.refl b1 _).set _ _) hws1
                            have hb5' : Bar b1 W4 (X.world.setCell ⟨b1, 3, none⟩ (.int .i64 (wrap64 (u3 - 1)))) := ((Bar.refl b1 W4).below X.grow).set _ _
                            have xs5' : Box (X.world.setCell ⟨b1, 3, none⟩ (.int .i64 (wrap64 (u3 - 1)))) b1 #[.int .i64 u0, .int .i64 u1, .int .i64 u2, .int .i64 (wrap64 (u3 - 1))] 44 := Box.as (Box.set (Box.gw xs4) 3 _) (by simp)
                            have hl5 : Below w.heap.size w ((X.world.setCell ⟨b1, 3, none⟩ (.int .i64 (wrap64 (u3 - 1)))).alloc (.cells #[.int .i64 2, .int .i64 3, .int .i64 r, .int .i64 c, .bool sh, .bool al, .bool ct] 24)) := bl_alloc hl5' _
                            have hb5 : Bar b1 W4 ((X.world.setCell ⟨b1, 3, none⟩ (.int .i64 (wrap64 (u3 - 1)))).alloc (.cells #[.int .i64 2, .int .i64 3, .int .i64 r, .int .i64 c, .bool sh, .bool al, .bool ct] 24)) := hb5'.alloc _
                            have xs5 : Box ((X.world.setCell ⟨b1, 3, none⟩ (.int .i64 (wrap64 (u3 - 1)))).alloc (.cells #[.int .i64 2, .int .i64 3, .int .i64 r, .int .i64 c, .bool sh, .bool al, .bool ct] 24)) b1 #[.int .i64 u0, .int .i64 u1, .int .i64 u2, .int .i64 (wrap64 (u3 - 1))] 44 := xs5'.alloc _
                            have xe5 : Box ((X.world.setCell ⟨b1, 3, none⟩ (.int .i64 (wrap64 (u3 - 1)))).alloc (.cells #[.int .i64 2, .int .i64 3, .int .i64 r, .int .i64 c, .bool sh, .bool al, .bool ct] 24)) (X.world.setCell ⟨b1, 3, none⟩ (.int .i64 (wrap64 (u3 - 1)))).heap.size #[.int .i64 2, .int .i64 3, .int .i64 r, .int .i64 c, .bool sh, .bool al, .bool ct] 24 := Box.new _ _ _ rfl
                            have esz : (X.world.setCell ⟨b1, 3, none⟩ (.int .i64 (wrap64 (u3 - 1)))).heap.size = X.world.heap.size := by simp
                            rw [esz] at xe5
                            have hne5 : X.world.heap.size ≠ w.heap.size := by have := X.grow.size; have := hl4.size; omega
                            generalize ((X.world.setCell ⟨b1, 3, none⟩ (.int .i64 (wrap64 (u3 - 1)))).alloc (.cells #[.int .i64 2, .int .i64 3, .int .i64 r, .int .i64 c, .bool sh, .bool al, .bool ct] 24)) = W5 at *
                            obtain ⟨bx, hbx⟩ : ∃ bx, X.world.heap.size = bx := ⟨_, rfl⟩
                            rw [hbx] at xe5 hne5 ⊢
                            clear hbx hl5' hb5' xs5' esz cs4 ls4 fs4 kc X e0 e1 e2 e3 e4 e5 e6 hbw
                            have hpt5 : PtB W5 w.heap.size (j * 6) (ptk x (j : Int) (nxt g 2 3 r c)) := hpt4.same (hb5.block w.heap.size (by omega) hpt4.lt)
                            have hld5 := hpt5.lt
                            have hdr : Below W5.heap.size W5 W5.drew := (Below.refl _ _).drew
                            obtain ⟨W6, hW6, xe6⟩ : ∃ W6, W5.drew = W6 ∧ Box W6 bx #[.int .i64 2, .int .i64 3, .int .i64 r, .int .i64 c, .bool sh, .bool al, .bool ct] 24 := ⟨W5.drew, rfl, xe5⟩
                            have hdr6 : Below W5.heap.size W5 W6 := hW6 ▸ hdr
                            have hTr : ∀ u1 u2 u3 : World, Bar w.heap.size u1 u2 → Bar w.heap.size u2 u3 → Bar w.heap.size u1 u3 := fun _ _ _ h1 h2 => Bar.trans h1 h2
                            have hGr : ∀ u1 u2 : World, Gr u1 u2 → Bar w.heap.size u1 u2 := fun _ _ h1 => Below.bar _ h1
                            refine wp_region_V (fun u1 u2 => Bar w.heap.size u1 u2) (by kernel_rfl) ?_
                            rw [hW6]
                            clear hW6 hdr
                            refine wpAnyV_takeS hTr hGr (A := ?A0p23a) 0 rfl (by kernel_rfl) (by kernel_rfl) (by kernel_rfl) (fun _ _ _ _ h => h) ?q0p23a ?r0p23a
                            case q0p23a =>
                              intro W hW
                              try simp only [List.getElem_toArray, List.getElem_cons_zero, List.getElem_cons_succ]
                              go_big_quiet_step (fail)
                              refine wpQuiet_nil ?_
                              rfl
                            refine wpAnyV_takeS hTr hGr (A := ?A1p23a) 1 rfl (by kernel_rfl) (by kernel_rfl) (by kernel_rfl) (fun _ _ _ _ h => h) ?q1p23a ?r1p23a
                            case q1p23a =>
                              intro W hW
                              try simp only [List.getElem_toArray, List.getElem_cons_zero, List.getElem_cons_succ]
                              go_big_quiet_step (fail)
                              refine wpQuiet_nil ?_
                              rfl
                            refine wpAnyV_takeS hTr hGr (A := ?A2p23a) 2 rfl (by kernel_rfl) (by kernel_rfl) (by kernel_rfl) (fun _ _ _ _ h => h) ?q2p23a ?r2p23a
                            case q2p23a =>
                              intro W hW
                              try simp only [List.getElem_toArray, List.getElem_cons_zero, List.getElem_cons_succ]
                              go_big_quiet_step (fail)
                              refine wpQuiet_nil ?_
                              rfl
                            refine wpAnyV_takeS hTr hGr (A := ?A3p23a) 3 rfl (by kernel_rfl) (by kernel_rfl) (by kernel_rfl) (fun _ _ _ _ h => h) ?q3p23a ?r3p23a
                            case q3p23a =>
                              intro W hW
                              have hxW : Box W bx _ _ := (hW.block bx hne5 xe6.lt).trans xe6
                              have cxW := hxW.cell
                              have lxW := hxW.lt
                              try simp only [List.getElem_toArray, List.getElem_cons_zero, List.getElem_cons_succ]
                              go_big_quiet_step (fail)
                              refine wpQuiet_nil ?_
                              rfl
                            refine wpAnyV_takeS hTr hGr (A := ?A4p23a) 4 rfl (by kernel_rfl) (by kernel_rfl) (by kernel_rfl) (fun _ _ _ _ h => h) ?q4p23a ?r4p23a
                            case q4p23a =>
                              intro W hW
                              try simp only [List.getElem_toArray, List.getElem_cons_zero, List.getElem_cons_succ]
                              go_big_quiet_step (fail)
                              refine wpQuiet_nil ?_
                              rfl
                            refine wpAnyV_takeS hTr hGr (A := ?A5p23a) 5 rfl (by kernel_rfl) (by kernel_rfl) (by kernel_rfl) (fun _ _ _ _ h => h) ?q5p23a ?r5p23a
                            case q5p23a =>
                              intro W hW
                              have hxW : Box W bx _ _ := (hW.block bx hne5 xe6.lt).trans xe6
                              have cxW := hxW.cell
                              have lxW := hxW.lt
                              try simp only [List.getElem_toArray, List.getElem_cons_zero, List.getElem_cons_succ]
                              go_big_quiet_step (fail)
                              refine wpQuiet_nil ?_
                              rfl
                            refine wpAnyV_takeS hTr hGr (A := ?A6p23a) 6 rfl (by kernel_rfl) (by kernel_rfl) (by kernel_rfl) (fun _ _ _ _ h => h) ?q6p23a ?r6p23a
                            case q6p23a =>
                              intro W hW
                              try simp only [List.getElem_toArray, List.getElem_cons_zero, List.getElem_cons_succ]
                              go_big_quiet_step ((go_at_call 15; with_reducible exact GW.call (move_any _ _ _)))
                              refine wpQuiet_nil ?_
                              rfl
                            refine wpAnyV_one 7 (by kernel_rfl) ?_
                            intro W hW
                            obtain ⟨X, rfl⟩ := GW.of hW
                            refine wpOp_step rfl (fun K hK => ?_)
                            go_simp
                            (with_reducible refine (cM _ (hpt5.below (bl_trans hdr6 X.grow)) (ht.below (bl_trans hl5 (bl_trans hdr6 X.grow)))).mono ?_)
                            rintro e w7 ⟨v7, xs7, rfl, hrd7, hxs7, hpt7, hk7⟩
                            rw [strOf_nil hxs7] at hrd7
                            obtain ⟨pv7, nv7, cv7, hve7⟩ := hrd7.shape
                            subst hve7
                            have hnv7 := hrd7.len
                            simp only [List.length_nil] at hnv7
                            subst hnv7
                            have hk57 : Keep w.heap.size (j * 6) W5 w7 := (Keep.of_below (bl_trans hdr6 X.grow)).trans hk7
                            have hl7 : Below w.heap.size w w7 := Bar.to_below hl5 hk57.1 (Nat.le_refl _)
                            go_simp
                            refine hK _ _ ⟨hk7.1, ?_⟩
                            clear hK K
                            try simp only [Act.put, List.getElem_toArray, List.getElem_cons_zero, List.getElem_cons_succ, List.setIfInBounds_toArray, List.set_cons_zero, List.set_cons_succ]
                            refine wpAnyV_takeS hTr hGr (A := ?A8p23a) 8 rfl (by kernel_rfl) (by kernel_rfl) (by kernel_rfl) (fun _ _ _ _ h => h) ?q8p23a ?r8p23a
                            case q8p23a =>
                              intro W hW
                              try simp only [List.getElem_toArray, List.getElem_cons_zero, List.getElem_cons_succ]
                              go_big_quiet_step (fail)
                              refine wpQuiet_nil ?_
                              rfl
                            refine wpAnyV_takeS hTr hGr (A := ?A9p23a) 9 rfl (by kernel_rfl) (by kernel_rfl) (by kernel_rfl) (fun _ _ _ _ h => h) ?q9p23a ?r9p23a
                            case q9p23a =>
                              intro W hW
                              try simp only [List.getElem_toArray, List.getElem_cons_zero, List.getElem_cons_succ]
                              go_big_quiet_step (fail)
                              refine wpQuiet_nil ?_
                              rfl
                            refine wpAnyV_takeS hTr hGr (A := ?A10p23a) 10 rfl (by kernel_rfl) (by kernel_rfl) (by kernel_rfl) (fun _ _ _ _ h => h) ?q10p23a ?r10p23a
                            case q10p23a =>
                              intro W hW
                              try simp only [List.getElem_toArray, List.getElem_cons_zero, List.getElem_cons_succ]
                              go_big_quiet_step (fail)
                              refine wpQuiet_nil ?_
                              rfl
                            refine wpAnyV_takeS hTr hGr (A := ?A11p23a) 11 rfl (by kernel_rfl) (by kernel_rfl) (by kernel_rfl) (fun _ _ _ _ h => h) ?q11p23a ?r11p23a
                            case q11p23a =>
                              intro W hW
                              try simp only [List.getElem_toArray, List.getElem_cons_zero, List.getElem_cons_succ]
                              go_big_quiet_step (fail)
                              refine wpQuiet_nil ?_
                              rfl
                            refine wpAnyV_takeS hTr hGr (A := ?A12p23a) 12 rfl (by kernel_rfl) (by kernel_rfl) (by kernel_rfl) (fun _ _ _ _ h => h) ?q12p23a ?r12p23a
                            case q12p23a =>
                              intro W hW
                              try simp only [List.getElem_toArray, List.getElem_cons_zero, List.getElem_cons_succ]
                              go_big_quiet_step (fail)
                              refine wpQuiet_nil ?_
                              rfl
                            refine wpAnyV_done (by kernel_rfl) ?_ _
                            intro W hW
                            obtain ⟨X, rfl⟩ := GW.of hW
                            clear hW
                            go_wp2_with fail
                            have hq1 : ∀ m : Nat, m < 4 → PtB X.world w.heap.size (m * 6) (ptk x (m : Int) (if m < j + 1 then nxt g 2 3 r c else g)) := fun m hm => by
                              by_cases hmj : m = j
                              · subst hmj
                                rw [if_pos (by omega)]
                                rw [after_move] at hpt7
                                exact hpt7.below X.grow
                              · have h1 := (HPT2.out m hm).keep hkk4 (by omega)
                                have h2 := h1.same (hb5.block w.heap.size (by omega) h1.lt)
                                have h3 := (h2.keep hk57 (by omega)).below X.grow
                                by_cases hmj2 : m < j
                                · rw [if_pos hmj2] at h3; rw [if_pos (by omega)]; exact h3
                                · rw [if_neg hmj2] at h3; rw [if_neg (by omega)]; exact h3
                            have hq2 : Box X.world b1 #[.int .i64 u0, .int .i64 u1, .int .i64 u2, .int .i64 (wrap64 (u3 - 1))] 44 := Box.gw ((hk57.1.block b1 (by omega) xs5.lt).trans xs5)
                            have hq3 : Hid (∀ i : Nat, i + 1 = j + 1 → doS (ptk x (i : Int) g) 2 3 r c sh al ct = Oj) := fun i hi => by
                              have hij : i = j := by omega
                              rw [hij]
                              exact hOj
                            go_roundw
                            case rel => exact ⟨j + 1, Oj, u0, u1, u2, (wrap64 (u3 - 1)), by omega, by go_num, rfl, fun h => absurd h (by omega), hq3, hq1, hq2, HSN.out, bl_trans hl7 X.grow⟩
                            case measure => first | (simp [intOf]; done) | (simp [intOf]; omega)
                        · subst hoo
                          clear HOO
                          as_aux_lemma =>
                            go_wp2_with (first | (go_at_call 14; (with_reducible refine (cV _).mono ?_); rintro e w9 ⟨rfl, hb⟩; obtain ⟨X, rfl⟩ := GW.of hb; clear hb))
                            have hl5' : Below w.heap.size w (X.world.setCell ⟨b1, 3, none⟩ (.int .i64 (wrap64 (u3 - 1)))) := Bar.to_below (bl_trans hl4 X.grow) ((Bar.refl b1 _).set _ _) hws1
                            have hb5' : Bar b1 W4 (X.world.setCell ⟨b1, 3, none⟩ (.int .i64 (wrap64 (u3 - 1)))) := ((Bar.refl b1 W4).below X.grow).set _ _
                            have xs5' : Box (X.world.setCell ⟨b1, 3, none⟩ (.int .i64 (wrap64 (u3 - 1)))) b1 #[.int .i64 u0, .int .i64 u1, .int .i64 u2, .int .i64 (wrap64 (u3 - 1))] 44 := Box.as (Box.set (Box.gw xs4) 3 _) (by simp)
                            have hl5 : Below w.heap.size w ((X.world.setCell ⟨b1, 3, none⟩ (.int .i64 (wrap64 (u3 - 1)))).alloc (.cells #[.int .i64 2, .int .i64 3, .int .i64 r, .int .i64 c, .bool sh, .bool al, .bool ct] 24)) := bl_alloc hl5' _
                            have hb5 : Bar b1 W4 ((X.world.setCell ⟨b1, 3, none⟩ (.int .i64 (wrap64 (u3 - 1)))).alloc (.cells #[.int .i64 2, .int .i64 3, .int .i64 r, .int .i64 c, .bool sh, .bool al, .bool ct] 24)) := hb5'.alloc _
                            have xs5 : Box ((X.world.setCell ⟨b1, 3, none⟩ (.int .i64 (wrap64 (u3 - 1)))).alloc (.cells #[.int .i64 2, .int .i64 3, .int .i64 r, .int .i64 c, .bool sh, .bool al, .bool ct] 24)) b1 #[.int .i64 u0, .int .i64 u1, .int .i64 u2, .int .i64 (wrap64 (u3 - 1))] 44 := xs5'.alloc _
                            have xe5 : Box ((X.world.setCell ⟨b1, 3, none⟩ (.int .i64 (wrap64 (u3 - 1)))).alloc (.cells #[.int .i64 2, .int .i64 3, .int .i64 r, .int .i64 c, .bool sh, .bool al, .bool ct] 24)) (X.world.setCell ⟨b1, 3, none⟩ (.int .i64 (wrap64 (u3 - 1)))).heap.size #[.int .i64 2, .int .i64 3, .int .i64 r, .int .i64 c, .bool sh, .bool al, .bool ct] 24 := Box.new _ _ _ rfl
                            have esz : (X.world.setCell ⟨b1, 3, none⟩ (.int .i64 (wrap64 (u3 - 1)))).heap.size = X.world.heap.size := by simp
                            rw [esz] at xe5
                            have hne5 : X.world.heap.size ≠ w.heap.size := by have := X.grow.size; have := hl4.size; omega
                            generalize ((X.world.setCell ⟨b1, 3, none⟩ (.int .i64 (wrap64 (u3 - 1)))).alloc (.cells #[.int .i64 2, .int .i64 3, .int .i64 r, .int .i64 c, .bool sh, .bool al, .bool ct] 24)) = W5 at *
                            obtain ⟨bx, hbx⟩ : ∃ bx, X.world.heap.size = bx := ⟨_, rfl⟩
                            rw [hbx] at xe5 hne5 ⊢
                            clear hbx hl5' hb5' xs5' esz cs4 ls4 fs4 kc X e0 e1 e2 e3 e4 e5 e6 hbw
                            have hpt5 : PtB W5 w.heap.size (j * 6) (ptk x (j : Int) (nxt g 2 3 r c)) := hpt4.same (hb5.block w.heap.size (by omega) hpt4.lt)
                            have hld5 := hpt5.lt
                            have hdr : Below W5.heap.size W5 W5.drew := (Below.refl _ _).drew
                            obtain ⟨W6, hW6, xe6⟩ : ∃ W6, W5.drew = W6 ∧ Box W6 bx #[.int .i64 2, .int .i64 3, .int .i64 r, .int .i64 c, .bool sh, .bool al, .bool ct] 24 := ⟨W5.drew, rfl, xe5⟩
                            have hdr6 : Below W5.heap.size W5 W6 := hW6 ▸ hdr
                            have hTr : ∀ u1 u2 u3 : World, Bar w.heap.size u1 u2 → Bar w.heap.size u2 u3 → Bar w.heap.size u1 u3 := fun _ _ _ h1 h2 => Bar.trans h1 h2
                            have hGr : ∀ u1 u2 : World, Gr u1 u2 → Bar w.heap.size u1 u2 := fun _ _ h1 => Below.bar _ h1
                            refine wp_region_V (fun u1 u2 => Bar w.heap.size u1 u2) (by kernel_rfl) ?_
                            rw [hW6]
                            clear hW6 hdr
                            refine wpAnyV_takeS hTr hGr (A := ?A0p23b) 0 rfl (by kernel_rfl) (by kernel_rfl) (by kernel_rfl) (fun _ _ _ _ h => h) ?q0p23b ?r0p23b
                            case q0p23b =>
                              intro W hW
                              try simp only [List.getElem_toArray, List.getElem_cons_zero, List.getElem_cons_succ]
                              go_big_quiet_step (fail)
                              refine wpQuiet_nil ?_
                              rfl
                            refine wpAnyV_takeS hTr hGr (A := ?A1p23b) 1 rfl (by kernel_rfl) (by kernel_rfl) (by kernel_rfl) (fun _ _ _ _ h => h) ?q1p23b ?r1p23b
                            case q1p23b =>
                              intro W hW
                              try simp only [List.getElem_toArray, List.getElem_cons_zero, List.getElem_cons_succ]
                              go_big_quiet_step (fail)
                              refine wpQuiet_nil ?_
                              rfl
                            refine wpAnyV_takeS hTr hGr (A := ?A2p23b) 2 rfl (by kernel_rfl) (by kernel_rfl) (by kernel_rfl) (fun _ _ _ _ h => h) ?q2p23b ?r2p23b
                            case q2p23b =>
                              intro W hW
                              try simp only [List.getElem_toArray, List.getElem_cons_zero, List.getElem_cons_succ]
                              go_big_quiet_step (fail)
                              refine wpQuiet_nil ?_
                              rfl
                            refine wpAnyV_takeS hTr hGr (A := ?A3p23b) 3 rfl (by kernel_rfl) (by kernel_rfl) (by kernel_rfl) (fun _ _ _ _ h => h) ?q3p23b ?r3p23b
                            case q3p23b =>
                              intro W hW
                              have hxW : Box W bx _ _ := (hW.block bx hne5 xe6.lt).trans xe6
                              have cxW := hxW.cell
                              have lxW := hxW.lt
                              try simp only [List.getElem_toArray, List.getElem_cons_zero, List.getElem_cons_succ]
                              go_big_quiet_step (fail)
                              refine wpQuiet_nil ?_
                              rfl
                            refine wpAnyV_takeS hTr hGr (A := ?A4p23b) 4 rfl (by kernel_rfl) (by kernel_rfl) (by kernel_rfl) (fun _ _ _ _ h => h) ?q4p23b ?r4p23b
                            case q4p23b =>
                              intro W hW
                              try simp only [List.getElem_toArray, List.getElem_cons_zero, List.getElem_cons_succ]
                              go_big_quiet_step (fail)
                              refine wpQuiet_nil ?_
                              rfl
                            refine wpAnyV_takeS hTr hGr (A := ?A5p23b) 5 rfl (by kernel_rfl) (by kernel_rfl) (by kernel_rfl) (fun _ _ _ _ h => h) ?q5p23b ?r5p23b
                            case q5p23b =>
                              intro W hW
                              have hxW : Box W bx _ _ := (hW.block bx hne5 xe6.lt).trans xe6
                              have cxW := hxW.cell
                              have lxW := hxW.lt
                              try simp only [List.getElem_toArray, List.getElem_cons_zero, List.getElem_cons_succ]
                              go_big_quiet_step (fail)
                              refine wpQuiet_nil ?_
                              rfl
                            refine wpAnyV_takeS hTr hGr (A := ?A6p23b) 6 rfl (by kernel_rfl) (by kernel_rfl) (by kernel_rfl) (fun _ _ _ _ h => h) ?q6p23b ?r6p23b
                            case q6p23b =>
                              intro W hW
                              try simp only [List.getElem_toArray, List.getElem_cons_zero, List.getElem_cons_succ]
                              go_big_quiet_step ((go_at_call 15; with_reducible exact GW.call (move_any _ _ _)))
                              refine wpQuiet_nil ?_
                              rfl
                            refine wpAnyV_one 7 (by kernel_rfl) ?_
                            intro W hW
                            obtain ⟨X, rfl⟩ := GW.of hW
                            refine wpOp_step rfl (fun K hK => ?_)
                            go_simp
                            (with_reducible refine (cM _ (hpt5.below (bl_trans hdr6 X.grow)) (ht.below (bl_trans hl5 (bl_trans hdr6 X.grow)))).mono ?_)
                            rintro e w7 ⟨v7, xs7, rfl, hrd7, hxs7, hpt7, hk7⟩
                            rw [strOf_nil hxs7] at hrd7
                            obtain ⟨pv7, nv7, cv7, hve7⟩ := hrd7.shape
                            subst hve7
                            have hnv7 := hrd7.len
                            simp only [List.length_nil] at hnv7
                            subst hnv7
                            have hk57 : Keep w.heap.size (j * 6) W5 w7 := (Keep.of_below (bl_trans hdr6 X.grow)).trans hk7
                            have hl7 : Below w.heap.size w w7 := Bar.to_below hl5 hk57.1 (Nat.le_refl _)
                            go_simp
                            refine hK _ _ ⟨hk7.1, ?_⟩
                            clear hK K
                            try simp only [Act.put, List.getElem_toArray, List.getElem_cons_zero, List.getElem_cons_succ, List.setIfInBounds_toArray, List.set_cons_zero, List.set_cons_succ]
                            refine wpAnyV_takeS hTr hGr (A := ?A8p23b) 8 rfl (by kernel_rfl) (by kernel_rfl) (by kernel_rfl) (fun _ _ _ _ h => h) ?q8p23b ?r8p23b
                            case q8p23b =>
                              intro W hW
                              try simp only [List.getElem_toArray, List.getElem_cons_zero, List.getElem_cons_succ]
                              go_big_quiet_step (fail)
                              refine wpQuiet_nil ?_
                              rfl
                            refine wpAnyV_takeS hTr hGr (A := ?A9p23b) 9 rfl (by kernel_rfl) (by kernel_rfl) (by kernel_rfl) (fun _ _ _ _ h => h) ?q9p23b ?r9p23b
                            case q9p23b =>
                              intro W hW
                              try simp only [List.getElem_toArray, List.getElem_cons_zero, List.getElem_cons_succ]
                              go_big_quiet_step (fail)
                              refine wpQuiet_nil ?_
                              rfl
                            refine wpAnyV_takeS hTr hGr (A := ?A10p23b) 10 rfl (by kernel_rfl) (by kernel_rfl) (by kernel_rfl) (fun _ _ _ _ h => h) ?q10p23b ?r10p23b
                            case q10p23b =>
                              intro W hW
                              try simp only [List.getElem_toArray, List.getElem_cons_zero, List.getElem_cons_succ]
                              go_big_quiet_step (fail)
                              refine wpQuiet_nil ?_
                              rfl
                            refine wpAnyV_takeS hTr hGr (A := ?A11p23b) 11 rfl (by kernel_rfl) (by kernel_rfl) (by kernel_rfl) (fun _ _ _ _ h => h) ?q11p23b ?r11p23b
                            case q11p23b =>
                              intro W hW
                              try simp only [List.getElem_toArray, List.getElem_cons_zero, List.getElem_cons_succ]
                              go_big_quiet_step (fail)
                              refine wpQuiet_nil ?_
                              rfl
                            refine wpAnyV_takeS hTr hGr (A := ?A12p23b) 12 rfl (by kernel_rfl) (by kernel_rfl) (by kernel_rfl) (fun _ _ _ _ h => h) ?q12p23b ?r12p23b
                            case q12p23b =>
                              intro W hW
                              try simp only [List.getElem_toArray, List.getElem_cons_zero, List.getElem_cons_succ]
                              go_big_quiet_step (fail)
                              refine wpQuiet_nil ?_
                              rfl
                            refine wpAnyV_done (by kernel_rfl) ?_ _
                            intro W hW
                            obtain ⟨X, rfl⟩ := GW.of hW
                            clear hW
                            go_wp2_with fail
                            have hq1 : ∀ m : Nat, m < 4 → PtB X.world w.heap.size (m * 6) (ptk x (m : Int) (if m < j + 1 then nxt g 2 3 r c else g)) := fun m hm => by
                              by_cases hmj : m = j
                              · subst hmj
                                rw [if_pos (by omega)]
                                rw [after_move] at hpt7
                                exact hpt7.below X.grow
                              · have h1 := (HPT2.out m hm).keep hkk4 (by omega)
                                have h2 := h1.same (hb5.block w.heap.size (by omega) h1.lt)
                                have h3 := (h2.keep hk57 (by omega)).below X.grow
                                by_cases hmj2 : m < j
                                · rw [if_pos hmj2] at h3; rw [if_pos (by omega)]; exact h3
                                · rw [if_neg hmj2] at h3; rw [if_neg (by omega)]; exact h3
                            have hq2 : Box X.world b1 #[.int .i64 u0, .int .i64 u1, .int .i64 u2, .int .i64 (wrap64 (u3 - 1))] 44 := Box.gw ((hk57.1.block b1 (by omega) xs5.lt).trans xs5)
                            have hq3 : Hid (∀ i : Nat, i + 1 = j + 1 → doS (ptk x (i : Int) g) 2 3 r c sh al ct = Oj) := fun i hi => by
                              have hij : i = j := by omega
                              rw [hij]
                              exact hOj
                            go_roundw
                            case rel => exact ⟨j + 1, Oj, u0, u1, u2, (wrap64 (u3 - 1)), by omega, by go_num, rfl, fun h => absurd h (by omega), hq3, hq1, hq2, HSN.out, bl_trans hl7 X.grow⟩
                            case measure => first | (simp [intOf]; done) | (simp [intOf]; omega)
                  · subst hb0
                    have hk1 : ¬ k = 1 := by omega
                    have hk2 : ¬ k = 2 := by omega
                    have hk1' : (k == 1) = false := by simpa using hk1
                    have hk2' : (k == 2) = false := by simpa using hk2
                    have HSN : Hid (x = true → u1 = cntN g k 0 1 g.h1 (j + 1) ∧ u2 = cntN g k 0 2 g.h2 (j + 1) ∧ u3 = cntN g k 0 3 g.h3 (j + 1)) := fun hx1 => by
                      obtain ⟨y1, y2, y3⟩ := HSUM2.out hx1
                      have z1 := cnt_step j hlt3 g k 0 r c sh al ct 1 g.h1 rfl (by decide) Oj (hx1 ▸ hOj)
                      have v1 := cnt_range g k 0 1 g.h1 (j + 1) (by omega)
                      have p1 := cnt_range g k 0 1 g.h1 j (by omega)
                      have z2 := cnt_step j hlt3 g k 0 r c sh al ct 2 g.h2 rfl (by decide) Oj (hx1 ▸ hOj)
                      have v2 := cnt_range g k 0 2 g.h2 (j + 1) (by omega)
                      have p2 := cnt_range g k 0 2 g.h2 j (by omega)
                      have z3 := cnt_step j hlt3 g k 0 r c sh al ct 3 g.h3 rfl (by decide) Oj (hx1 ▸ hOj)
                      have v3 := cnt_range g k 0 3 g.h3 (j + 1) (by omega)
                      have p3 := cnt_range g k 0 3 g.h3 j (by omega)
                      rw [if_neg (fun h => hk1 h.2.1), if_neg (fun h => hk2 h.2.1)] at z1
                      rw [if_neg (fun h => hk1 h.2.1), if_neg (fun h => hk2 h.2.1)] at z2
                      rw [if_neg (fun h => hk1 h.2.1), if_neg (fun h => hk2 h.2.1)] at z3
                      refine ⟨?_, ?_, ?_⟩
                      · omega
                      · omega
                      · omega
                    rcases HOO.out with rfl | ⟨hoo, hto⟩
                    · clear HOO
                      as_aux_lemma =>
                        go_wp2_with (first | (go_at_call 14; (with_reducible refine (cV _).mono ?_); rintro e w9 ⟨rfl, hb⟩; obtain ⟨X, rfl⟩ := GW.of hb; clear hb))
                        have hl5' : Below w.heap.size w X.world := bl_trans hl4 X.grow
                        have hb5' : Bar b1 W4 X.world := (Bar.refl _ _).below X.grow
                        have xs5' : Box X.world b1 #[.int .i64 u0, .int .i64 u1, .int .i64 u2, .int .i64 u3] 44 := xs4.gw
                        have hl5 : Below w.heap.size w (X.world.alloc (.cells #[.int .i64 k, .int .i64 0, .int .i64 r, .int .i64 c, .bool sh, .bool al, .bool ct] 24)) := bl_alloc hl5' _
                        have hb5 : Bar b1 W4 (X.world.alloc (.cells #[.int .i64 k, .int .i64 0, .int .i64 r, .int .i64 c, .bool sh, .bool al, .bool ct] 24)) := hb5'.alloc _
                        have xs5 : Box (X.world.alloc (.cells #[.int .i64 k, .int .i64 0, .int .i64 r, .int .i64 c, .bool sh, .bool al, .bool ct] 24)) b1 #[.int .i64 u0, .int .i64 u1, .int .i64 u2, .int .i64 u3] 44 := xs5'.alloc _
                        have xe5 : Box (X.world.alloc (.cells #[.int .i64 k, .int .i64 0, .int .i64 r, .int .i64 c, .bool sh, .bool al, .bool ct] 24)) X.world.heap.size #[.int .i64 k, .int .i64 0, .int .i64 r, .int .i64 c, .bool sh, .bool al, .bool ct] 24 := Box.new _ _ _ rfl
                        have hne5 : X.world.heap.size ≠ w.heap.size := by have := X.grow.size; have := hl4.size; omega
                        generalize (X.world.alloc (.cells #[.int .i64 k, .int .i64 0, .int .i64 r, .int .i64 c, .bool sh, .bool al, .bool ct] 24)) = W5 at *
                        obtain ⟨bx, hbx⟩ : ∃ bx, X.world.heap.size = bx := ⟨_, rfl⟩
                        rw [hbx] at xe5 hne5 ⊢
                        clear hbx hl5' hb5' xs5'  cs4 ls4 fs4 kc X e0 e1 e2 e3 e4 e5 e6 hbw
                        have hpt5 : PtB W5 w.heap.size (j * 6) (ptk x (j : Int) (nxt g k 0 r c)) := hpt4.same (hb5.block w.heap.size (by omega) hpt4.lt)
                        have hld5 := hpt5.lt
                        have hdr : Below W5.heap.size W5 W5.drew := (Below.refl _ _).drew
                        obtain ⟨W6, hW6, xe6⟩ : ∃ W6, W5.drew = W6 ∧ Box W6 bx #[.int .i64 k, .int .i64 0, .int .i64 r, .int .i64 c, .bool sh, .bool al, .bool ct] 24 := ⟨W5.drew, rfl, xe5⟩
                        have hdr6 : Below W5.heap.size W5 W6 := hW6 ▸ hdr
                        have hTr : ∀ u1 u2 u3 : World, Bar w.heap.size u1 u2 → Bar w.heap.size u2 u3 → Bar w.heap.size u1 u3 := fun _ _ _ h1 h2 => Bar.trans h1 h2
                        have hGr : ∀ u1 u2 : World, Gr u1 u2 → Bar w.heap.size u1 u2 := fun _ _ h1 => Below.bar _ h1
                        refine wp_region_V (fun u1 u2 => Bar w.heap.size u1 u2) (by kernel_rfl) ?_
                        rw [hW6]
                        clear hW6 hdr
                        refine wpAnyV_takeS hTr hGr (A := ?A0qa) 0 rfl (by kernel_rfl) (by kernel_rfl) (by kernel_rfl) (fun _ _ _ _ h => h) ?q0qa ?r0qa
                        case q0qa =>
                          intro W hW
                          try simp only [List.getElem_toArray, List.getElem_cons_zero, List.getElem_cons_succ]
                          go_big_quiet_step (fail)
                          refine wpQuiet_nil ?_
                          rfl
                        refine wpAnyV_takeS hTr hGr (A := ?A1qa) 1 rfl (by kernel_rfl) (by kernel_rfl) (by kernel_rfl) (fun _ _ _ _ h => h) ?q1qa ?r1qa
                        case q1qa =>
                          intro W hW
                          try simp only [List.getElem_toArray, List.getElem_cons_zero, List.getElem_cons_succ]
                          go_big_quiet_step (fail)
                          refine wpQuiet_nil ?_
                          rfl
                        refine wpAnyV_takeS hTr hGr (A := ?A2qa) 2 rfl (by kernel_rfl) (by kernel_rfl) (by kernel_rfl) (fun _ _ _ _ h => h) ?q2qa ?r2qa
                        case q2qa =>
                          intro W hW
                          try simp only [List.getElem_toArray, List.getElem_cons_zero, List.getElem_cons_succ]
                          go_big_quiet_step (fail)
                          refine wpQuiet_nil ?_
                          rfl
                        refine wpAnyV_takeS hTr hGr (A := ?A3qa) 3 rfl (by kernel_rfl) (by kernel_rfl) (by kernel_rfl) (fun _ _ _ _ h => h) ?q3qa ?r3qa
                        case q3qa =>
                          intro W hW
                          have hxW : Box W bx _ _ := (hW.block bx hne5 xe6.lt).trans xe6
                          have cxW := hxW.cell
                          have lxW := hxW.lt
                          try simp only [List.getElem_toArray, List.getElem_cons_zero, List.getElem_cons_succ]
                          go_big_quiet_step (fail)
                          refine wpQuiet_nil ?_
                          rfl
                        refine wpAnyV_takeS hTr hGr (A := ?A4qa) 4 rfl (by kernel_rfl) (by kernel_rfl) (by kernel_rfl) (fun _ _ _ _ h => h) ?q4qa ?r4qa
                        case q4qa =>
                          intro W hW
                          try simp only [List.getElem_toArray, List.getElem_cons_zero, List.getElem_cons_succ]
                          go_big_quiet_step (fail)
                          refine wpQuiet_nil ?_
                          rfl
                        refine wpAnyV_takeS hTr hGr (A := ?A5qa) 5 rfl (by kernel_rfl) (by kernel_rfl) (by kernel_rfl) (fun _ _ _ _ h => h) ?q5qa ?r5qa
                        case q5qa =>
                          intro W hW
                          have hxW : Box W bx _ _ := (hW.block bx hne5 xe6.lt).trans xe6
                          have cxW := hxW.cell
                          have lxW := hxW.lt
                          try simp only [List.getElem_toArray, List.getElem_cons_zero, List.getElem_cons_succ]
                          go_big_quiet_step (fail)
                          refine wpQuiet_nil ?_
                          rfl
                        refine wpAnyV_takeS hTr hGr (A := ?A6qa) 6 rfl (by kernel_rfl) (by kernel_rfl) (by kernel_rfl) (fun _ _ _ _ h => h) ?q6qa ?r6qa
                        case q6qa =>
                          intro W hW
                          try simp only [List.getElem_toArray, List.getElem_cons_zero, List.getElem_cons_succ]
                          go_big_quiet_step ((go_at_call 15; with_reducible exact GW.call (move_any _ _ _)))
                          refine wpQuiet_nil ?_
                          rfl
                        refine wpAnyV_one 7 (by kernel_rfl) ?_
                        intro W hW
                        obtain ⟨X, rfl⟩ := GW.of hW
                        refine wpOp_step rfl (fun K hK => ?_)
                        go_simp
                        (with_reducible refine (cM _ (hpt5.below (bl_trans hdr6 X.grow)) (ht.below (bl_trans hl5 (bl_trans hdr6 X.grow)))).mono ?_)
                        rintro e w7 ⟨v7, xs7, rfl, hrd7, hxs7, hpt7, hk7⟩
                        rw [strOf_nil hxs7] at hrd7
                        obtain ⟨pv7, nv7, cv7, hve7⟩ := hrd7.shape
                        subst hve7
                        have hnv7 := hrd7.len
                        simp only [List.length_nil] at hnv7
                        subst hnv7
                        have hk57 : Keep w.heap.size (j * 6) W5 w7 := (Keep.of_below (bl_trans hdr6 X.grow)).trans hk7
                        have hl7 : Below w.heap.size w w7 := Bar.to_below hl5 hk57.1 (Nat.le_refl _)
                        go_simp
                        refine hK _ _ ⟨hk7.1, ?_⟩
                        clear hK K
                        try simp only [Act.put, List.getElem_toArray, List.getElem_cons_zero, List.getElem_cons_succ, List.setIfInBounds_toArray, List.set_cons_zero, List.set_cons_succ]
                        refine wpAnyV_takeS hTr hGr (A := ?A8qa) 8 rfl (by kernel_rfl) (by kernel_rfl) (by kernel_rfl) (fun _ _ _ _ h => h) ?q8qa ?r8qa
                        case q8qa =>
                          intro W hW
                          try simp only [List.getElem_toArray, List.getElem_cons_zero, List.getElem_cons_succ]
                          go_big_quiet_step (fail)
                          refine wpQuiet_nil ?_
                          rfl
                        refine wpAnyV_takeS hTr hGr (A := ?A9qa) 9 rfl (by kernel_rfl) (by kernel_rfl) (by kernel_rfl) (fun _ _ _ _ h => h) ?q9qa ?r9qa
                        case q9qa =>
                          intro W hW
                          try simp only [List.getElem_toArray, List.getElem_cons_zero, List.getElem_cons_succ]
                          go_big_quiet_step (fail)
                          refine wpQuiet_nil ?_
                          rfl
                        refine wpAnyV_takeS hTr hGr (A := ?A10qa) 10 rfl (by kernel_rfl) (by kernel_rfl) (by kernel_rfl) (fun _ _ _ _ h => h) ?q10qa ?r10qa
                        case q10qa =>
                          intro W hW
                          try simp only [List.getElem_toArray, List.getElem_cons_zero, List.getElem_cons_succ]
                          go_big_quiet_step (fail)
                          refine wpQuiet_nil ?_
                          rfl
                        refine wpAnyV_takeS hTr hGr (A := ?A11qa) 11 rfl (by kernel_rfl) (by kernel_rfl) (by kernel_rfl) (fun _ _ _ _ h => h) ?q11qa ?r11qa
                        case q11qa =>
                          intro W hW
                          try simp only [List.getElem_toArray, List.getElem_cons_zero, List.getElem_cons_succ]
                          go_big_quiet_step (fail)
                          refine wpQuiet_nil ?_
                          rfl
                        refine wpAnyV_takeS hTr hGr (A := ?A12qa) 12 rfl (by kernel_rfl) (by kernel_rfl) (by kernel_rfl) (fun _ _ _ _ h => h) ?q12qa ?r12qa
                        case q12qa =>
                          intro W hW
                          try simp only [List.getElem_toArray, List.getElem_cons_zero, List.getElem_cons_succ]
                          go_big_quiet_step (fail)
                          refine wpQuiet_nil ?_
                          rfl
                        refine wpAnyV_done (by kernel_rfl) ?_ _
                        intro W hW
                        obtain ⟨X, rfl⟩ := GW.of hW
                        clear hW
                        go_wp2_with fail
                        have hq1 : ∀ m : Nat, m < 4 → PtB X.world w.heap.size (m * 6) (ptk x (m : Int) (if m < j + 1 then nxt g k 0 r c else g)) := fun m hm => by
                          by_cases hmj : m = j
                          · subst hmj
                            rw [if_pos (by omega)]
                            rw [after_move] at hpt7
                            exact hpt7.below X.grow
                          · have h1 := (HPT2.out m hm).keep hkk4 (by omega)
                            have h2 := h1.same (hb5.block w.heap.size (by omega) h1.lt)
                            have h3 := (h2.keep hk57 (by omega)).below X.grow
                            by_cases hmj2 : m < j
                            · rw [if_pos hmj2] at h3; rw [if_pos (by omega)]; exact h3
                            · rw [if_neg hmj2] at h3; rw [if_neg (by omega)]; exact h3
                        have hq2 : Box X.world b1 #[.int .i64 u0, .int .i64 u1, .int .i64 u2, .int .i64 u3] 44 := Box.gw ((hk57.1.block b1 (by omega) xs5.lt).trans xs5)
                        have hq3 : Hid (∀ i : Nat, i + 1 = j + 1 → doS (ptk x (i : Int) g) k 0 r c sh al ct = Oj) := fun i hi => by
                          have hij : i = j := by omega
                          rw [hij]
                          exact hOj
                        go_roundw
                        case rel => exact ⟨j + 1, Oj, u0, u1, u2, u3, by omega, by go_num, rfl, fun h => absurd h (by omega), hq3, hq1, hq2, HSN.out, bl_trans hl7 X.grow⟩
                        case measure => first | (simp [intOf]; done) | (simp [intOf]; omega)
                    · subst hoo
                      clear HOO
                      as_aux_lemma =>
                        go_wp2_with (first | (go_at_call 14; (with_reducible refine (cV _).mono ?_); rintro e w9 ⟨rfl, hb⟩; obtain ⟨X, rfl⟩ := GW.of hb; clear hb))
                        have hl5' : Below w.heap.size w X.world := bl_trans hl4 X.grow
                        have hb5' : Bar b1 W4 X.world := (Bar.refl _ _).below X.grow
                        have xs5' : Box X.world b1 #[.int .i64 u0, .int .i64 u1, .int .i64 u2, .int .i64 u3] 44 := xs4.gw
                        have hl5 : Below w.heap.size w (X.world.alloc (.cells #[.int .i64 k, .int .i64 0, .int .i64 r, .int .i64 c, .bool sh, .bool al, .bool ct] 24)) := bl_alloc hl5' _
                        have hb5 : Bar b1 W4 (X.world.alloc (.cells #[.int .i64 k, .int .i64 0, .int .i64 r, .int .i64 c, .bool sh, .bool al, .bool ct] 24)) := hb5'.alloc _
                        have xs5 : Box (X.world.alloc (.cells #[.int .i64 k, .int .i64 0, .int .i64 r, .int .i64 c, .bool sh, .bool al, .bool ct] 24)) b1 #[.int .i64 u0, .int .i64 u1, .int .i64 u2, .int .i64 u3] 44 := xs5'.alloc _
                        have xe5 : Box (X.world.alloc (.cells #[.int .i64 k, .int .i64 0, .int .i64 r, .int .i64 c, .bool sh, .bool al, .bool ct] 24)) X.world.heap.size #[.int .i64 k, .int .i64 0, .int .i64 r, .int .i64 c, .bool sh, .bool al, .bool ct] 24 := Box.new _ _ _ rfl
                        have hne5 : X.world.heap.size ≠ w.heap.size := by have := X.grow.size; have := hl4.size; omega
                        generalize (X.world.alloc (.cells #[.int .i64 k, .int .i64 0, .int .i64 r, .int .i64 c, .bool sh, .bool al, .bool ct] 24)) = W5 at *
                        obtain ⟨bx, hbx⟩ : ∃ bx, X.world.heap.size = bx := ⟨_, rfl⟩
                        rw [hbx] at xe5 hne5 ⊢
                        clear hbx hl5' hb5' xs5'  cs4 ls4 fs4 kc X e0 e1 e2 e3 e4 e5 e6 hbw
                        have hpt5 : PtB W5 w.heap.size (j * 6) (ptk x (j : Int) (nxt g k 0 r c)) := hpt4.same (hb5.block w.heap.size (by omega) hpt4.lt)
                        have hld5 := hpt5.lt
                        have hdr : Below W5.heap.size W5 W5.drew := (Below.refl _ _).drew
                        obtain ⟨W6, hW6, xe6⟩ : ∃ W6, W5.drew = W6 ∧ Box W6 bx #[.int .i64 k, .int .i64 0, .int .i64 r, .int .i64 c, .bool sh, .bool al, .bool ct] 24 := ⟨W5.drew, rfl, xe5⟩
                        have hdr6 : Below W5.heap.size W5 W6 := hW6 ▸ hdr
                        have hTr : ∀ u1 u2 u3 : World, Bar w.heap.size u1 u2 → Bar w.heap.size u2 u3 → Bar w.heap.size u1 u3 := fun _ _ _ h1 h2 => Bar.trans h1 h2
                        have hGr : ∀ u1 u2 : World, Gr u1 u2 → Bar w.heap.size u1 u2 := fun _ _ h1 => Below.bar _ h1
                        refine wp_region_V (fun u1 u2 => Bar w.heap.size u1 u2) (by kernel_rfl) ?_
                        rw [hW6]
                        clear hW6 hdr
                        refine wpAnyV_takeS hTr hGr (A := ?A0qb) 0 rfl (by kernel_rfl) (by kernel_rfl) (by kernel_rfl) (fun _ _ _ _ h => h) ?q0qb ?r0qb
                        case q0qb =>
                          intro W hW
                          try simp only [List.getElem_toArray, List.getElem_cons_zero, List.getElem_cons_succ]
                          go_big_quiet_step (fail)
                          refine wpQuiet_nil ?_
                          rfl
                        refine wpAnyV_takeS hTr hGr (A := ?A1qb) 1 rfl (by kernel_rfl) (by kernel_rfl) (by kernel_rfl) (fun _ _ _ _ h => h) ?q1qb ?r1qb
                        case q1qb =>
                          intro W hW
                          try simp only [List.getElem_toArray, List.getElem_cons_zero, List.getElem_cons_succ]
                          go_big_quiet_step (fail)
                          refine wpQuiet_nil ?_
                          rfl
                        refine wpAnyV_takeS hTr hGr (A := ?A2qb) 2 rfl (by kernel_rfl) (by kernel_rfl) (by kernel_rfl) (fun _ _ _ _ h => h) ?q2qb ?r2qb
                        case q2qb =>
                          intro W hW
                          try simp only [List.getElem_toArray, List.getElem_cons_zero, List.getElem_cons_succ]
                          go_big_quiet_step (fail)
                          refine wpQuiet_nil ?_
                          rfl
                        refine wpAnyV_takeS hTr hGr (A := ?A3qb) 3 rfl (by kernel_rfl) (by kernel_rfl) (by kernel_rfl) (fun _ _ _ _ h => h) ?q3qb ?r3qb
                        case q3qb =>
                          intro W hW
                          have hxW : Box W bx _ _ := (hW.block bx hne5 xe6.lt).trans xe6
                          have cxW := hxW.cell
                          have lxW := hxW.lt
                          try simp only [List.getElem_toArray, List.getElem_cons_zero, List.getElem_cons_succ]
                          go_big_quiet_step (fail)
                          refine wpQuiet_nil ?_
                          rfl
                        refine wpAnyV_takeS hTr hGr (A := ?A4qb) 4 rfl (by kernel_rfl) (by kernel_rfl) (by kernel_rfl) (fun _ _ _ _ h => h) ?q4qb ?r4qb
                        case q4qb =>
                          intro W hW
                          try simp only [List.getElem_toArray, List.getElem_cons_zero, List.getElem_cons_succ]
                          go_big_quiet_step (fail)
                          refine wpQuiet_nil ?_
                          rfl
                        refine wpAnyV_takeS hTr hGr (A := ?A5qb) 5 rfl (by kernel_rfl) (by kernel_rfl) (by kernel_rfl) (fun _ _ _ _ h => h) ?q5qb ?r5qb
                        case q5qb =>
                          intro W hW
                          have hxW : Box W bx _ _ := (hW.block bx hne5 xe6.lt).trans xe6
                          have cxW := hxW.cell
                          have lxW := hxW.lt
                          try simp only [List.getElem_toArray, List.getElem_cons_zero, List.getElem_cons_succ]
                          go_big_quiet_step (fail)
                          refine wpQuiet_nil ?_
                          rfl
                        refine wpAnyV_takeS hTr hGr (A := ?A6qb) 6 rfl (by kernel_rfl) (by kernel_rfl) (by kernel_rfl) (fun _ _ _ _ h => h) ?q6qb ?r6qb
                        case q6qb =>
                          intro W hW
                          try simp only [List.getElem_toArray, List.getElem_cons_zero, List.getElem_cons_succ]
                          go_big_quiet_step ((go_at_call 15; with_reducible exact GW.call (move_any _ _ _)))
                          refine wpQuiet_nil ?_
                          rfl
                        refine wpAnyV_one 7 (by kernel_rfl) ?_
                        intro W hW
                        obtain ⟨X, rfl⟩ := GW.of hW
                        refine wpOp_step rfl (fun K hK => ?_)
                        go_simp
                        (with_reducible refine (cM _ (hpt5.below (bl_trans hdr6 X.grow)) (ht.below (bl_trans hl5 (bl_trans hdr6 X.grow)))).mono ?_)
                        rintro e w7 ⟨v7, xs7, rfl, hrd7, hxs7, hpt7, hk7⟩
                        rw [strOf_nil hxs7] at hrd7
                        obtain ⟨pv7, nv7, cv7, hve7⟩ := hrd7.shape
                        subst hve7
                        have hnv7 := hrd7.len
                        simp only [List.length_nil] at hnv7
                        subst hnv7
                        have hk57 : Keep w.heap.size (j * 6) W5 w7 := (Keep.of_below (bl_trans hdr6 X.grow)).trans hk7
                        have hl7 : Below w.heap.size w w7 := Bar.to_below hl5 hk57.1 (Nat.le_refl _)
                        go_simp
                        refine hK _ _ ⟨hk7.1, ?_⟩
                        clear hK K
                        try simp only [Act.put, List.getElem_toArray, List.getElem_cons_zero, List.getElem_cons_succ, List.setIfInBounds_toArray, List.set_cons_zero, List.set_cons_succ]
                        refine wpAnyV_takeS hTr hGr (A := ?A8qb) 8 rfl (by kernel_rfl) (by kernel_rfl) (by kernel_rfl) (fun _ _ _ _ h => h) ?q8qb ?r8qb
                        case q8qb =>
                          intro W hW
                          try simp only [List.getElem_toArray, List.getElem_cons_zero, List.getElem_cons_succ]
                          go_big_quiet_step (fail)
                          refine wpQuiet_nil ?_
                          rfl
                        refine wpAnyV_takeS hTr hGr (A := ?A9qb) 9 rfl (by kernel_rfl) (by kernel_rfl) (by kernel_rfl) (fun _ _ _ _ h => h) ?q9qb ?r9qb
                        case q9qb =>
                          intro W hW
                          try simp only [List.getElem_toArray, List.getElem_cons_zero, List.getElem_cons_succ]
                          go_big_quiet_step (fail)
                          refine wpQuiet_nil ?_
                          rfl
                        refine wpAnyV_takeS hTr hGr (A := ?A10qb) 10 rfl (by kernel_rfl) (by kernel_rfl) (by kernel_rfl) (fun _ _ _ _ h => h) ?q10qb ?r10qb
                        case q10qb =>
                          intro W hW
                          try simp only [List.getElem_toArray, List.getElem_cons_zero, List.getElem_cons_succ]
                          go_big_quiet_step (fail)
                          refine wpQuiet_nil ?_
                          rfl
                        refine wpAnyV_takeS hTr hGr (A := ?A11qb) 11 rfl (by kernel_rfl) (by kernel_rfl) (by kernel_rfl) (fun _ _ _ _ h => h) ?q11qb ?r11qb
                        case q11qb =>
                          intro W hW
                          try simp only [List.getElem_toArray, List.getElem_cons_zero, List.getElem_cons_succ]
                          go_big_quiet_step (fail)
                          refine wpQuiet_nil ?_
                          rfl
                        refine wpAnyV_takeS hTr hGr (A := ?A12qb) 12 rfl (by kernel_rfl) (by kernel_rfl) (by kernel_rfl) (fun _ _ _ _ h => h) ?q12qb ?r12qb
                        case q12qb =>
                          intro W hW
                          try simp only [List.getElem_toArray, List.getElem_cons_zero, List.getElem_cons_succ]
                          go_big_quiet_step (fail)
                          refine wpQuiet_nil ?_
                          rfl
                        refine wpAnyV_done (by kernel_rfl) ?_ _
                        intro W hW
                        obtain ⟨X, rfl⟩ := GW.of hW
                        clear hW
                        go_wp2_with fail
                        have hq1 : ∀ m : Nat, m < 4 → PtB X.world w.heap.size (m * 6) (ptk x (m : Int) (if m < j + 1 then nxt g k 0 r c else g)) := fun m hm => by
                          by_cases hmj : m = j
                          · subst hmj
                            rw [if_pos (by omega)]
                            rw [after_move] at hpt7
                            exact hpt7.below X.grow
                          · have h1 := (HPT2.out m hm).keep hkk4 (by omega)
                            have h2 := h1.same (hb5.block w.heap.size (by omega) h1.lt)
                            have h3 := (h2.keep hk57 (by omega)).below X.grow
                            by_cases hmj2 : m < j
                            · rw [if_pos hmj2] at h3; rw [if_pos (by omega)]; exact h3
                            · rw [if_neg hmj2] at h3; rw [if_neg (by omega)]; exact h3
                        have hq2 : Box X.world b1 #[.int .i64 u0, .int .i64 u1, .int .i64 u2, .int .i64 u3] 44 := Box.gw ((hk57.1.block b1 (by omega) xs5.lt).trans xs5)
                        have hq3 : Hid (∀ i : Nat, i + 1 = j + 1 → doS (ptk x (i : Int) g) k 0 r c sh al ct = Oj) := fun i hi => by
                          have hij : i = j := by omega
                          rw [hij]
                          exact hOj
                        go_roundw
                        case rel => exact ⟨j + 1, Oj, u0, u1, u2, u3, by omega, by go_num, rfl, fun h => absurd h (by omega), hq3, hq1, hq2, HSN.out, bl_trans hl7 X.grow⟩
                        case measure => first | (simp [intOf]; done) | (simp [intOf]; omega)
              · obtain rfl : j = 4 := by omega
                obtain ⟨wF, hwF⟩ : ∃ wF : World, wF = wr := ⟨_, rfl⟩
                subst hwF
                have hxsF := hus
                have hsumF : x = true → u1 = (if (nxt g k b r c).h1 then 3 else 0) ∧ u2 = (if (nxt g k b r c).h2 then 3 else 0) ∧ u3 = (if (nxt g k b r c).h3 then 3 else 0) := fun hx => by
                  have := HSUM2.out hx
                  rw [cnt_four, cnt_four, cnt_four] at this
                  exact this
                have hptF : ∀ m : Nat, m < 4 → PtB wF w.heap.size (m * 6) (ptk x m (nxt g k b r c)) := fun m hm => by
                  have := HPT2.out m hm
                  rwa [if_pos hm] at this
                have hblF := hlw
                clear HSUM2 HPT2 HSUM HPT HOP hO0
                have hcF := hxsF.cell
                have hlF := hxsF.lt
                have HSF := Lib.hid hsumF
                have HPF := Lib.hid hptF
                clear hsumF hptF
                go_wp2_with fail
                go_loopw [16] (fun i wr => ∃ u : Nat, 1 ≤ u ∧ u ≤ 4 ∧ i = .int .i64 u ∧ Below wF.heap.size wF wr) (fun i _ => 4 - (intOf i).toNat)
                case atStart => exact ⟨1, by omega, by omega, rfl, Below.refl _ _⟩
                case round =>
                  obtain ⟨u, hu1, hu4, rfl, hbel4⟩ := hrel
                  by_cases hlt4 : u < 4
                  · have xs4 : Box wr b1 _ _ := (hbel4.block _ hlF).trans hxsF
                    have c4 := xs4.cell
                    have l4 := xs4.lt
                    clear hcF
                    cases x
                    · have q3 : (u : Int) ≤ 3 := by omega
                      go_wp2_with fail
                      go_roundw
                      case rel => exact ⟨u + 1, by omega, by omega, by go_num, hbel4⟩
                      case measure => simp [intOf]; omega
                    · obtain ⟨g1, g2, g3⟩ := HSF.out rfl
                      have n1 : ¬ u1 < 0 := by rw [g1]; split <;> omega
                      have n2 : ¬ u2 < 0 := by rw [g2]; split <;> omega
                      have n3 : ¬ u3 < 0 := by rw [g3]; split <;> omega
                      clear g1 g2 g3
                      have hu : u = 1 ∨ u = 2 ∨ u = 3 := by omega
                      rcases hu with rfl | rfl | rfl
                      · go_wp2_with fail
                        go_roundw
                        case rel => exact ⟨2, by omega, by omega, by go_num, hbel4⟩
                        case measure => simp [intOf]
                      · go_wp2_with fail
                        go_roundw
                        case rel => exact ⟨3, by omega, by omega, by go_num, hbel4⟩
                        case measure => simp [intOf]
                      · go_wp2_with fail
                        go_roundw
                        case rel => exact ⟨4, by omega, by omega, by go_num, hbel4⟩
                        case measure => simp [intOf]
                  · have q3 : ¬ (u : Int) ≤ 3 := by omega
                    have hz : n + 1 ≤ len := by omega
                    go_wp2_with fail
                    go_roundw
                    case rel => exact ⟨n + 1, (nxt g k b r c), u0, u1, u2, u3, hz, by go_num, fun m hm => (HPF.out m hm).below hbel4, (hbel4.block _ hlF).trans hxsF, HSF.out, bl_trans hblF hbel4⟩
                    case measure => simp [intOf]; omega
        · have HSUM := Lib.hid hsum
          clear hsum hpt
          go_wp2_with (first | (go_at_call 12; (with_reducible refine (known_any _ (ht.below hbel)).mono ?_); rintro e w1 ⟨rfl, hb⟩))
          go_ret
          exact ⟨rfl, bl_trans hbel hb⟩

end Go.Proofs.YtfhigmogcpocpaaDoor
