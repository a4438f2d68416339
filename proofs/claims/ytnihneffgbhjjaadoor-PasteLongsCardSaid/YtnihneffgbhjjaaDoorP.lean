/- paste: cleaning, as plain functions on lists of integers; how a string of valid runes is read back. -/
import Derived.Test.YtnihneffgbhjjaaDoorUPlain
import Derived.Lib.DecodeN
import Derived.Lib.RuneBytes
import Derived.Laws.Cover4
import Derived.Lib.Builder
set_option linter.unusedSimpArgs false
set_option linter.unusedVariables false
set_option linter.unnecessarySimpa false
namespace Go.Proofs.YtnihneffgbhjjaaDoor
open Go.RowKit

/-- Is the rune left out? -/
def outR (r : Int) : Bool := decide ((r < 32 ∧ r ≠ 9 ∧ r ≠ 10 ∧ r ≠ 13) ∨ (127 ≤ r ∧ r ≤ 159))
def clnS (p r : Int) : List Int := if r = 10 then (if p = 13 then [] else [13]) else if outR r = true then [] else [r]
/-- The cleaned runes, behind a rune. -/
def clnR : Int → List Int → List Int
  | _, [] => []
  | p, r :: rs => clnS p r ++ clnR r rs
def leftR : List Int → Nat
  | [] => 0
  | r :: rs => (if outR r = true then 1 else 0) + leftR rs
def lastR : Int → List Int → Int
  | p, [] => p
  | _, r :: rs => lastR r rs
theorem lastR_snoc (p : Int) (rs : List Int) (r : Int) : lastR p (rs ++ [r]) = r := by
  induction rs generalizing p with
  | nil => rfl
  | cons a rs ih => exact ih a
theorem clnR_snoc (p : Int) (rs : List Int) (r : Int) : clnR p (rs ++ [r]) = clnR p rs ++ clnS (lastR p rs) r := by
  induction rs generalizing p with
  | nil => simp [clnR, lastR]
  | cons a rs ih => simp [clnR, lastR, ih]
theorem leftR_snoc (rs : List Int) (r : Int) : leftR (rs ++ [r]) = leftR rs + (if outR r = true then 1 else 0) := by
  induction rs with
  | nil => simp [leftR]
  | cons a rs ih => simp [leftR, ih]; omega
theorem leftR_le (rs : List Int) : leftR rs ≤ rs.length := by
  induction rs with
  | nil => simp [leftR]
  | cons a rs ih => simp only [leftR, List.length_cons]; split <;> omega
theorem clnS_le (p r : Int) : (clnS p r).length ≤ 1 := by
  unfold clnS; repeat' split
  all_goals simp
theorem clnR_le (p : Int) (rs : List Int) : (clnR p rs).length ≤ rs.length := by
  induction rs generalizing p with
  | nil => simp [clnR]
  | cons a rs ih => have := clnS_le p a; have := ih a; simp only [clnR, List.length_append, List.length_cons]; omega
theorem clnS_valid (p r : Int) (h : validR r = true) : ∀ x ∈ clnS p r, validR x = true := by
  unfold clnS; repeat' split
  all_goals simp_all
  decide
theorem clnR_valid (p : Int) (rs : List Int) (h : ∀ r ∈ rs, validR r = true) : ∀ x ∈ clnR p rs, validR x = true := by
  induction rs generalizing p with
  | nil => simp [clnR]
  | cons a rs ih =>
    intro x hx
    simp only [clnR, List.mem_append] at hx
    rcases hx with hx | hx
    · exact clnS_valid p a (h a (by simp)) x hx
    · exact ih a (fun r hr => h r (by simp [hr])) x hx

/-! The bytes of runes. -/
theorem encZ_enc1 (r : Int) : Lib.encodeRuneZ r = enc1 r := by
  unfold enc1 validR
  by_cases h : (0 ≤ r ∧ r < 55296) ∨ (57343 < r ∧ r ≤ 1114111)
  · rw [decide_eq_true h, if_pos rfl]
    unfold enc0
    split
    · exact Lib.encodeRuneZ_one (by omega) (by omega)
    · split
      · exact Lib.encodeRuneZ_two (by omega) (by omega)
      · split
        · exact Lib.encodeRuneZ_three (by omega)
        · exact Lib.encodeRuneZ_four (by omega) (by omega)
  · rw [decide_eq_false h, if_neg (by decide), Lib.encodeRuneZ_bad (by omega)]
    rfl
theorem runeCells_enc1 (r : Int) : Lib.runeCells r = (enc1 r).map (Value.int .u8) := by unfold Lib.runeCells; rw [encZ_enc1]
theorem encL_snoc (l : List Int) (r : Int) : encL (l ++ [r]) = encL l ++ enc1 r := by unfold encL; simp
theorem enc1_byte (r : Int) : ∀ x ∈ enc1 r, Byte x := by
  rw [← encZ_enc1]
  exact Lib.encodeRuneZ_byte r
theorem encL_byte (l : List Int) : ∀ x ∈ encL l, Byte x := by
  intro x hx
  unfold encL at hx
  obtain ⟨r, _, hr⟩ := List.mem_flatMap.1 hx
  exact enc1_byte r x hr
theorem enc1_length (r : Int) : 1 ≤ (enc1 r).length ∧ (enc1 r).length ≤ 4 := by
  rw [← encZ_enc1]; exact Lib.encodeRuneZ_length r
theorem encL_length (l : List Int) : l.length ≤ (encL l).length ∧ (encL l).length ≤ 4 * l.length := by
  induction l with
  | nil => simp [encL]
  | cons a l ih =>
    have := enc1_length a
    have e : encL (a :: l) = enc1 a ++ encL l := rfl
    rw [e, List.length_append, List.length_cons]; omega
theorem cells_bytes (xs : List Int) (h : ∀ x ∈ xs, Byte x) : xs.map (Value.int .u8) = Lib.byteCells (xs.map fun n => UInt8.ofNat n.toNat) := by
  unfold Lib.byteCells
  rw [List.map_map]
  refine List.map_congr_left fun x hx => ?_
  have := h x hx
  unfold Byte at this
  simp only [Function.comp, UInt8.toNat_ofNat']
  congr 1
  omega
theorem strOf_append (xs ys : List Int) : strOfNums (xs ++ ys) = strOfNums xs ++ strOfNums ys := by
  unfold strOfNums
  apply ByteArray.ext
  simp
theorem strOf_size (xs : List Int) : (strOfNums xs).size = xs.length := by unfold strOfNums; simp [ByteArray.size]
theorem utf8_enc1 (r : Int) : Utf8.encode r = strOfNums (enc1 r) := by
  unfold enc1 validR
  by_cases h : (0 ≤ r ∧ r < 55296) ∨ (57343 < r ∧ r ≤ 1114111)
  · have hv : Utf8.valid r = true := by rw [validRune_eq]; exact decide_eq_true h
    rw [decide_eq_true h, if_pos rfl]
    unfold enc0 Utf8.encode
    simp only [hv, if_true]
    by_cases c1 : r < 128
    · rw [if_pos c1, if_pos (by omega)]; rfl
    by_cases c2 : r < 2048
    · rw [if_neg c1, if_pos c2, if_neg (by omega), if_pos (by omega)]
      unfold strOfNums
      simp only [List.map_cons, List.map_nil]
      rw [show (192 + r / 64).toNat = 192 + r.toNat / 64 by omega, show (128 + r % 64).toNat = 128 + r.toNat % 64 by omega]
    by_cases c3 : r < 65536
    · rw [if_neg c1, if_neg c2, if_pos c3, if_neg (by omega), if_neg (by omega), if_pos (by omega)]
      unfold strOfNums
      simp only [List.map_cons, List.map_nil]
      rw [show (224 + r / 4096).toNat = 224 + r.toNat / 4096 by omega, show (128 + r / 64 % 64).toNat = 128 + r.toNat / 64 % 64 by omega, show (128 + r % 64).toNat = 128 + r.toNat % 64 by omega]
    rw [if_neg c1, if_neg c2, if_neg c3, if_neg (by omega), if_neg (by omega), if_neg (by omega)]
    unfold strOfNums
    simp only [List.map_cons, List.map_nil]
    rw [show (240 + r / 262144).toNat = 240 + r.toNat / 262144 by omega, show (128 + r / 4096 % 64).toNat = 128 + r.toNat / 4096 % 64 by omega, show (128 + r / 64 % 64).toNat = 128 + r.toNat / 64 % 64 by omega, show (128 + r % 64).toNat = 128 + r.toNat % 64 by omega]
  · have hv : Utf8.valid r = false := by rw [validRune_eq]; exact decide_eq_false h
    rw [decide_eq_false h, if_neg (by decide)]
    unfold Utf8.encode
    simp only [hv]
    rfl
theorem runesBytes_encL (ds : List Int) : runesBytes ds = strOfNums (encL ds) := by
  have key : ∀ (ds : List Int) (s : ByteArray), ds.foldl (fun r n => r ++ Utf8.encode n) s = s ++ strOfNums (encL ds) := by
    intro ds
    induction ds with
    | nil => intro s; apply ByteArray.ext; simp [encL, strOfNums]
    | cons a ds ih =>
      intro s
      have e : encL (a :: ds) = enc1 a ++ encL ds := rfl
      rw [List.foldl_cons, ih, e, strOf_append, utf8_enc1, ByteArray.append_assoc]
  unfold runesBytes
  rw [key]
  simp
theorem get_strOf (xs : List Int) (h : ∀ x ∈ xs, Byte x) (j : Nat) : ((strOfNums xs).get! j).toNat = (xs.getD j 0).toNat := by
  have e : (strOfNums xs).get! j = (xs.map fun n => UInt8.ofNat n.toNat).getD j 0 := by
    unfold strOfNums ByteArray.get!
    simp [List.getD_eq_getElem?_getD]
    rfl
  rw [e]
  rcases Nat.lt_or_ge j xs.length with hj | hj
  · have hb := h xs[j] (List.getElem_mem hj)
    unfold Byte at hb
    simp [List.getD_eq_getElem?_getD, hj]
    omega
  · simp [List.getD_eq_getElem?_getD, List.getElem?_eq_none hj]
theorem getD_app (pre mid : List Int) (k : Nat) : (pre ++ mid).getD (pre.length + k) 0 = mid.getD k 0 := by
  simp [List.getD_eq_getElem?_getD, List.getElem?_append_right]
/-- A rune that there is is read back, wherever its bytes stand. -/
theorem decode_enc (pre : List Int) (r : Int) (post : List Int) (hr : validR r = true) (h : ∀ x ∈ pre ++ (enc1 r ++ post), Byte x) :
    Utf8.decode (strOfNums (pre ++ (enc1 r ++ post))) pre.length = (r.toNat, (enc1 r).length) := by
  have hv := of_decide_eq_true hr
  have e1 : enc1 r = enc0 r := by unfold enc1; rw [if_pos hr]
  rw [Lib.decode_at, strOf_size, get_strOf _ h, get_strOf _ h, get_strOf _ h, get_strOf _ h]
  have g0 := getD_app pre (enc1 r ++ post) 0
  rw [Nat.add_zero] at g0
  rw [g0, getD_app, getD_app, getD_app, List.length_append, Nat.add_sub_cancel_left, e1]
  clear g0 h
  unfold enc0
  by_cases c1 : r < 128
  · rw [if_pos c1]
    simp only [List.cons_append, List.nil_append, List.getD_cons_zero, List.length_cons, List.length_nil]
    unfold Lib.decodeN
    rw [if_pos (by omega)]
  by_cases c2 : r < 2048
  · rw [if_neg c1, if_pos c2]
    simp only [List.cons_append, List.nil_append, List.getD_cons_zero, List.getD_cons_succ, List.length_cons, List.length_nil]
    unfold Lib.decodeN
    rw [if_neg (by omega), if_pos (by omega), if_pos (by omega)]
    congr 1
    omega
  by_cases c3 : r < 65536
  · rw [if_neg c1, if_neg c2, if_pos c3]
    simp only [List.cons_append, List.nil_append, List.getD_cons_zero, List.getD_cons_succ, List.length_cons, List.length_nil]
    have key : (224 + r / 4096).toNat % 16 * 4096 + (128 + r / 64 % 64).toNat % 64 * 64 + (128 + r % 64).toNat % 64 = r.toNat := by omega
    unfold Lib.decodeN
    rw [if_neg (by omega), if_neg (by omega), if_pos (by omega), if_pos (by omega), key]
  rw [if_neg c1, if_neg c2, if_neg c3]
  simp only [List.cons_append, List.nil_append, List.getD_cons_zero, List.getD_cons_succ, List.length_cons, List.length_nil]
  have key : (240 + r / 262144).toNat % 8 * 262144 + (128 + r / 4096 % 64).toNat % 64 * 4096 + (128 + r / 64 % 64).toNat % 64 * 64 + (128 + r % 64).toNat % 64 = r.toNat := by omega
  unfold Lib.decodeN
  rw [if_neg (by omega), if_neg (by omega), if_neg (by omega), if_pos (by omega), if_pos (by omega), key]

end Go.Proofs.YtnihneffgbhjjaaDoor
