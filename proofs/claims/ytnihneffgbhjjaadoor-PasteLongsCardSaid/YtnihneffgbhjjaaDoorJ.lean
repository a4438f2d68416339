/- paste: the law's right (its first part: to the look of the bytes). -/
import Derived.Test.YtnihneffgbhjjaaDoorI
import Derived.Deep.CutBlock
import Derived.Deep.DeepCutAuto
import Derived.Outline
set_option linter.unusedSimpArgs false
set_option linter.unusedVariables false
set_option linter.unnecessarySimpa false
namespace Go.Proofs.YtnihneffgbhjjaaDoor
open Go.RowKit

/-- The pieces, grown rune by rune. -/
def mrg (size : Int) (acc : List (List Int)) (r : Int) : List (List Int) :=
  match acc.getLast? with
  | some p => if ((encL p).length : Int) + ((enc1 r).length : Int) ≤ size then acc.dropLast ++ [p ++ [r]] else acc ++ [[r]]
  | none => [[r]]
theorem mrg_snoc (size : Int) (acc : List (List Int)) (p : List Int) (r : Int) : mrg size (acc ++ [p]) r = if ((encL p).length : Int) + ((enc1 r).length : Int) ≤ size then acc ++ [p ++ [r]] else (acc ++ [p]) ++ [[r]] := by
  unfold mrg
  simp
theorem mrg_fold (size : Int) (h : 4 ≤ size) : ∀ (rs : List Int) (acc : List (List Int)) (p : List Int), rs.foldl (mrg size) (acc ++ [p]) = acc ++ ((p ++ (fit size ((encL p).length : Int) rs).1) :: pcsL size (fit size ((encL p).length : Int) rs).2) := by
  intro rs
  induction rs with
  | nil => intro acc p; simp [fit, pcsL, pcs]
  | cons r rs ih =>
    intro acc p
    rw [List.foldl_cons, mrg_snoc]
    by_cases hc : ((encL p).length : Int) + ((enc1 r).length : Int) ≤ size
    · rw [if_pos hc, ih]
      have e : ((encL (p ++ [r])).length : Int) = ((encL p).length : Int) + ((enc1 r).length : Int) := by rw [encL_snoc, List.length_append]; omega
      rw [e]
      conv => rhs; rw [fit, if_neg (by omega)]
      simp
    · rw [if_neg hc, ih]
      conv => rhs; rw [fit, if_pos (by omega)]
      have hE := (enc1_length r).2
      have e : ((encL [r]).length : Int) = 0 + ((enc1 r).length : Int) := by simp [encL]
      simp only [List.append_nil]
      rw [pcsL_cons size h, e]
      conv => rhs; rw [fit, if_neg (by omega)]
      simp
theorem mrg_pcs (size : Int) (h : 4 ≤ size) (ds : List Int) : ds.foldl (mrg size) [] = pcsL size ds := by
  match ds with
  | [] => rfl
  | r :: rs =>
    rw [List.foldl_cons]
    have := mrg_fold size h rs [] [r]
    rw [List.nil_append, List.nil_append] at this
    rw [show mrg size [] r = [[r]] from rfl, this, pcsL_cons size h]
    have hE := (enc1_length r).2
    have e : ((encL [r]).length : Int) = 0 + ((enc1 r).length : Int) := by simp [encL]
    rw [e]
    conv => rhs; rw [fit, if_neg (by omega)]
    simp
theorem mrg_take (size : Int) (ds : List Int) (k : Nat) (h : k < ds.length) : (ds.take (k + 1)).foldl (mrg size) [] = mrg size ((ds.take k).foldl (mrg size) []) ds[k] := by
  rw [List.take_succ_eq_append_getElem h, List.foldl_append]; rfl
theorem mrg_len (size : Int) (acc : List (List Int)) (r : Int) : (mrg size acc r).length ≤ acc.length + 1 := by
  unfold mrg
  split
  · rename_i p h
    have hne : acc ≠ [] := by rintro rfl; simp at h
    have := List.length_pos_iff.2 hne
    split <;> simp <;> omega
  · simp
theorem mrg_foldlen (size : Int) (rs : List Int) (acc : List (List Int)) : (rs.foldl (mrg size) acc).length ≤ acc.length + rs.length := by
  induction rs generalizing acc with
  | nil => simp
  | cons r rs ih =>
    rw [List.foldl_cons, List.length_cons]
    have h1 := ih (mrg size acc r)
    have h2 := mrg_len size acc r
    omega
theorem mrg_flat (size : Int) (acc : List (List Int)) (r : Int) : (mrg size acc r).flatten = acc.flatten ++ [r] := by
  rcases List.eq_nil_or_concat acc with rfl | ⟨a, p, rfl⟩
  · rfl
  · rw [List.concat_eq_append, mrg_snoc]
    split <;> simp
theorem mrg_foldflat (size : Int) (rs : List Int) (acc : List (List Int)) : (rs.foldl (mrg size) acc).flatten = acc.flatten ++ rs := by
  induction rs generalizing acc with
  | nil => simp
  | cons r rs ih => rw [List.foldl_cons, ih, mrg_flat]; simp
/-- The strings of pieces. -/
def stS (acc : List (List Int)) : List ByteArray := acc.map fun p => strOfNums (encL p)
theorem stS_snoc (acc : List (List Int)) (p : List Int) : stS (acc ++ [p]) = stS acc ++ [strOfNums (encL p)] := by unfold stS; simp
theorem enc_snoc (p : List Int) (r : Int) : strOfNums (encL (p ++ [r])) = strOfNums (encL p) ++ strOfNums (encL [r]) := by
  rw [encL_snoc, strOf_append]
  congr 2
  simp [encL]
theorem pasteB_false (l : List Int) : pasteB false l = clnB l := by unfold pasteB; rw [if_pos (.inr rfl)]
theorem pasteB_true (l : List Int) (h : clnB l ≠ []) : strOfNums (pasteB true l) = ((⟨#[27, 91, 50, 48, 48, 126]⟩ : ByteArray) ++ strOfNums (clnB l)) ++ (⟨#[27, 91, 50, 48, 49, 126]⟩ : ByteArray) := by
  unfold pasteB
  rw [if_neg (by simp [h]), strOf_append, strOf_append]
  rfl
theorem pasteB_nil (l : List Int) (h : clnB l = []) : strOfNums (pasteB true l) = ⟨#[]⟩ := by
  unfold pasteB
  rw [if_pos (.inl h), h]
  rfl
theorem cnt_take (x : Int) (ds : List Int) (k : Nat) (h : k < ds.length) : (ds.take (k + 1)).count x = (ds.take k).count x + (if ds[k] = x then 1 else 0) := by
  rw [List.take_succ_eq_append_getElem h, List.count_append]
  congr 1
  by_cases e : ds[k] = x
  · rw [e, if_pos rfl]; simp
  · rw [if_neg e]; simp [e]
/-- How many of the three bytes stand before a place. -/
theorem occ3_drop (l : List Int) (k : Nat) (h : k + 2 < l.length) : occ3 (l.drop k) = (if l[k] = 239 ∧ l[k + 1] = 191 ∧ l[k + 2] = 189 then 1 else 0) + occ3 (l.drop (k + 1)) := by
  rw [List.drop_eq_getElem_cons (by omega : k < l.length)]
  rw [show ∀ (a : Int) (l : List Int), occ3 (a :: l) = (if a = 239 ∧ l.head? = some 191 ∧ l.tail.head? = some 189 then 1 else 0) + occ3 l from fun _ _ => rfl]
  have h1 : (l.drop (k + 1)).head? = some l[k + 1] := by rw [List.head?_drop, List.getElem?_eq_getElem]
  have h2 : (l.drop (k + 1)).tail.head? = some l[k + 2] := by rw [List.tail_drop, List.head?_drop, List.getElem?_eq_getElem]
  rw [h1, h2]
  simp only [Option.some.injEq]
theorem occ3_short (l : List Int) (h : l.length ≤ 2) : occ3 l = 0 := by
  match l, h with
  | [], _ => rfl
  | [a], _ => simp [occ3]
  | [a, b], _ => simp [occ3]

end Go.Proofs.YtnihneffgbhjjaaDoor
