/- utf: what the program and the reference compute, as plain functions on lists of integers, and that they agree. -/
import Derived.Test.YtpkkfcfkhiaggaaSl
set_option linter.unusedSimpArgs false
set_option linter.unusedVariables false
set_option linter.unnecessarySimpa false
namespace Go.Proofs.Ytpkkfcfkhiaggaa

def validR (r : Int) : Bool := decide ((0 ≤ r ∧ r < 55296) ∨ (57343 < r ∧ r ≤ 1114111))
/-- The bytes of a rune that there is. -/
def enc0 (r : Int) : List Int :=
  if r < 128 then [r] else if r < 2048 then [192 + r / 64, 128 + r % 64] else if r < 65536 then [224 + r / 4096, 128 + r / 64 % 64, 128 + r % 64]
  else [240 + r / 262144, 128 + r / 4096 % 64, 128 + r / 64 % 64, 128 + r % 64]
def enc1 (r : Int) : List Int := if validR r then enc0 r else enc0 65533
def encL (l : List Int) : List Int := l.flatMap enc1

/-- How many bytes the first one asks for, and the bounds of the next one. -/
def needOf (c : Int) : Int := if c < 224 then 2 else if c < 240 then 3 else 4
def loOf (bs : List Int) : Int := if bs.length = 1 then (if bs.head? = some 224 then 160 else if bs.head? = some 240 then 144 else 128) else 128
def hiOf (bs : List Int) : Int := if bs.length = 1 then (if bs.head? = some 237 then 159 else if bs.head? = some 244 then 143 else 191) else 191
def moreOf (bs : List Int) : Int := needOf (bs.headD 0) - bs.length
def beginS (c : Int) : List Int := if 194 ≤ c ∧ c ≤ 244 then [c] else []
def beginO (c : Int) : List Int := if c < 128 then [c] else if 194 ≤ c ∧ c ≤ 244 then [] else [65533]

def maskOf (n : Nat) : Int := if n = 2 then 32 else if n = 3 then 16 else 8
def runeOf (bs : List Int) : Int := bs.tail.foldl (fun r x => r * 64 + x % 64) (bs.headD 0 % maskOf bs.length)
def inB (bs : List Int) (c : Int) : Bool := decide (loOf bs ≤ c ∧ c ≤ hiOf bs)
def stepS (bs : List Int) (c : Int) : List Int := if bs = [] ∨ inB bs c = false then beginS c else if 1 < moreOf bs then bs ++ [c] else []
def stepO (bs : List Int) (c : Int) : List Int := if bs = [] then beginO c else if inB bs c = false then 65533 :: beginO c else if 1 < moreOf bs then [] else [runeOf (bs ++ [c])]
def feedS (bs : List Int) (l : List Int) : List Int := l.foldl stepS bs
def feedO : List Int → List Int → List Int
  | _, [] => []
  | bs, c :: l => stepO bs c ++ feedO (stepS bs c) l
def endO (bs : List Int) : List Int := if bs = [] then [] else [65533]
def decL (l : List Int) : List Int := feedO [] l ++ endO (feedS [] l)

/-- Pending bytes that there can be. -/
inductive Wf : List Int → Prop
  | nil : Wf []
  | one (a : Int) : 194 ≤ a → a ≤ 244 → Wf [a]
  | two (a b : Int) : 224 ≤ a → a ≤ 244 → 128 ≤ b → b ≤ 191 → (a = 224 → 160 ≤ b) → (a = 237 → b ≤ 159) → (a = 240 → 144 ≤ b) → (a = 244 → b ≤ 143) → Wf [a, b]
  | three (a b c : Int) : 240 ≤ a → a ≤ 244 → 128 ≤ b → b ≤ 191 → (a = 240 → 144 ≤ b) → (a = 244 → b ≤ 143) → 128 ≤ c → c ≤ 191 → Wf [a, b, c]

/-- All that a step can do, case by case. -/
inductive Out : List Int → Int → List Int → List Int → Prop
  | ascii (c) : 0 ≤ c → c < 128 → Out [] c [] [c]
  | bad (c) : (128 ≤ c ∧ c < 194 ∨ 244 < c ∧ c < 256) → Out [] c [] [65533]
  | first (c) : 194 ≤ c → c ≤ 244 → Out [] c [c] []
  | more (bs c) : bs ≠ [] → inB bs c = true → 1 < moreOf bs → Wf (bs ++ [c]) → Out bs c (bs ++ [c]) []
  | whole (bs c) : bs ≠ [] → inB bs c = true → moreOf bs = 1 → validR (runeOf (bs ++ [c])) = true → enc0 (runeOf (bs ++ [c])) = bs ++ [c] → Out bs c [] [runeOf (bs ++ [c])]
  | broken (bs c s o) : bs ≠ [] → inB bs c = false → Out [] c s o → Out bs c s (65533 :: o)

theorem out_nil (c : Int) (hc : Byte c) : Out [] c (stepS [] c) (stepO [] c) := by
  unfold Byte at hc
  by_cases h1 : c < 128
  · have : stepS [] c = [] := by simp [stepS, beginS]; omega
    rw [this, show stepO [] c = [c] by simp [stepO, beginO, h1]]; exact .ascii c (by omega) h1
  · by_cases h2 : 194 ≤ c ∧ c ≤ 244
    · rw [show stepS [] c = [c] by simp [stepS, beginS, h2], show stepO [] c = [] by simp [stepO, beginO, h1, h2]]; exact .first c (by omega) (by omega)
    · rw [show stepS [] c = [] by simp [stepS, beginS]; omega, show stepO [] c = [65533] by simp [stepO, beginO, h1]; omega]; exact .bad c (by omega)

theorem rune2 (a b : Int) : runeOf [a, b] = a % 32 * 64 + b % 64 := by simp [runeOf, maskOf]
theorem rune3 (a b c : Int) : runeOf [a, b, c] = (a % 16 * 64 + b % 64) * 64 + c % 64 := by simp [runeOf, maskOf]
theorem rune4 (a b c d : Int) : runeOf [a, b, c, d] = ((a % 8 * 64 + b % 64) * 64 + c % 64) * 64 + d % 64 := by simp [runeOf, maskOf]

theorem enc_rune2 (a b : Int) (ha : 194 ≤ a) (ha2 : a < 224) (hb : 128 ≤ b) (hb2 : b ≤ 191) : validR (runeOf [a, b]) = true ∧ enc0 (runeOf [a, b]) = [a, b] := by
  rw [rune2]
  refine ⟨by simp [validR]; omega, ?_⟩
  unfold enc0
  rw [if_neg (by omega), if_pos (by omega)]
  simp; constructor <;> omega
theorem enc_rune3 (a b c : Int) (ha : 224 ≤ a) (ha2 : a < 240) (hb : 128 ≤ b) (hb2 : b ≤ 191) (h1 : a = 224 → 160 ≤ b) (h2 : a = 237 → b ≤ 159) (hc : 128 ≤ c) (hc2 : c ≤ 191) : validR (runeOf [a, b, c]) = true ∧ enc0 (runeOf [a, b, c]) = [a, b, c] := by
  rw [rune3]
  refine ⟨by simp [validR]; omega, ?_⟩
  unfold enc0
  rw [if_neg (by omega), if_neg (by omega), if_pos (by omega)]
  simp; refine ⟨?_, ?_, ?_⟩ <;> omega
theorem enc_rune4 (a b c d : Int) (ha : 240 ≤ a) (ha2 : a ≤ 244) (hb : 128 ≤ b) (hb2 : b ≤ 191) (h1 : a = 240 → 144 ≤ b) (h2 : a = 244 → b ≤ 143) (hc : 128 ≤ c) (hc2 : c ≤ 191) (hd : 128 ≤ d) (hd2 : d ≤ 191) : validR (runeOf [a, b, c, d]) = true ∧ enc0 (runeOf [a, b, c, d]) = [a, b, c, d] := by
  rw [rune4]
  refine ⟨by simp [validR]; omega, ?_⟩
  unfold enc0
  rw [if_neg (by omega), if_neg (by omega), if_neg (by omega)]
  simp; refine ⟨?_, ?_, ?_, ?_⟩ <;> omega

theorem inB1 {a c : Int} : inB [a] c = true ↔ (if a = 224 then 160 else if a = 240 then 144 else 128) ≤ c ∧ c ≤ (if a = 237 then 159 else if a = 244 then 143 else 191) := by
  simp [inB, loOf, hiOf]
theorem inB2 {a b c : Int} : inB [a, b] c = true ↔ 128 ≤ c ∧ c ≤ 191 := by simp [inB, loOf, hiOf]
theorem inB3 {a b d c : Int} : inB [a, b, d] c = true ↔ 128 ≤ c ∧ c ≤ 191 := by simp [inB, loOf, hiOf]

theorem out_of (bs : List Int) (c : Int) (h : Wf bs) (hc : Byte c) : Out bs c (stepS bs c) (stepO bs c) := by
  cases hb : inB bs c with
  | false =>
    by_cases hn : bs = []
    · subst hn; exact out_nil c hc
    · have e1 : stepS bs c = stepS [] c := by simp [stepS, hb]
      have e2 : stepO bs c = 65533 :: stepO [] c := by simp [stepO, hb, hn]
      rw [e1, e2]; exact .broken bs c _ _ hn hb (out_nil c hc)
  | true =>
    cases h with
    | nil => exact out_nil c hc
    | one a h1 h2 =>
      have hin := inB1.1 hb
      by_cases hm : 1 < moreOf [a]
      · rw [show stepS [a] c = [a] ++ [c] by simp [stepS, hb, hm], show stepO [a] c = [] by simp [stepO, hb, hm]]
        refine .more _ _ (by simp) hb hm ?_
        simp [moreOf, needOf] at hm
        refine .two a c ?_ h2 ?_ ?_ ?_ ?_ ?_ ?_ <;> (try intro) <;> (split at hin <;> (try split at hin) <;> (try split at hin) <;> (try split at hin) <;> (try split at hm) <;> (try split at hm) <;> omega)
      · rw [show stepS [a] c = [] by simp [stepS, hb, hm], show stepO [a] c = [runeOf ([a] ++ [c])] by simp [stepO, hb, hm]]
        simp [moreOf, needOf] at hm
        have ha : a < 224 := by split at hm <;> (try split at hm) <;> omega
        have := enc_rune2 a c h1 ha (by split at hin <;> (try split at hin) <;> omega) (by split at hin <;> (try split at hin) <;> (try split at hin) <;> omega)
        exact .whole _ _ (by simp) hb (by simp [moreOf, needOf, ha]) this.1 this.2
    | two a b h1 h2 h3 h4 h5 h6 h7 h8 =>
      have hin := inB2.1 hb
      by_cases hm : 1 < moreOf [a, b]
      · rw [show stepS [a, b] c = [a, b] ++ [c] by simp [stepS, hb, hm], show stepO [a, b] c = [] by simp [stepO, hb, hm]]
        refine .more _ _ (by simp) hb hm ?_
        simp [moreOf, needOf] at hm
        refine .three a b c ?_ h2 h3 h4 h7 h8 hin.1 hin.2
        split at hm <;> (try split at hm) <;> omega
      · rw [show stepS [a, b] c = [] by simp [stepS, hb, hm], show stepO [a, b] c = [runeOf ([a, b] ++ [c])] by simp [stepO, hb, hm]]
        simp [moreOf, needOf] at hm
        have ha : a < 240 := by split at hm <;> (try split at hm) <;> omega
        have := enc_rune3 a b c h1 ha h3 h4 h5 h6 hin.1 hin.2
        exact .whole _ _ (by simp) hb (by simp [moreOf, needOf, show ¬ a < 224 by omega, ha]) this.1 this.2
    | three a b d h1 h2 h3 h4 h5 h6 h7 h8 =>
      have hin := inB3.1 hb
      have hm : moreOf [a, b, d] = 1 := by simp [moreOf, needOf, show ¬ a < 224 by omega, show ¬ a < 240 by omega]
      rw [show stepS [a, b, d] c = [] by simp [stepS, hb, hm], show stepO [a, b, d] c = [runeOf ([a, b, d] ++ [c])] by simp [stepO, hb, hm]]
      have := enc_rune4 a b d c h1 h2 h3 h4 h5 h6 h7 h8 hin.1 hin.2
      exact .whole _ _ (by simp) hb hm this.1 this.2

theorem Out.wf {bs s o : List Int} {c : Int} (h : Out bs c s o) : Wf s := by
  induction h with
  | ascii | bad | whole => exact .nil
  | first c h1 h2 => exact .one c h1 h2
  | more bs c _ _ _ h => exact h
  | broken _ _ _ _ _ _ _ ih => exact ih
theorem stepS_wf (bs : List Int) (c : Int) (h : Wf bs) (hc : Byte c) : Wf (stepS bs c) := (out_of bs c h hc).wf
theorem feedS_wf (l bs : List Int) (h : Wf bs) (hl : ∀ c ∈ l, Byte c) : Wf (feedS bs l) := by
  induction l generalizing bs with
  | nil => exact h
  | cons c l ih => exact ih _ (stepS_wf bs c h (hl c (by simp))) (fun x hx => hl x (by simp [hx]))
theorem Wf.len {bs : List Int} (h : Wf bs) : bs.length ≤ 3 := by cases h <;> simp
theorem Out.len {bs s o : List Int} {c : Int} (h : Out bs c s o) : o.length + s.length ≤ bs.length + 1 := by
  induction h with
  | ascii | bad | first => simp
  | more => simp
  | whole bs c hn => have := List.length_pos_iff.2 hn; simp
  | broken bs c s o hn _ h ih => have := List.length_pos_iff.2 hn; simp at *; omega
theorem Out.valid {bs s o : List Int} {c : Int} (h : Out bs c s o) : ∀ r ∈ o, validR r = true := by
  induction h with
  | ascii c h1 h2 => intro r hr; simp at hr; subst hr; simp [validR]; omega
  | bad c => intro r hr; simp at hr; subst hr; decide
  | first | more => intro r hr; cases hr
  | whole bs c _ _ _ h => intro r hr; simp at hr; subst hr; exact h
  | broken bs c s o _ _ _ ih => intro r hr; rcases List.mem_cons.1 hr with rfl | hr; decide; exact ih r hr
theorem feed_len (l bs : List Int) (h : Wf bs) (hl : ∀ c ∈ l, Byte c) : (feedO bs l).length + (feedS bs l).length ≤ bs.length + l.length := by
  induction l generalizing bs with
  | nil => simp [feedO, feedS]
  | cons c l ih =>
    have h1 := (out_of bs c h (hl c (by simp))).len
    have h2 := ih _ (stepS_wf bs c h (hl c (by simp))) (fun x hx => hl x (by simp [hx]))
    simp only [feedO, feedS, List.foldl_cons, List.length_append, List.length_cons] at *
    omega
theorem feed_valid (l bs : List Int) (h : Wf bs) (hl : ∀ c ∈ l, Byte c) : ∀ r ∈ feedO bs l, validR r = true := by
  induction l generalizing bs with
  | nil => intro r hr; cases hr
  | cons c l ih =>
    intro r hr
    rcases List.mem_append.1 hr with hr | hr
    · exact (out_of bs c h (hl c (by simp))).valid r hr
    · exact ih _ (stepS_wf bs c h (hl c (by simp))) (fun x hx => hl x (by simp [hx])) r hr
theorem feedO_append (l m bs : List Int) : feedO bs (l ++ m) = feedO bs l ++ feedO (feedS bs l) m := by
  induction l generalizing bs with
  | nil => rfl
  | cons c l ih => simp only [List.cons_append, feedO, ih, List.append_assoc]; rfl
theorem feedS_append (l m bs : List Int) : feedS bs (l ++ m) = feedS (feedS bs l) m := List.foldl_append ..

theorem enc0_byte (r : Int) (h : validR r = true) : ∀ c ∈ enc0 r, Byte c := by
  simp [validR] at h
  unfold enc0 Byte
  intro c hc
  split at hc
  · simp at hc; omega
  · split at hc
    · simp at hc; omega
    · split at hc
      · simp at hc; omega
      · simp at hc; omega

/-- The bytes of a rune that there is are decoded as that rune. -/
theorem feed_enc0 (r : Int) (h : validR r = true) : feedO [] (enc0 r) = [r] ∧ feedS [] (enc0 r) = [] := by
  simp [validR] at h
  unfold enc0
  split
  · rename_i h1
    simp only [feedO, feedS, List.foldl_cons, List.foldl_nil, List.append_nil]
    rw [show stepO [] r = [r] by simp [stepO, beginO, h1], show stepS [] r = [] by simp [stepS, beginS]; omega]
    simp
  · split
    · rename_i h1 h2
      have e1 : stepS [] (192 + r / 64) = [192 + r / 64] := by simp [stepS, beginS]; omega
      have e2 : stepO [] (192 + r / 64) = [] := by simp [stepO, beginO]; rw [if_neg (by omega), if_pos (by omega)]
      have hb : inB [192 + r / 64] (128 + r % 64) = true := by rw [inB1]; (repeat' split) <;> omega
      have hm : moreOf [192 + r / 64] = 1 := by simp [moreOf, needOf, show 192 + r / 64 < 224 by omega]
      have e3 : stepS [192 + r / 64] (128 + r % 64) = [] := by simp [stepS, hb, hm]
      have e4 : stepO [192 + r / 64] (128 + r % 64) = [r] := by simp [stepO, hb, hm]; rw [rune2]; omega
      simp only [feedO, feedS, List.foldl_cons, List.foldl_nil, List.append_nil, e1, e2, e3, e4]
      simp
    · split
      · rename_i h1 h2 h3
        have e1 : stepS [] (224 + r / 4096) = [224 + r / 4096] := by simp [stepS, beginS]; omega
        have e2 : stepO [] (224 + r / 4096) = [] := by simp [stepO, beginO]; rw [if_neg (by omega), if_pos (by omega)]
        have hb : inB [224 + r / 4096] (128 + r / 64 % 64) = true := by rw [inB1]; (repeat' split) <;> omega
        have hm : 1 < moreOf [224 + r / 4096] := by simp [moreOf, needOf, show ¬ 224 + r / 4096 < 224 by omega, show 224 + r / 4096 < 240 by omega]
        have e3 : stepS [224 + r / 4096] (128 + r / 64 % 64) = [224 + r / 4096, 128 + r / 64 % 64] := by simp [stepS, hb, hm]
        have e4 : stepO [224 + r / 4096] (128 + r / 64 % 64) = [] := by simp [stepO, hb, hm]
        have hb2 : inB [224 + r / 4096, 128 + r / 64 % 64] (128 + r % 64) = true := by rw [inB2]; omega
        have hm2 : moreOf [224 + r / 4096, 128 + r / 64 % 64] = 1 := by simp [moreOf, needOf, show ¬ 224 + r / 4096 < 224 by omega, show 224 + r / 4096 < 240 by omega]
        have e5 : stepS [224 + r / 4096, 128 + r / 64 % 64] (128 + r % 64) = [] := by simp [stepS, hb2, hm2]
        have e6 : stepO [224 + r / 4096, 128 + r / 64 % 64] (128 + r % 64) = [r] := by simp [stepO, hb2, hm2]; rw [rune3]; omega
        simp only [feedO, feedS, List.foldl_cons, List.foldl_nil, List.append_nil, e1, e2, e3, e4, e5, e6]
        simp
      · rename_i h1 h2 h3
        have e1 : stepS [] (240 + r / 262144) = [240 + r / 262144] := by simp [stepS, beginS]; omega
        have e2 : stepO [] (240 + r / 262144) = [] := by simp [stepO, beginO]; rw [if_neg (by omega), if_pos (by omega)]
        have hb : inB [240 + r / 262144] (128 + r / 4096 % 64) = true := by rw [inB1]; (repeat' split) <;> omega
        have hm : 1 < moreOf [240 + r / 262144] := by simp [moreOf, needOf, show ¬ 240 + r / 262144 < 224 by omega, show ¬ 240 + r / 262144 < 240 by omega]
        have e3 : stepS [240 + r / 262144] (128 + r / 4096 % 64) = [240 + r / 262144, 128 + r / 4096 % 64] := by simp [stepS, hb, hm]
        have e4 : stepO [240 + r / 262144] (128 + r / 4096 % 64) = [] := by simp [stepO, hb, hm]
        have hb2 : inB [240 + r / 262144, 128 + r / 4096 % 64] (128 + r / 64 % 64) = true := by rw [inB2]; omega
        have hm2 : 1 < moreOf [240 + r / 262144, 128 + r / 4096 % 64] := by simp [moreOf, needOf, show ¬ 240 + r / 262144 < 224 by omega, show ¬ 240 + r / 262144 < 240 by omega]
        have e5 : stepS [240 + r / 262144, 128 + r / 4096 % 64] (128 + r / 64 % 64) = [240 + r / 262144, 128 + r / 4096 % 64, 128 + r / 64 % 64] := by simp [stepS, hb2, hm2]
        have e6 : stepO [240 + r / 262144, 128 + r / 4096 % 64] (128 + r / 64 % 64) = [] := by simp [stepO, hb2, hm2]
        have hb3 : inB [240 + r / 262144, 128 + r / 4096 % 64, 128 + r / 64 % 64] (128 + r % 64) = true := by rw [inB3]; omega
        have hm3 : moreOf [240 + r / 262144, 128 + r / 4096 % 64, 128 + r / 64 % 64] = 1 := by simp [moreOf, needOf, show ¬ 240 + r / 262144 < 224 by omega, show ¬ 240 + r / 262144 < 240 by omega]
        have e7 : stepS [240 + r / 262144, 128 + r / 4096 % 64, 128 + r / 64 % 64] (128 + r % 64) = [] := by simp [stepS, hb3, hm3]
        have e8 : stepO [240 + r / 262144, 128 + r / 4096 % 64, 128 + r / 64 % 64] (128 + r % 64) = [r] := by simp [stepO, hb3, hm3]; rw [rune4]; omega
        simp only [feedO, feedS, List.foldl_cons, List.foldl_nil, List.append_nil, e1, e2, e3, e4, e5, e6, e7, e8]
        simp

theorem encL_cons (r : Int) (l : List Int) : encL (r :: l) = enc1 r ++ encL l := by simp [encL]
theorem encL_append (l m : List Int) : encL (l ++ m) = encL l ++ encL m := by simp [encL]
theorem decode_encode (l : List Int) (h : ∀ r ∈ l, validR r = true) : feedO [] (encL l) = l ∧ feedS [] (encL l) = [] := by
  induction l with
  | nil => exact ⟨rfl, rfl⟩
  | cons r l ih =>
    have h1 := feed_enc0 r (h r (by simp))
    have h2 := ih (fun x hx => h x (by simp [hx]))
    rw [encL_cons, enc1, if_pos (h r (by simp)), feedO_append, feedS_append, h1.1, h1.2, h2.1, h2.2]
    exact ⟨rfl, rfl⟩
theorem decL_encL (l : List Int) (h : ∀ r ∈ l, validR r = true) : decL (encL l) = l := by
  have := decode_encode l h
  simp [decL, this.1, this.2, endO]

/-- What is encoded again is what was read, and what is pending, if nothing was malformed. -/
theorem encode_feed (l bs : List Int) (h : Wf bs) (hl : ∀ c ∈ l, Byte c) (hb : (65533 : Int) ∉ feedO bs l)   : encL (feedO bs l) ++ feedS bs l = bs ++ l := by
  induction l generalizing bs with
  | nil => simp [feedO, feedS, encL]
  | cons c l ih =>
    have hc := hl c (by simp)
    have h1 := out_of bs c h hc
    have h3 : (65533 : Int) ∉ stepO bs c := fun h' => hb (List.mem_append.2 (.inl h'))
    have h2 := ih _ (stepS_wf bs c h hc) (fun x hx => hl x (by simp [hx])) (fun h' => hb (List.mem_append.2 (.inr h')))
    have e : encL (stepO bs c) ++ stepS bs c = bs ++ [c] := by
      revert h1 h3
      generalize stepO bs c = o
      generalize stepS bs c = s
      intro h1 h3
      cases h1 with
      | ascii _ a b =>
        simp [encL, enc1, show validR c = true by simp [validR]; omega, enc0, b]
      | bad _ _ => exact absurd (by simp) h3
      | first _ _ _ => simp [encL]
      | more _ _ _ _ _ _ => simp [encL]
      | whole _ _ _ _ _ v w => simp [encL, enc1, v, w]
      | broken _ _ _ _ _ _ _ => exact absurd (by simp) h3
    simp only [feedO, feedS, List.foldl_cons] at *
    rw [encL_append, List.append_assoc, h2, ← List.append_assoc, e]
    simp

/-! The reference. -/
def sizeR (c : Int) : Int := if c < 128 then 1 else if 194 ≤ c ∧ c < 224 then 2 else if 224 ≤ c ∧ c < 240 then 3 else if 240 ≤ c ∧ c < 245 then 4 else 0
def furR (c : Int) : Bool := decide (128 ≤ c ∧ c < 192)
def lenR (r : Int) : Int := if r < 128 then 1 else if r < 2048 then 2 else if r < 65536 then 3 else 4
def okR (r n : Int) : Bool := validR r && decide (lenR r = n)
def firstR (n : Int) : Int := if n = 2 then 192 else if n = 3 then 224 else if n = 4 then 240 else 0
/-- What the bytes b[i..] up to n of them add. -/
def valR (b : List Int) (i : Nat) (x : Int) : Nat → Int
  | 0 => x
  | m + 1 => valR b (i + 1) (x * 64 + (if i < b.length then b.getD i 0 - 128 else 0)) m
def valueR (b : List Int) (n : Nat) : Int := valR b 1 (b.headD 0 - firstR n) (n - 1)
/-- Whether there is a rune with so many bytes from a number on, below another one. -/
def Hits (a z n : Int) : Prop := a < z ∧ ((n = 2 ∧ a ≤ 2047 ∧ 128 < z) ∨ (n = 3 ∧ a ≤ 65535 ∧ 2048 < z ∧ (a < 55296 ∨ 57344 < z)) ∨ (n = 4 ∧ a ≤ 1114111 ∧ 65536 < z))
instance (a z n : Int) : Decidable (Hits a z n) := by unfold Hits; infer_instance
theorem hits_none (a n : Int) : ¬ Hits a a n := by unfold Hits; omega
theorem okR_iff (r n : Int) (hn : n = 2 ∨ n = 3 ∨ n = 4) : okR r n = true ↔ (n = 2 ∧ 128 ≤ r ∧ r < 2048 ∨ n = 3 ∧ (2048 ≤ r ∧ r < 55296 ∨ 57343 < r ∧ r < 65536) ∨ n = 4 ∧ 65536 ≤ r ∧ r ≤ 1114111) := by
  have hl : lenR r = n ↔ (n = 1 ∧ r < 128 ∨ n = 2 ∧ 128 ≤ r ∧ r < 2048 ∨ n = 3 ∧ 2048 ≤ r ∧ r < 65536 ∨ n = 4 ∧ 65536 ≤ r) := by
    unfold lenR
    repeat' split
    all_goals omega
  simp only [okR, validR, Bool.and_eq_true, decide_eq_true_eq, hl]
  rcases hn with rfl | rfl | rfl <;> omega
theorem hits_ok (a z r n : Int) (hn : n = 2 ∨ n = 3 ∨ n = 4) (h1 : a ≤ r) (h2 : r < z) (h : okR r n = true) : Hits a z n := by
  rw [okR_iff r n hn] at h
  unfold Hits
  omega
theorem hits_succ (a r n : Int) (hn : n = 2 ∨ n = 3 ∨ n = 4) (h0 : ¬ Hits a r n) (h1 : a ≤ r) (h : okR r n = false) : ¬ Hits a (r + 1) n := by
  have h' : ¬ okR r n = true := by simp [h]
  rw [okR_iff r n hn] at h'
  unfold Hits at *
  omega
theorem hits_skip (a r n : Int) (hn : n = 2 ∨ n = 3 ∨ n = 4) (h0 : ¬ Hits a r n) (h1 : a ≤ r) (ha : r % 64 = 0) (h : okR r n = false) : ¬ Hits a (r + 63) n := by
  have h' : ¬ okR r n = true := by simp [h]
  rw [okR_iff r n hn] at h'
  unfold Hits at *
  omega
def spanR (l n : Nat) : Int := if n ≤ l then 1 else if n = l + 1 then 64 else if n = l + 2 then 4096 else 262144
def isB (b : List Int) : Bool := decide (b ≠ [] ∧ sizeR (b.headD 0) ≠ 0 ∧ (b.length : Int) ≤ sizeR (b.headD 0)) && (decide (sizeR (b.headD 0) = 1) || (b.tail.all furR && decide (Hits (valueR b (sizeR (b.headD 0)).toNat) (valueR b (sizeR (b.headD 0)).toNat + spanR b.length (sizeR (b.headD 0)).toNat) (sizeR (b.headD 0)))))
def wholeB (b : List Int) : Bool := isB b && decide (sizeR (b.headD 0) = b.length)
def runeR (b : List Int) : Int := if b.length = 1 then b.headD 0 else valueR b b.length
def refS (s : List Int) (c : Int) : List Int := if isB (s ++ [c]) && wholeB (s ++ [c]) then [] else if isB (s ++ [c]) then s ++ [c] else if s = [] then [] else if isB [c] && wholeB [c] then [] else if isB [c] then [c] else []
def refO (s : List Int) (c : Int) : List Int := if isB (s ++ [c]) && wholeB (s ++ [c]) then [runeR (s ++ [c])] else if isB (s ++ [c]) then [] else if s = [] then [65533] else 65533 :: (if isB [c] && wholeB [c] then [runeR [c]] else if isB [c] then [] else [65533])

theorem size_cases (c : Int) : (c < 128 ∧ sizeR c = 1) ∨ (194 ≤ c ∧ c < 224 ∧ sizeR c = 2) ∨ (224 ≤ c ∧ c < 240 ∧ sizeR c = 3) ∨ (240 ≤ c ∧ c < 245 ∧ sizeR c = 4) ∨ ((128 ≤ c ∧ c < 194 ∨ 245 ≤ c) ∧ sizeR c = 0) := by
  unfold sizeR
  repeat' split
  all_goals omega
theorem value12 (a : Int) : valueR [a] 2 = (a - 192) * 64 := by simp [valueR, valR, firstR]
theorem value13 (a : Int) : valueR [a] 3 = (a - 224) * 4096 := by simp [valueR, valR, firstR]; omega
theorem value14 (a : Int) : valueR [a] 4 = (a - 240) * 262144 := by simp [valueR, valR, firstR]; omega
theorem value22 (a b : Int) : valueR [a, b] 2 = (a - 192) * 64 + (b - 128) := by simp [valueR, valR, firstR]
theorem value23 (a b : Int) : valueR [a, b] 3 = ((a - 224) * 64 + (b - 128)) * 64 := by simp [valueR, valR, firstR]
theorem value24 (a b : Int) : valueR [a, b] 4 = ((a - 240) * 64 + (b - 128)) * 4096 := by simp [valueR, valR, firstR]; omega
theorem value33 (a b c : Int) : valueR [a, b, c] 3 = ((a - 224) * 64 + (b - 128)) * 64 + (c - 128) := by simp [valueR, valR, firstR]
theorem value34 (a b c : Int) : valueR [a, b, c] 4 = (((a - 240) * 64 + (b - 128)) * 64 + (c - 128)) * 64 := by simp [valueR, valR, firstR]
theorem value44 (a b c d : Int) : valueR [a, b, c, d] 4 = (((a - 240) * 64 + (b - 128)) * 64 + (c - 128)) * 64 + (d - 128) := by simp [valueR, valR, firstR]

theorem isB1 (a : Int) (ha : Byte a) : isB [a] = decide (a < 128 ∨ 194 ≤ a ∧ a ≤ 244) := by
  unfold Byte at ha
  rw [Bool.eq_iff_iff]
  simp only [isB, List.headD_cons, List.tail_cons, List.all_nil, Bool.true_and, Bool.and_eq_true, Bool.or_eq_true, decide_eq_true_eq, List.length_cons, List.length_nil]
  rcases size_cases a with ⟨h, e⟩ | ⟨h, h2, e⟩ | ⟨h, h2, e⟩ | ⟨h, h2, e⟩ | ⟨h, e⟩
  · simp [e, h]
  · simp only [e, show (2 : Int).toNat = 2 from rfl, value12, spanR]; simp [Hits]; omega
  · simp only [e, show (3 : Int).toNat = 3 from rfl, value13, spanR]; simp [Hits]; omega
  · simp only [e, show (4 : Int).toNat = 4 from rfl, value14, spanR]; simp [Hits]; omega
  · simp [e]; omega
theorem wholeB1 (a : Int) (ha : Byte a) : wholeB [a] = decide (a < 128) := by
  unfold wholeB
  rw [isB1 a ha]
  unfold Byte at ha
  rw [Bool.eq_iff_iff]
  rcases size_cases a with ⟨h, e⟩ | ⟨h, h2, e⟩ | ⟨h, h2, e⟩ | ⟨h, h2, e⟩ | ⟨h, e⟩ <;> simp [e] <;> omega
theorem isB2 (a c : Int) (h1 : 194 ≤ a) (h2 : a ≤ 244) : isB [a, c] = inB [a] c := by
  rw [Bool.eq_iff_iff, inB1]
  simp only [isB, List.headD_cons, List.tail_cons, List.all_cons, List.all_nil, Bool.and_true, Bool.and_eq_true, Bool.or_eq_true, decide_eq_true_eq, List.length_cons, List.length_nil, furR]
  rcases size_cases a with ⟨h, e⟩ | ⟨h, h2, e⟩ | ⟨h, h2, e⟩ | ⟨h, h2, e⟩ | ⟨h, e⟩
  · omega
  · simp only [e, show (2 : Int).toNat = 2 from rfl, value22, spanR]; simp [Hits]; (repeat' split) <;> omega
  · simp only [e, show (3 : Int).toNat = 3 from rfl, value23, spanR]; simp [Hits]; (repeat' split) <;> omega
  · simp only [e, show (4 : Int).toNat = 4 from rfl, value24, spanR]; simp [Hits]; (repeat' split) <;> omega
  · omega
theorem isB3 (a b c : Int) (h : Wf [a, b]) : isB [a, b, c] = inB [a, b] c := by
  cases h with
  | two _ _ h1 h2 h3 h4 h5 h6 h7 h8 =>
    rw [Bool.eq_iff_iff, inB2]
    simp only [isB, List.headD_cons, List.tail_cons, List.all_cons, List.all_nil, Bool.and_true, Bool.and_eq_true, Bool.or_eq_true, decide_eq_true_eq, List.length_cons, List.length_nil, furR]
    rcases size_cases a with ⟨h, e⟩ | ⟨h, h2, e⟩ | ⟨h, h2, e⟩ | ⟨h, h2, e⟩ | ⟨h, e⟩
    · omega
    · omega
    · simp only [e, show (3 : Int).toNat = 3 from rfl, value33, spanR]; simp [Hits]; omega
    · simp only [e, show (4 : Int).toNat = 4 from rfl, value34, spanR]; simp [Hits]; omega
    · omega
theorem isB4 (a b d c : Int) (h : Wf [a, b, d]) : isB [a, b, d, c] = inB [a, b, d] c := by
  cases h with
  | three _ _ _ h1 h2 h3 h4 h5 h6 h7 h8 =>
    rw [Bool.eq_iff_iff, inB3]
    simp only [isB, List.headD_cons, List.tail_cons, List.all_cons, List.all_nil, Bool.and_true, Bool.and_eq_true, Bool.or_eq_true, decide_eq_true_eq, List.length_cons, List.length_nil, furR]
    rcases size_cases a with ⟨h, e⟩ | ⟨h, h2, e⟩ | ⟨h, h2, e⟩ | ⟨h, h2, e⟩ | ⟨h, e⟩
    · omega
    · omega
    · omega
    · simp only [e, show (4 : Int).toNat = 4 from rfl, value44, spanR]; simp [Hits]; omega
    · omega
theorem sizeR_need (a : Int) (h1 : 194 ≤ a) (h2 : a ≤ 244) : sizeR a = needOf a := by
  rcases size_cases a with ⟨h, e⟩ | ⟨h, h2, e⟩ | ⟨h, h2, e⟩ | ⟨h, h2, e⟩ | ⟨h, e⟩
  · omega
  · rw [e, needOf, if_pos h2]
  · rw [e, needOf, if_neg (by omega), if_pos h2]
  · rw [e, needOf, if_neg (by omega), if_neg (by omega)]
  · omega
theorem need_le (a : Int) : 2 ≤ needOf a ∧ needOf a ≤ 4 := by unfold needOf; (repeat' split) <;> omega
theorem rune_R2 (a b : Int) (ha : 194 ≤ a) (ha2 : a < 224) (hb : 128 ≤ b) (hb2 : b ≤ 191) : runeR [a, b] = runeOf [a, b] := by
  have e : runeR [a, b] = valueR [a, b] 2 := rfl
  rw [e, value22, rune2]; omega
theorem rune_R3 (a b c : Int) (ha : 224 ≤ a) (ha2 : a < 240) (hb : 128 ≤ b) (hb2 : b ≤ 191) (hc : 128 ≤ c) (hc2 : c ≤ 191) : runeR [a, b, c] = runeOf [a, b, c] := by
  have e : runeR [a, b, c] = valueR [a, b, c] 3 := rfl
  rw [e, value33, rune3]; omega
theorem rune_R4 (a b c d : Int) (ha : 240 ≤ a) (ha2 : a ≤ 244) (hb : 128 ≤ b) (hb2 : b ≤ 191) (hc : 128 ≤ c) (hc2 : c ≤ 191) (hd : 128 ≤ d) (hd2 : d ≤ 191) : runeR [a, b, c, d] = runeOf [a, b, c, d] := by
  have e : runeR [a, b, c, d] = valueR [a, b, c, d] 4 := rfl
  rw [e, value44, rune4]; omega

theorem ref_nil (c : Int) (hc : Byte c) : refS [] c = stepS [] c ∧ refO [] c = stepO [] c := by
  simp only [refS, refO, List.nil_append, isB1 c hc, wholeB1 c hc, if_true, stepS, stepO, true_or, beginS, beginO]
  unfold Byte at hc
  by_cases h1 : c < 128
  · simp [h1, runeR]; omega
  · by_cases h2 : 194 ≤ c ∧ c ≤ 244
    · simp [h1, h2]
    · simp [h1, h2]
/-- The program's decoder and the reference do the same. -/
theorem ref_step (s : List Int) (c : Int) (h : Wf s) (hc : Byte c) : refS s c = stepS s c ∧ refO s c = stepO s c := by
  have hn := ref_nil c hc
  have key : ∀ (s : List Int), s ≠ [] → isB (s ++ [c]) = inB s c → (inB s c = true → (wholeB (s ++ [c]) = true ↔ ¬ 1 < moreOf s) ∧ (¬ 1 < moreOf s → runeR (s ++ [c]) = runeOf (s ++ [c]))) → refS s c = stepS s c ∧ refO s c = stepO s c := by
    intro s hs h1 h2
    have hs1 : refS s c = if isB (s ++ [c]) && wholeB (s ++ [c]) then [] else if isB (s ++ [c]) then s ++ [c] else refS [] c := by simp [refS, hs]
    have hs2 : refO s c = if isB (s ++ [c]) && wholeB (s ++ [c]) then [runeR (s ++ [c])] else if isB (s ++ [c]) then [] else 65533 :: refO [] c := by simp [refO, hs]
    rw [hs1, hs2, h1, hn.1, hn.2]
    cases hb : inB s c with
    | false => simp [stepS, stepO, hb, hs]
    | true =>
      obtain ⟨h3, h4⟩ := h2 hb
      by_cases hm : 1 < moreOf s
      · have : wholeB (s ++ [c]) = false := by
          cases hw : wholeB (s ++ [c]) with
          | false => rfl
          | true => exact absurd hm (h3.1 hw)
        simp [this, stepS, stepO, hb, hs, hm]
      · have : wholeB (s ++ [c]) = true := h3.2 hm
        simp [this, stepS, stepO, hb, hs, hm, h4 hm]
  cases h with
  | nil => exact hn
  | one a h1 h2 =>
    refine key [a] (by simp) (isB2 a c h1 h2) fun hb => ?_
    have hin := inB1.1 hb
    have hl : 128 ≤ c ∧ c ≤ 191 := by split at hin <;> (try split at hin) <;> (try split at hin) <;> (try split at hin) <;> omega
    have hz := sizeR_need a h1 h2
    have hw : wholeB [a, c] = true ↔ ¬ 1 < moreOf [a] := by
      simp only [wholeB, isB2 a c h1 h2, hb, Bool.true_and, decide_eq_true_eq, List.headD_cons, hz, moreOf, List.length_cons, List.length_nil]
      have := need_le a
      omega
    refine ⟨hw, fun hm => ?_⟩
    have ha : a < 224 := by
      simp [moreOf, needOf] at hm
      split at hm <;> (try split at hm) <;> omega
    exact rune_R2 a c h1 ha hl.1 hl.2
  | two a b h1 h2 h3 h4 h5 h6 h7 h8 =>
    have hwf : Wf [a, b] := .two a b h1 h2 h3 h4 h5 h6 h7 h8
    refine key [a, b] (by simp) (isB3 a b c hwf) fun hb => ?_
    have hl := inB2.1 hb
    have hz := sizeR_need a (by omega) h2
    have hw : wholeB [a, b, c] = true ↔ ¬ 1 < moreOf [a, b] := by
      simp only [wholeB, isB3 a b c hwf, hb, Bool.true_and, decide_eq_true_eq, List.headD_cons, hz, moreOf, List.length_cons, List.length_nil]
      have := need_le a
      have : needOf a ≠ 2 := by unfold needOf; (repeat' split) <;> omega
      omega
    refine ⟨hw, fun hm => ?_⟩
    have ha : a < 240 := by
      simp [moreOf, needOf] at hm
      split at hm <;> (try split at hm) <;> omega
    exact rune_R3 a b c h1 ha h3 h4 hl.1 hl.2
  | three a b d h1 h2 h3 h4 h5 h6 h7 h8 =>
    have hwf : Wf [a, b, d] := .three a b d h1 h2 h3 h4 h5 h6 h7 h8
    refine key [a, b, d] (by simp) (isB4 a b d c hwf) fun hb => ?_
    have hl := inB3.1 hb
    have hz := sizeR_need a (by omega) h2
    have hn4 : needOf a = 4 := by unfold needOf; rw [if_neg (by omega), if_neg (by omega)]
    have hw : wholeB [a, b, d, c] = true ↔ ¬ 1 < moreOf [a, b, d] := by
      simp only [wholeB, isB4 a b d c hwf, hb, Bool.true_and, decide_eq_true_eq, List.headD_cons, hz, moreOf, List.length_cons, List.length_nil, hn4]
      omega
    exact ⟨hw, fun hm => rune_R4 a b d c h1 h2 h3 h4 h7 h8 hl.1 hl.2⟩

end Go.Proofs.Ytpkkfcfkhiaggaa
