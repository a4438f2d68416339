/- parser: what the program and the reference compute, step by step, as plain functions, and that they agree. -/
import Derived.Test.YtpkkfcfkhiaggaaUPlain
import Derived.Test.YtpkkfcfkhiaggaaMJ
set_option linter.unusedSimpArgs false
set_option linter.unusedVariables false
set_option linter.unnecessarySimpa false
namespace Go.Proofs.Ytpkkfcfkhiaggaa
open Go.Proofs.Ytpkkfcfkhiaggaa.Pm (fineR addB addO bldQ refL)

/-- An action. -/
structure Ac where
  k : Int
  r : Int
  p : Int
  i : List Int
  l : List Int
  t : List Int
def prA (r : Int) : Ac := ⟨1, r, 0, [], [], []⟩
def exA (r : Int) : Ac := ⟨2, r, 0, [], [], []⟩
def esA (i : List Int) (r : Int) : Ac := ⟨3, r, 0, i, [], []⟩
def coA (p : Int) (l i : List Int) (r : Int) : Ac := ⟨4, r, p, i, l, []⟩
def txA (t : List Int) : Ac := ⟨5, 0, 0, [], [], t⟩
/-- A parser: pending bytes, state, prefix, intermediates, parameters under way, text. -/
structure Ps where
  bs : List Int
  st : Int
  pf : Int
  it : List Int
  ws : List Int
  ov : Bool
  tx : List Int
def ps0 : Ps := ⟨[], 0, 0, [], [], false, []⟩
def ent (p : Ps) (s : Int) : Ps := ⟨p.bs, s, 0, [], [], false, []⟩
def col (p : Ps) (r : Int) : Ps := if p.it.length ≤ 2 then { p with it := p.it ++ enc1 r } else p
def strP (p : Ps) (r : Int) : Ps × List Ac :=
  if r = 7 then (ent p 0, [txA p.tx])
  else if r < 32 ∨ r = 127 ∨ validR r = false then (p, [])
  else if p.tx.length + (enc1 r).length ≤ 1024 then ({ p with tx := p.tx ++ enc1 r }, [])
  else (p, [])
def escP (p : Ps) (r : Int) : Ps × List Ac :=
  if 32 ≤ r ∧ r ≤ 47 then (col { p with st := 2 } r, [])
  else if ¬ (48 ≤ r ∧ r ≤ 126) then (ent p 0, [])
  else if 2 < p.it.length then (ent p 0, [])
  else if p.st = 1 ∧ r = 91 then (ent p 3, [])
  else if p.st = 1 ∧ r = 93 then (ent p 7, [])
  else if p.st = 1 ∧ (r = 80 ∨ r = 88 ∨ r = 94 ∨ r = 95) then (ent p 8, [])
  else (ent p 0, [esA p.it r])
def conP (p : Ps) (r : Int) : Ps × List Ac :=
  if ¬ (32 ≤ r ∧ r ≤ 126) then (ent p 0, [])
  else if 64 ≤ r then (if p.st = 6 ∨ 2 < p.it.length then (ent p 0, []) else (ent p 0, [coA p.pf p.ws p.it r]))
  else if p.st = 6 then (p, [])
  else if r ≤ 47 then (col { p with st := 5 } r, [])
  else if 60 ≤ r ∧ p.st = 3 then ({ p with st := 4, pf := r }, [])
  else if (p.st = 3 ∨ p.st = 4) ∧ fineR r = true then ({ p with st := 4, ws := addB p.ws p.ov r, ov := addO p.ws p.ov r }, [])
  else ({ p with st := 6 }, [])
/-- A step, but for the controls of two bytes as one rune. -/
def psOne (p : Ps) (r : Int) : Ps × List Ac :=
  if r = 27 then (ent p 1, if p.st = 7 then [txA p.tx] else [])
  else if r = 24 ∨ r = 26 then (ent p 0, [exA r])
  else if p.st = 7 then strP p r
  else if p.st = 8 then (p, [])
  else if r = 127 ∧ p.st ≠ 0 then (p, [])
  else if 0 ≤ r ∧ r < 32 then (p, [exA r])
  else if p.st = 1 ∨ p.st = 2 then escP p r
  else if p.st = 3 ∨ p.st = 4 ∨ p.st = 5 ∨ p.st = 6 then conP p r
  else if r = 127 ∨ validR r = false then (p, [])
  else (p, [prA r])
def psStep (p : Ps) (r : Int) : Ps × List Ac :=
  if 128 ≤ r ∧ r ≤ 159 then ((psOne (psOne p 27).1 (r - 64)).1, (psOne p 27).2 ++ (psOne (psOne p 27).1 (r - 64)).2) else psOne p r
/-- The reference's state: what is open (1 an escape sequence, 2 a control sequence, 3 a string, 4 something to skip), what was collected, pending bytes. -/
structure Rs where
  op : Nat
  sq : List Int
  d : List Int
def rs0 : Rs := ⟨0, [], []⟩
def rto (s : Rs) (o : Nat) : Rs := ⟨o, [], s.d⟩
def rand (s : Rs) (r : Int) : Rs := ⟨s.op, s.sq ++ enc1 r, s.d⟩
def isI (c : Int) : Bool := decide (32 ≤ c ∧ c ≤ 47)
def pfx (sq : List Int) : Int := if 60 ≤ sq.headD 0 ∧ sq.headD 0 ≤ 63 then sq.headD 0 else 0
def rst (sq : List Int) : List Int := if 60 ≤ sq.headD 0 ∧ sq.headD 0 ≤ 63 then sq.tail else sq
def digs (sq : List Int) : List Int := (rst sq).takeWhile fineR
def ints (sq : List Int) : List Int := (rst sq).dropWhile fineR
def isC (sq : List Int) : Bool := (ints sq).all isI
def nameC (sq : List Int) : Int := if sq = [] then 3 else if isC sq = false then 6 else if ints sq ≠ [] then 5 else 4
def parsL (ds : List Int) : List Int := if ds = [] then [] else refL ds
def escR (s : Rs) (r : Int) : Rs × List Ac :=
  if 32 ≤ r ∧ r < 48 then (rand s r, [])
  else if r < 48 ∨ 126 < r then (rto s 0, [])
  else if s.sq = [] ∧ r = 91 then (rto s 2, [])
  else if s.sq = [] ∧ r = 93 then (rto s 3, [])
  else if s.sq = [] ∧ (r = 80 ∨ r = 88 ∨ r = 94 ∨ r = 95) then (rto s 4, [])
  else if 2 < s.sq.length then (rto s 0, [])
  else (rto s 0, [esA s.sq r])
def conR (s : Rs) (r : Int) : Rs × List Ac :=
  if 32 ≤ r ∧ r < 64 then (rand s r, [])
  else if r < 64 ∨ 126 < r then (rto s 0, [])
  else if isC s.sq = false ∨ 2 < (ints s.sq).length then (rto s 0, [])
  else (rto s 0, [coA (pfx s.sq) (parsL (digs s.sq)) (ints s.sq) r])
def rsOne (s : Rs) (r : Int) : Rs × List Ac :=
  if r = 27 then (rto s 1, if s.op = 3 then [txA s.sq] else [])
  else if r = 24 ∨ r = 26 then (rto s 0, [exA r])
  else if s.op = 3 ∧ r = 7 then (rto s 0, [txA s.sq])
  else if s.op = 3 then (if r < 32 ∨ r = 127 ∨ validR r = false ∨ 1024 < s.sq.length + (enc1 r).length then (s, []) else (rand s r, []))
  else if s.op = 4 then (s, [])
  else if 0 ≤ r ∧ r < 32 then (s, [exA r])
  else if r = 127 then (s, [])
  else if s.op = 1 then escR s r
  else if s.op = 2 then conR s r
  else if validR r = false then (s, [])
  else (s, [prA r])
def rsStep (s : Rs) (r : Int) : Rs × List Ac :=
  if 128 ≤ r ∧ r < 160 then ((rsOne (rsOne s 27).1 (r - 64)).1, (rsOne s 27).2 ++ (rsOne (rsOne s 27).1 (r - 64)).2) else rsOne s r
/-! They agree. -/
structure SimC (p : Ps) (sq : List Int) : Prop where
  st : p.st = nameC sq
  tx : p.tx = []
  ok : p.st ≠ 6 → p.pf = pfx sq ∧ p.it = (ints sq).take 3 ∧ (p.ws, p.ov) = bldQ (digs sq)
def Sim (p : Ps) (s : Rs) : Prop := p.bs = s.d ∧
  ((s.op = 0 ∧ p.st = 0 ∧ p.tx = []) ∨ (s.op = 1 ∧ p.st = (if s.sq = [] then 1 else 2) ∧ p.it = s.sq.take 3 ∧ p.tx = []) ∨ (s.op = 2 ∧ SimC p s.sq) ∨ (s.op = 3 ∧ p.st = 7 ∧ p.tx = s.sq) ∨ (s.op = 4 ∧ p.st = 8 ∧ p.tx = []))
def nameR (s : Rs) : Int := if s.op = 1 then (if s.sq = [] then 1 else 2) else if s.op = 2 then nameC s.sq else if s.op = 3 then 7 else if s.op = 4 then 8 else 0
def textR (s : Rs) : List Int := if s.op = 3 then s.sq else []
theorem sim_start : Sim ps0 rs0 := ⟨rfl, .inl ⟨rfl, rfl, rfl⟩⟩
theorem Sim.name {p : Ps} {s : Rs} (h : Sim p s) : p.st = nameR s := by
  obtain ⟨_, h | h | h | h | h⟩ := h <;> simp [nameR, h.1]
  · exact h.2.1
  · exact h.2.1
  · exact h.2.st
  · exact h.2.1
  · exact h.2.1
theorem Sim.text {p : Ps} {s : Rs} (h : Sim p s) : p.tx = textR s := by
  obtain ⟨_, h | h | h | h | h⟩ := h <;> simp [textR, h.1]
  · exact h.2.2
  · exact h.2.2.2
  · exact h.2.tx
  · exact h.2.2
  · exact h.2.2
theorem nameC_three (sq : List Int) : nameC sq = 3 ↔ sq = [] := by
  unfold nameC; (repeat' split) <;> simp_all
theorem nameC_range (sq : List Int) : nameC sq = 3 ∨ nameC sq = 4 ∨ nameC sq = 5 ∨ nameC sq = 6 := by
  unfold nameC; (repeat' split) <;> simp
theorem Sim.ground {p : Ps} {s : Rs} (h : Sim p s) : p.st = 0 ↔ s.op = 0 := by
  obtain ⟨_, h | h | h | h | h⟩ := h
  · simp [h.1, h.2.1]
  · simp [h.1, h.2.1]; split <;> simp
  · have := nameC_range s.sq
    have h2 := h.2.st
    rw [h.1]; constructor <;> intro h3 <;> omega
  · simp [h.1, h.2.1]
  · simp [h.1, h.2.1]
theorem enc1_ascii (r : Int) (h : 0 ≤ r ∧ r < 128) : enc1 r = [r] := by
  unfold enc1 enc0 validR
  rw [if_pos (by simp; omega), if_pos h.2]
theorem ents_sim (p : Ps) (s : Rs) (h : p.bs = s.d) : Sim (ent p 0) (rto s 0) ∧ Sim (ent p 1) (rto s 1) ∧ Sim (ent p 3) (rto s 2) ∧ Sim (ent p 7) (rto s 3) ∧ Sim (ent p 8) (rto s 4) :=
  ⟨⟨h, .inl ⟨rfl, rfl, rfl⟩⟩, ⟨h, .inr (.inl ⟨rfl, rfl, rfl, rfl⟩)⟩, ⟨h, .inr (.inr (.inl ⟨rfl, rfl, rfl, fun _ => ⟨rfl, rfl, rfl⟩⟩))⟩, ⟨h, .inr (.inr (.inr (.inl ⟨rfl, rfl, rfl⟩)))⟩, ⟨h, .inr (.inr (.inr (.inr ⟨rfl, rfl, rfl⟩)))⟩⟩
theorem take_snoc {α : Type} (f : α → Bool) (l : List α) (r : α) : (l ++ [r]).takeWhile f = if l.all f = true ∧ f r = true then l ++ [r] else l.takeWhile f := by
  induction l with
  | nil => by_cases h : f r = true <;> simp [h]
  | cons a l ih =>
    by_cases ha : f a = true
    · simp only [List.cons_append, List.takeWhile_cons, ha, if_true, ih, List.all_cons, Bool.true_and]
      split <;> simp
    · simp [List.takeWhile_cons, ha]
theorem drop_snoc {α : Type} (f : α → Bool) (l : List α) (r : α) : (l ++ [r]).dropWhile f = if l.all f = true ∧ f r = true then [] else l.dropWhile f ++ [r] := by
  induction l with
  | nil => by_cases h : f r = true <;> simp [h]
  | cons a l ih =>
    by_cases ha : f a = true
    · simp only [List.cons_append, List.dropWhile_cons, ha, if_true, ih, List.all_cons, Bool.true_and]
    · simp [List.dropWhile_cons, ha]
theorem drop_nil {α : Type} (f : α → Bool) (l : List α) : l.dropWhile f = [] ↔ l.all f = true := by
  induction l with
  | nil => simp
  | cons a l ih =>
    by_cases ha : f a = true
    · simp only [List.dropWhile_cons, ha, if_true, ih, List.all_cons, Bool.true_and]
    · simp [List.dropWhile_cons, ha]
theorem take_all {α : Type} (f : α → Bool) (l : List α) (h : l.all f = true) : l.takeWhile f = l := by
  induction l with
  | nil => rfl
  | cons a l ih =>
    rw [List.all_cons, Bool.and_eq_true] at h
    rw [List.takeWhile_cons, if_pos h.1, ih h.2]
theorem pfx_snoc (sq : List Int) (r : Int) (h : sq ≠ [] ∨ ¬ (60 ≤ r ∧ r ≤ 63)) : pfx (sq ++ [r]) = pfx sq ∧ rst (sq ++ [r]) = rst sq ++ [r] := by
  cases sq with
  | nil =>
    have h : ¬ (60 ≤ r ∧ r ≤ 63) := by simpa using h
    constructor
    · simp [pfx, h]
    · simp [rst, h]
  | cons a l =>
    constructor
    · simp [pfx]
    · unfold rst
      by_cases ha : 60 ≤ a ∧ a ≤ 63
      · simp [ha]
      · simp [ha]
theorem fine_iff (r : Int) : fineR r = true ↔ r = 59 ∨ (48 ≤ r ∧ r ≤ 57) := by unfold fineR; rw [decide_eq_true_eq]
theorem isI_iff (r : Int) : isI r = true ↔ 32 ≤ r ∧ r ≤ 47 := by unfold isI; rw [decide_eq_true_eq]
/-- A rune that ends the digits, or comes behind them. -/
theorem ints_snoc (sq : List Int) (r : Int) (h : sq ≠ [] ∨ ¬ (60 ≤ r ∧ r ≤ 63)) (h2 : fineR r = false ∨ ints sq ≠ []) : ints (sq ++ [r]) = ints sq ++ [r] ∧ digs (sq ++ [r]) = digs sq := by
  unfold ints digs
  rw [(pfx_snoc sq r h).2, drop_snoc, take_snoc]
  have hn : ¬ ((rst sq).all fineR = true ∧ fineR r = true) := by
    rintro ⟨h3, h4⟩
    rcases h2 with h2 | h2
    · rw [h2] at h4; cases h4
    · exact h2 ((drop_nil _ _).2 h3)
  rw [if_neg hn, if_neg hn]
  exact ⟨rfl, rfl⟩
theorem digs_snoc (sq : List Int) (r : Int) (h : fineR r = true) (h2 : ints sq = []) : ints (sq ++ [r]) = [] ∧ digs (sq ++ [r]) = digs sq ++ [r] := by
  have hr := (fine_iff r).1 h
  have ha := (drop_nil _ _).1 h2
  unfold ints digs
  rw [(pfx_snoc sq r (.inr (by omega))).2, drop_snoc, take_snoc, if_pos ⟨ha, h⟩, if_pos ⟨ha, h⟩, take_all _ _ ha]
  exact ⟨rfl, rfl⟩
theorem isC_snoc {sq : List Int} {r : Int} (h : ints (sq ++ [r]) = ints sq ++ [r]) : isC (sq ++ [r]) = (isC sq && isI r) := by
  unfold isC; rw [h, List.all_append]; simp
theorem name_six (sq : List Int) : nameC sq = 6 ↔ isC sq = false := by
  unfold nameC
  (repeat' split) <;> simp_all [isC, ints, rst]
theorem isC_nil {sq : List Int} (h : ints sq = []) : isC sq = true := by unfold isC; rw [h]; rfl
theorem con_sim {p : Ps} {sq : List Int} {r : Int} (h : SimC p sq) (hr : 32 ≤ r ∧ r < 64) : SimC (conP p r).1 (sq ++ [r]) ∧ (conP p r).2 = [] := by
  obtain ⟨h1, h2, h3⟩ := h
  unfold conP
  rw [if_neg (by omega), if_neg (by omega)]
  have hne : sq ++ [r] ≠ [] := by simp
  by_cases h6 : p.st = 6
  · rw [if_pos h6]
    have hc := (name_six sq).1 (by rw [← h1, h6])
    have hi : ints sq ≠ [] := fun e => by rw [isC_nil e] at hc; cases hc
    have hs : sq ≠ [] := fun e => by subst e; exact hi rfl
    have hx := ints_snoc sq r (.inl hs) (.inr hi)
    refine ⟨⟨?_, h2, fun h => absurd h6 h⟩, rfl⟩
    rw [h6]; symm
    rw [name_six, isC_snoc hx.1, hc]; rfl
  rw [if_neg h6]
  obtain ⟨h4, h5, h7⟩ := h3 h6
  have hc : isC sq = true := by
    cases hq : isC sq with
    | true => rfl
    | false => exact absurd (h1.trans ((name_six sq).2 hq)) h6
  by_cases hi : r ≤ 47
  · rw [if_pos hi]
    have hf : fineR r = false := by
      cases hq : fineR r with
      | false => rfl
      | true => have := (fine_iff r).1 hq; omega
    have hx := ints_snoc sq r (.inr (by omega)) (.inl hf)
    have hp := pfx_snoc sq r (.inr (by omega))
    have hII : isI r = true := (isI_iff r).2 (by omega)
    have hnm : nameC (sq ++ [r]) = 5 := by
      unfold nameC
      rw [if_neg hne, if_neg (by rw [isC_snoc hx.1, hc, hII]; decide), if_pos (by rw [hx.1]; simp)]
    have he := enc1_ascii r (by omega)
    refine ⟨?_, rfl⟩
    unfold col
    dsimp only
    have hlen : p.it.length = min 3 (ints sq).length := by rw [h5, List.length_take]
    split
    · next hl =>
      refine ⟨by rw [hnm], h2, fun _ => ⟨by rw [hp.1]; exact h4, ?_, by rw [hx.2]; exact h7⟩⟩
      show p.it ++ enc1 r = _
      rw [he, hx.1, h5, List.take_of_length_le (by omega), List.take_of_length_le (by simp; omega)]
    · next hl =>
      refine ⟨by rw [hnm], h2, fun _ => ⟨by rw [hp.1]; exact h4, ?_, by rw [hx.2]; exact h7⟩⟩
      show p.it = _
      rw [h5, hx.1, List.take_append_of_le_length (by omega)]
  rw [if_neg hi]
  by_cases h60 : 60 ≤ r ∧ p.st = 3
  · rw [if_pos h60]
    have hs := (nameC_three sq).1 (by rw [← h1]; exact h60.2)
    subst hs
    have e1 : pfx [r] = r := by simp [pfx]; omega
    have e2 : rst [r] = [] := by simp [rst]; omega
    have e3 : ints [r] = [] := by simp [ints, e2]
    have e4 : digs [r] = [] := by simp [digs, e2]
    refine ⟨⟨?_, h2, fun _ => ⟨e1.symm, ?_, ?_⟩⟩, rfl⟩
    · show (4 : Int) = nameC [r]
      unfold nameC
      rw [if_neg (by simp), if_neg (by rw [isC_nil e3]; decide), if_neg (by rw [e3]; simp)]
    · show p.it = List.take 3 (ints [r])
      rw [e3]; exact h5
    · show (p.ws, p.ov) = bldQ (digs [r])
      rw [e4]; exact h7
  rw [if_neg h60]
  by_cases hd : (p.st = 3 ∨ p.st = 4) ∧ fineR r = true
  · rw [if_pos hd]
    have hin : ints sq = [] := by
      cases hq : ints sq with
      | nil => rfl
      | cons a l =>
        exfalso
        have hs : sq ≠ [] := fun e => by subst e; simp [ints, rst] at hq
        have : nameC sq = 5 := by
          unfold nameC
          rw [if_neg hs, if_neg (by rw [hc]; decide), if_pos (by rw [hq]; simp)]
        have := h1.trans this
        omega
    obtain ⟨x1, x2⟩ := digs_snoc sq r hd.2 hin
    have hr2 := (fine_iff r).1 hd.2
    have hp := pfx_snoc sq r (.inr (by omega))
    refine ⟨⟨?_, h2, fun _ => ⟨by rw [hp.1]; exact h4, ?_, ?_⟩⟩, rfl⟩
    · show (4 : Int) = _
      unfold nameC
      rw [if_neg hne, if_neg (by rw [isC_nil x1]; decide), if_neg (by rw [x1]; simp)]
    · show p.it = _
      rw [x1, h5, hin]
    · show (addB p.ws p.ov r, addO p.ws p.ov r) = _
      rw [x2, Pm.bldQ_snoc, ← h7]; rfl
  rw [if_neg hd]
  -- the state is one that ignores
  have hsix : isC (sq ++ [r]) = false := by
    by_cases hf : fineR r = true
    · have hin : ints sq ≠ [] := by
        intro e
        have : nameC sq = 3 ∨ nameC sq = 4 := by
          unfold nameC
          by_cases hs : sq = []
          · rw [if_pos hs]; exact .inl rfl
          · rw [if_neg hs, if_neg (by rw [hc]; decide), if_neg (by rw [e]; simp)]; exact .inr rfl
        exact hd ⟨by rw [h1]; exact this, hf⟩
      have hr2 := (fine_iff r).1 hf
      have hx := ints_snoc sq r (.inr (by omega)) (.inr hin)
      rw [isC_snoc hx.1]
      have : isI r = false := by
        cases hq : isI r with
        | false => rfl
        | true => have := (isI_iff r).1 hq; omega
      rw [this, Bool.and_false]
    · have hs : sq ≠ [] ∨ ¬ (60 ≤ r ∧ r ≤ 63) := by
        by_cases h63 : 60 ≤ r ∧ r ≤ 63
        · left
          intro e
          exact h60 ⟨h63.1, h1.trans ((nameC_three sq).2 e)⟩
        · exact .inr h63
      have hx := ints_snoc sq r hs (.inl (by simpa using hf))
      rw [isC_snoc hx.1]
      have : isI r = false := by
        cases hq : isI r with
        | false => rfl
        | true => have := (isI_iff r).1 hq; omega
      rw [this, Bool.and_false]
  exact ⟨⟨((name_six _).2 hsix).symm, h2, fun h => absurd rfl h⟩, rfl⟩
theorem takeWhile_all {α : Type} (f : α → Bool) (l : List α) : ∀ x ∈ l.takeWhile f, f x = true := by
  induction l with
  | nil => simp
  | cons a l ih =>
    intro x hx
    rw [List.takeWhile_cons] at hx
    split at hx
    · rcases List.mem_cons.1 hx with rfl | hx
      · assumption
      · exact ih x hx
    · simp at hx
theorem parsL_eq (sq : List Int) : (bldQ (digs sq)).1 = parsL (digs sq) := by
  unfold parsL
  split
  · next h => rw [h]; rfl
  · next h => exact Pm.bld_ref _ (fun c hc => takeWhile_all _ _ c hc) h
/-- A step, but for the controls of two bytes as one rune. -/
theorem one_sim {p : Ps} {s : Rs} (r : Int) (h : Sim p s) (hr : ¬ (128 ≤ r ∧ r < 160)) : Sim (psOne p r).1 (rsOne s r).1 ∧ (psOne p r).2 = (rsOne s r).2 := by
  have hsim := h
  obtain ⟨hb, h⟩ := h
  obtain ⟨e0, e1, e3, e7, e8⟩ := ents_sim p s hb
  unfold psOne rsOne
  by_cases h27 : r = 27
  · rw [if_pos h27, if_pos h27]
    refine ⟨e1, ?_⟩
    rcases h with h | h | h | h | h
    · simp [h.1, h.2.1]
    · simp [h.1, h.2.1]; split <;> simp
    · have := nameC_range s.sq
      have h2 := h.2.st
      rw [if_neg (by omega), if_neg (by rw [h.1]; decide)]
    · simp [h.1, h.2.1, h.2.2]
    · simp [h.1, h.2.1]
  rw [if_neg h27, if_neg h27]
  by_cases h24 : r = 24 ∨ r = 26
  · rw [if_pos h24, if_pos h24]; exact ⟨e0, rfl⟩
  rw [if_neg h24, if_neg h24]
  rcases h with ⟨ho, hs, ht⟩ | ⟨ho, hs, hi, ht⟩ | ⟨ho, hc⟩ | ⟨ho, hs, ht⟩ | ⟨ho, hs, ht⟩
  · -- nothing is open
    rw [if_neg (show ¬ p.st = 7 by rw [hs]; decide), if_neg (show ¬ p.st = 8 by rw [hs]; decide), if_neg (show ¬ (r = 127 ∧ p.st ≠ 0) by rw [hs]; simp), if_neg (show ¬ (s.op = 3 ∧ r = 7) by rw [ho]; simp), if_neg (show ¬ s.op = 3 by rw [ho]; decide), if_neg (show ¬ s.op = 4 by rw [ho]; decide)]
    by_cases h32 : 0 ≤ r ∧ r < 32
    · rw [if_pos h32, if_pos h32]; exact ⟨hsim, rfl⟩
    rw [if_neg h32, if_neg h32, if_neg (show ¬ (p.st = 1 ∨ p.st = 2) by rw [hs]; decide), if_neg (show ¬ (p.st = 3 ∨ p.st = 4 ∨ p.st = 5 ∨ p.st = 6) by rw [hs]; decide), if_neg (show ¬ s.op = 1 by rw [ho]; decide), if_neg (show ¬ s.op = 2 by rw [ho]; decide)]
    by_cases h127 : r = 127
    · rw [if_pos (.inl h127), if_pos h127]; exact ⟨hsim, rfl⟩
    rw [if_neg h127]
    by_cases hv : validR r = false
    · rw [if_pos (.inr hv), if_pos hv]; exact ⟨hsim, rfl⟩
    · rw [if_neg (by rintro (h | h); exact h127 h; exact hv h), if_neg hv]; exact ⟨hsim, rfl⟩
  · -- an escape sequence
    have hs12 : p.st = 1 ∨ p.st = 2 := by rw [hs]; split; exact .inl rfl; exact .inr rfl
    rw [if_neg (show ¬ p.st = 7 by omega), if_neg (show ¬ p.st = 8 by omega), if_neg (show ¬ (s.op = 3 ∧ r = 7) by rw [ho]; simp), if_neg (show ¬ s.op = 3 by rw [ho]; decide), if_neg (show ¬ s.op = 4 by rw [ho]; decide)]
    by_cases h127 : r = 127
    · rw [if_pos (show r = 127 ∧ p.st ≠ 0 from ⟨h127, by omega⟩), if_neg (show ¬ (0 ≤ r ∧ r < 32) by omega), if_pos h127]; exact ⟨hsim, rfl⟩
    rw [if_neg (show ¬ (r = 127 ∧ p.st ≠ 0) from fun h => h127 h.1)]
    by_cases h32 : 0 ≤ r ∧ r < 32
    · rw [if_pos h32, if_pos h32]; exact ⟨hsim, rfl⟩
    rw [if_neg h32, if_neg h32, if_neg h127, if_pos hs12, if_pos ho]
    unfold escP escR
    have hlen : p.it.length = min 3 s.sq.length := by rw [hi, List.length_take]
    by_cases hin : 32 ≤ r ∧ r < 48
    · rw [if_pos (show 32 ≤ r ∧ r ≤ 47 by omega), if_pos hin]
      refine ⟨⟨?_, .inr (.inl ⟨ho, ?_, ?_, ?_⟩)⟩, rfl⟩
      · unfold col; split <;> exact hb
      · show _ = if s.sq ++ enc1 r = [] then (1 : Int) else 2
        rw [enc1_ascii r (by omega), if_neg (by simp)]
        unfold col; split <;> rfl
      · show _ = List.take 3 (s.sq ++ enc1 r)
        rw [enc1_ascii r (by omega)]
        unfold col
        dsimp only
        rw [enc1_ascii r (by omega)]
        split
        · next hl => show p.it ++ [r] = _; rw [hi, List.take_of_length_le (by omega), List.take_of_length_le (by simp; omega)]
        · next hl => show p.it = _; rw [hi, List.take_append_of_le_length (by omega)]
      · unfold col; split <;> exact ht
    rw [if_neg (show ¬ (32 ≤ r ∧ r ≤ 47) by omega), if_neg hin]
    by_cases hout : r < 48 ∨ 126 < r
    · rw [if_pos (show ¬ (48 ≤ r ∧ r ≤ 126) by omega), if_pos hout]; exact ⟨e0, rfl⟩
    rw [if_neg (show ¬ ¬ (48 ≤ r ∧ r ≤ 126) by omega), if_neg hout]
    by_cases hnil : s.sq = []
    · have hs1 : p.st = 1 := by rw [hs, if_pos hnil]
      have hl0 : p.it = [] := by rw [hi, hnil]; rfl
      rw [if_neg (show ¬ 2 < p.it.length by rw [hl0]; simp)]
      simp only [hs1, hnil, true_and]
      by_cases h91 : r = 91
      · rw [if_pos h91, if_pos h91]; exact ⟨e3, rfl⟩
      rw [if_neg h91, if_neg h91]
      by_cases h93 : r = 93
      · rw [if_pos h93, if_pos h93]; exact ⟨e7, rfl⟩
      rw [if_neg h93, if_neg h93]
      by_cases hsk : r = 80 ∨ r = 88 ∨ r = 94 ∨ r = 95
      · rw [if_pos hsk, if_pos hsk]; exact ⟨e8, rfl⟩
      rw [if_neg hsk, if_neg hsk, if_neg (show ¬ 2 < ([] : List Int).length by simp), hl0]
      exact ⟨e0, rfl⟩
    · have hs2 : p.st = 2 := by rw [hs, if_neg hnil]
      simp only [hs2, hnil, false_and, if_false, show ((2 : Int) = 1) = False by simp]
      by_cases h2 : 2 < s.sq.length
      · rw [if_pos (show 2 < p.it.length by omega), if_pos h2]; exact ⟨e0, rfl⟩
      · rw [if_neg (show ¬ 2 < p.it.length by omega), if_neg h2, hi, List.take_of_length_le (by omega)]; exact ⟨e0, rfl⟩
  · -- a control sequence
    have hr3 := nameC_range s.sq
    have hst := hc.st
    rw [if_neg (show ¬ p.st = 7 by omega), if_neg (show ¬ p.st = 8 by omega), if_neg (show ¬ (s.op = 3 ∧ r = 7) by rw [ho]; simp), if_neg (show ¬ s.op = 3 by rw [ho]; decide), if_neg (show ¬ s.op = 4 by rw [ho]; decide)]
    by_cases h127 : r = 127
    · rw [if_pos (show r = 127 ∧ p.st ≠ 0 from ⟨h127, by omega⟩), if_neg (show ¬ (0 ≤ r ∧ r < 32) by omega), if_pos h127]; exact ⟨hsim, rfl⟩
    rw [if_neg (show ¬ (r = 127 ∧ p.st ≠ 0) from fun h => h127 h.1)]
    by_cases h32 : 0 ≤ r ∧ r < 32
    · rw [if_pos h32, if_pos h32]; exact ⟨hsim, rfl⟩
    rw [if_neg h32, if_neg h32, if_neg h127, if_neg (show ¬ (p.st = 1 ∨ p.st = 2) by omega), if_pos (show p.st = 3 ∨ p.st = 4 ∨ p.st = 5 ∨ p.st = 6 by omega), if_neg (show ¬ s.op = 1 by rw [ho]; decide), if_pos ho]
    by_cases hin : 32 ≤ r ∧ r < 64
    · have hcs := con_sim hc hin
      have hbb : (conP p r).1.bs = p.bs := by
        unfold conP col
        dsimp only
        (repeat' split) <;> rfl
      unfold conR
      rw [if_pos hin]
      refine ⟨⟨hbb.trans hb, .inr (.inr (.inl ⟨ho, ?_⟩))⟩, hcs.2⟩
      show SimC _ (s.sq ++ enc1 r)
      rw [enc1_ascii r (by omega)]
      exact hcs.1
    unfold conP conR
    rw [if_neg hin]
    by_cases hout : r < 64 ∨ 126 < r
    · rw [if_pos (show ¬ (32 ≤ r ∧ r ≤ 126) by omega), if_pos hout]; exact ⟨e0, rfl⟩
    rw [if_neg (show ¬ ¬ (32 ≤ r ∧ r ≤ 126) by omega), if_neg hout, if_pos (show 64 ≤ r by omega)]
    by_cases h6 : p.st = 6
    · have hcf := (name_six s.sq).1 (by rw [← hst, h6])
      rw [if_pos (show p.st = 6 ∨ 2 < p.it.length from .inl h6), if_pos (show isC s.sq = false ∨ 2 < (ints s.sq).length from .inl hcf)]; exact ⟨e0, rfl⟩
    obtain ⟨h4, h5, h7⟩ := hc.ok h6
    have hct : ¬ isC s.sq = false := fun hq => h6 (hst.trans ((name_six _).2 hq))
    have hlen : p.it.length = min 3 (ints s.sq).length := by rw [h5, List.length_take]
    by_cases h2 : 2 < (ints s.sq).length
    · rw [if_pos (show p.st = 6 ∨ 2 < p.it.length from .inr (by omega)), if_pos (show isC s.sq = false ∨ 2 < (ints s.sq).length from .inr h2)]; exact ⟨e0, rfl⟩
    · rw [if_neg (show ¬ (p.st = 6 ∨ 2 < p.it.length) by omega), if_neg (show ¬ (isC s.sq = false ∨ 2 < (ints s.sq).length) by rintro (h | h); exact hct h; exact h2 h)]
      refine ⟨e0, ?_⟩
      have hws : p.ws = (bldQ (digs s.sq)).1 := by rw [← h7]
      rw [h4, h5, List.take_of_length_le (by omega), hws, parsL_eq]
  · -- a string
    rw [if_pos hs]
    unfold strP
    by_cases h7 : r = 7
    · rw [if_pos h7, if_pos ⟨ho, h7⟩, ht]; exact ⟨e0, rfl⟩
    rw [if_neg h7, if_neg (show ¬ (s.op = 3 ∧ r = 7) from fun h => h7 h.2), if_pos ho]
    by_cases hbad : r < 32 ∨ r = 127 ∨ validR r = false
    · rw [if_pos hbad, if_pos (show r < 32 ∨ r = 127 ∨ validR r = false ∨ 1024 < s.sq.length + (enc1 r).length by rcases hbad with h | h | h; exact .inl h; exact .inr (.inl h); exact .inr (.inr (.inl h)))]; exact ⟨hsim, rfl⟩
    rw [if_neg hbad]
    by_cases hlong : p.tx.length + (enc1 r).length ≤ 1024
    · rw [if_pos hlong, if_neg (show ¬ (r < 32 ∨ r = 127 ∨ validR r = false ∨ 1024 < s.sq.length + (enc1 r).length) by rw [← ht]; rintro (h | h | h | h); exact hbad (.inl h); exact hbad (.inr (.inl h)); exact hbad (.inr (.inr h)); omega)]
      refine ⟨⟨hb, .inr (.inr (.inr (.inl ⟨ho, hs, ?_⟩)))⟩, rfl⟩
      show p.tx ++ enc1 r = s.sq ++ enc1 r
      rw [ht]
    · rw [if_neg hlong, if_pos (show r < 32 ∨ r = 127 ∨ validR r = false ∨ 1024 < s.sq.length + (enc1 r).length by rw [← ht]; exact .inr (.inr (.inr (by omega))))]
      exact ⟨hsim, rfl⟩
  · -- something to skip
    rw [if_neg (show ¬ p.st = 7 by omega), if_pos hs, if_neg (show ¬ (s.op = 3 ∧ r = 7) by rw [ho]; simp), if_neg (show ¬ s.op = 3 by rw [ho]; decide), if_pos ho]
    exact ⟨hsim, rfl⟩
theorem step_sim {p : Ps} {s : Rs} (r : Int) (h : Sim p s) : Sim (psStep p r).1 (rsStep s r).1 ∧ (psStep p r).2 = (rsStep s r).2 := by
  unfold psStep rsStep
  by_cases hr : 128 ≤ r ∧ r < 160
  · rw [if_pos (by omega), if_pos hr]
    have h1 := one_sim 27 h (by omega)
    have h2 := one_sim (r - 64) h1.1 (by omega)
    exact ⟨h2.1, by rw [h1.2, h2.2]⟩
  · rw [if_neg (by omega), if_neg hr]
    exact one_sim r h hr
/-! Many steps. -/
def psRun : Ps → List Int → Ps × List Ac
  | p, [] => (p, [])
  | p, r :: rs => ((psRun (psStep p r).1 rs).1, (psStep p r).2 ++ (psRun (psStep p r).1 rs).2)
def rsRun : Rs → List Int → Rs × List Ac
  | p, [] => (p, [])
  | p, r :: rs => ((rsRun (rsStep p r).1 rs).1, (rsStep p r).2 ++ (rsRun (rsStep p r).1 rs).2)
theorem psRun_snoc (p : Ps) (l : List Int) (r : Int) : psRun p (l ++ [r]) = ((psStep (psRun p l).1 r).1, (psRun p l).2 ++ (psStep (psRun p l).1 r).2) := by
  induction l generalizing p with
  | nil => simp [psRun]
  | cons a l ih => simp only [List.cons_append, psRun, ih]; simp
theorem rsRun_snoc (p : Rs) (l : List Int) (r : Int) : rsRun p (l ++ [r]) = ((rsStep (rsRun p l).1 r).1, (rsRun p l).2 ++ (rsStep (rsRun p l).1 r).2) := by
  induction l generalizing p with
  | nil => simp [rsRun]
  | cons a l ih => simp only [List.cons_append, rsRun, ih]; simp
theorem psRun_append (p : Ps) (l m : List Int) : psRun p (l ++ m) = ((psRun (psRun p l).1 m).1, (psRun p l).2 ++ (psRun (psRun p l).1 m).2) := by
  induction l generalizing p with
  | nil => simp [psRun]
  | cons a l ih => simp only [List.cons_append, psRun, ih]; simp
theorem run_sim {p : Ps} {s : Rs} (l : List Int) (h : Sim p s) : Sim (psRun p l).1 (rsRun s l).1 ∧ (psRun p l).2 = (rsRun s l).2 := by
  induction l generalizing p s with
  | nil => exact ⟨h, rfl⟩
  | cons a l ih =>
    have h1 := step_sim a h
    have h2 := ih h1.1
    exact ⟨h2.1, by simp only [psRun, rsRun, h1.2, h2.2]⟩
def Ps.feed (p : Ps) (x : List Int) : Ps := ⟨x, p.st, p.pf, p.it, p.ws, p.ov, p.tx⟩
def psWrite (p : Ps) (b : List Int) : Ps × List Ac := psRun (p.feed (feedS p.bs b)) (feedO p.bs b)
def rsWrite (s : Rs) (b : List Int) : Rs × List Ac := rsRun ⟨s.op, s.sq, feedS s.d b⟩ (feedO s.d b)
theorem write_sim {p : Ps} {s : Rs} (b : List Int) (h : Sim p s) : Sim (psWrite p b).1 (rsWrite s b).1 ∧ (psWrite p b).2 = (rsWrite s b).2 := by
  have hb := h.1
  unfold psWrite rsWrite
  rw [hb]
  refine run_sim _ ⟨rfl, ?_⟩
  rcases h.2 with h | h | h | h | h
  · exact .inl h
  · exact .inr (.inl h)
  · exact .inr (.inr (.inl ⟨h.1, h.2.st, h.2.tx, h.2.ok⟩))
  · exact .inr (.inr (.inr (.inl h)))
  · exact .inr (.inr (.inr (.inr h)))
/-! The pending bytes do not matter to a step. -/
def fdQ (x : List Int) (q : Ps × List Ac) : Ps × List Ac := (q.1.feed x, q.2)
theorem col_feed (p : Ps) (x : List Int) (r : Int) : col (p.feed x) r = (col p r).feed x := by
  unfold col
  by_cases h : p.it.length ≤ 2
  · rw [if_pos h, if_pos (show (p.feed x).it.length ≤ 2 from h)]; rfl
  · rw [if_neg h, if_neg (show ¬ (p.feed x).it.length ≤ 2 from h)]
theorem col_feed2 (p : Ps) (x : List Int) (s r : Int) : col { p.feed x with st := s } r = (col { p with st := s } r).feed x := col_feed { p with st := s } x r
theorem one_feed (p : Ps) (x : List Int) (r : Int) : psOne (p.feed x) r = ((psOne p r).1.feed x, (psOne p r).2) := by
  show _ = fdQ x (psOne p r)
  unfold psOne strP escP conP
  simp only [apply_ite (fdQ x), col_feed2]
  rfl
theorem step_feed (p : Ps) (x : List Int) (r : Int) : psStep (p.feed x) r = ((psStep p r).1.feed x, (psStep p r).2) := by
  unfold psStep
  split
  · simp only [one_feed]
  · exact one_feed p x r
theorem run_feed (p : Ps) (x : List Int) (l : List Int) : psRun (p.feed x) l = ((psRun p l).1.feed x, (psRun p l).2) := by
  induction l generalizing p with
  | nil => rfl
  | cons a l ih => simp only [psRun, step_feed, ih]
theorem one_bs (p : Ps) (r : Int) : (psOne p r).1.bs = p.bs := by
  have h := one_feed p p.bs r
  rw [show p.feed p.bs = p from rfl] at h
  rw [h]; rfl
theorem step_bs (p : Ps) (r : Int) : (psStep p r).1.bs = p.bs := by
  unfold psStep
  split
  · show (psOne _ _).1.bs = _; rw [one_bs, one_bs]
  · exact one_bs p r
theorem run_bs (p : Ps) (l : List Int) : (psRun p l).1.bs = p.bs := by
  induction l generalizing p with
  | nil => rfl
  | cons a l ih => show (psRun (psStep p a).1 l).1.bs = _; rw [ih, step_bs]
theorem write_append (p : Ps) (b c : List Int) : psWrite p (b ++ c) = ((psWrite (psWrite p b).1 c).1, (psWrite p b).2 ++ (psWrite (psWrite p b).1 c).2) := by
  have hb : (psWrite p b).1.bs = feedS p.bs b := by unfold psWrite; rw [run_bs]; rfl
  conv => rhs; unfold psWrite
  rw [show (psRun (p.feed (feedS p.bs b)) (feedO p.bs b)).1.bs = feedS p.bs b from hb]
  unfold psWrite
  rw [feedS_append, feedO_append, psRun_append]
  rw [run_feed p, run_feed p]
  show _ = ((psRun ((psRun p (feedO p.bs b)).1.feed _) _).1, _ ++ (psRun ((psRun p (feedO p.bs b)).1.feed _) _).2)
  rfl
/-! Limits. -/
def limA (a : Ac) : Prop := a.i.length ≤ 2 ∧ a.l.length ≤ 16 ∧ a.t.length ≤ 1024
def limP (p : Ps) : Prop := p.ws.length ≤ 16 ∧ p.tx.length ≤ 1024
theorem addB_len (ws : List Int) (ov : Bool) (r : Int) (h : ws.length ≤ 16) : (addB ws ov r).length ≤ 16 := by
  have hs : (if ws = [] then [-1] else ws : List Int).length ≤ 16 := by split; exact Nat.le_of_ble_eq_true rfl; exact h
  unfold addB
  split
  · exact Pm.openB_len _ hs
  · split
    · exact hs
    · unfold Pm.digB; rw [List.length_set]; exact hs
def limQ (q : Ps × List Ac) : Prop := limP q.1 ∧ ∀ a ∈ q.2, limA a
theorem limQ_ite {c : Prop} [Decidable c] {a b : Ps × List Ac} (ha : c → limQ a) (hb : ¬ c → limQ b) : limQ (if c then a else b) := by
  by_cases h : c
  · rw [if_pos h]; exact ha h
  · rw [if_neg h]; exact hb h
theorem limQ_nil {p : Ps} (h : limP p) : limQ (p, []) := ⟨h, fun _ ha => absurd ha (List.not_mem_nil)⟩
theorem limQ_one {p : Ps} {a : Ac} (h : limP p) (ha : limA a) : limQ (p, [a]) := ⟨h, fun b hb => by rw [List.mem_singleton.1 hb]; exact ha⟩
theorem lim_ent (p : Ps) (s : Int) : limP (ent p s) := ⟨Nat.zero_le _, Nat.zero_le _⟩
theorem lim_col {p : Ps} (r : Int) (h : limP p) : limP (col p r) := by
  unfold col; split <;> exact h
theorem one_lim (p : Ps) (r : Int) (h : limP p) : limP (psOne p r).1 ∧ ∀ a ∈ (psOne p r).2, limA a := by
  have hx : limA (exA r) := ⟨Nat.zero_le _, Nat.zero_le _, Nat.zero_le _⟩
  have ht : limA (txA p.tx) := ⟨Nat.zero_le _, Nat.zero_le _, h.2⟩
  show limQ (psOne p r)
  unfold psOne strP escP conP
  refine limQ_ite (fun _ => ?_) (fun _ => limQ_ite (fun _ => limQ_one (lim_ent _ _) hx) (fun _ => limQ_ite (fun _ => ?_) (fun _ => limQ_ite (fun _ => limQ_nil h) (fun _ => limQ_ite (fun _ => limQ_nil h) (fun _ => limQ_ite (fun _ => limQ_one h hx) (fun _ => limQ_ite (fun _ => ?_) (fun _ => limQ_ite (fun _ => ?_) (fun _ => limQ_ite (fun _ => limQ_nil h) (fun _ => limQ_one h ⟨Nat.zero_le _, Nat.zero_le _, Nat.zero_le _⟩)))))))))
  · split
    · exact limQ_one (lim_ent _ _) ht
    · exact limQ_nil (lim_ent _ _)
  · exact limQ_ite (fun _ => limQ_one (lim_ent _ _) ht) (fun _ => limQ_ite (fun _ => limQ_nil h) (fun _ => limQ_ite (fun hl => limQ_nil ⟨h.1, by show (p.tx ++ enc1 r).length ≤ 1024; rw [List.length_append]; exact hl⟩) (fun _ => limQ_nil h)))
  · exact limQ_ite (fun _ => limQ_nil (lim_col r h)) (fun _ => limQ_ite (fun _ => limQ_nil (lim_ent _ _)) (fun _ => limQ_ite (fun _ => limQ_nil (lim_ent _ _)) (fun hi => limQ_ite (fun _ => limQ_nil (lim_ent _ _)) (fun _ => limQ_ite (fun _ => limQ_nil (lim_ent _ _)) (fun _ => limQ_ite (fun _ => limQ_nil (lim_ent _ _)) (fun _ => limQ_one (lim_ent _ _) ⟨by show p.it.length ≤ 2; omega, Nat.zero_le _, Nat.zero_le _⟩))))))
  · exact limQ_ite (fun _ => limQ_nil (lim_ent _ _)) (fun _ => limQ_ite (fun _ => limQ_ite (fun _ => limQ_nil (lim_ent _ _)) (fun hi => limQ_one (lim_ent _ _) ⟨by show p.it.length ≤ 2; omega, h.1, Nat.zero_le _⟩)) (fun _ => limQ_ite (fun _ => limQ_nil h) (fun _ => limQ_ite (fun _ => limQ_nil (lim_col r h)) (fun _ => limQ_ite (fun _ => limQ_nil h) (fun _ => limQ_ite (fun _ => limQ_nil ⟨addB_len _ _ _ h.1, h.2⟩) (fun _ => limQ_nil h))))))
theorem step_lim (p : Ps) (r : Int) (h : limP p) : limP (psStep p r).1 ∧ ∀ a ∈ (psStep p r).2, limA a := by
  unfold psStep
  split
  · have h1 := one_lim p 27 h
    have h2 := one_lim (psOne p 27).1 (r - 64) h1.1
    refine ⟨h2.1, fun a ha => ?_⟩
    rcases List.mem_append.1 ha with ha | ha
    · exact h1.2 a ha
    · exact h2.2 a ha
  · exact one_lim p r h
theorem run_lim (p : Ps) (l : List Int) (h : limP p) : limP (psRun p l).1 ∧ ∀ a ∈ (psRun p l).2, limA a := by
  induction l generalizing p with
  | nil => exact ⟨h, by simp [psRun]⟩
  | cons r l ih =>
    have h1 := step_lim p r h
    have h2 := ih _ h1.1
    refine ⟨h2.1, fun a ha => ?_⟩
    rcases List.mem_append.1 ha with ha | ha
    · exact h1.2 a ha
    · exact h2.2 a ha

end Go.Proofs.Ytpkkfcfkhiaggaa
