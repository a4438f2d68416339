/- paste: Pieces. -/
import Derived.Test.YtnihneffgbhjjaaDoorE
import Derived.Deep.CutBlock
import Derived.Deep.DeepCutAuto
import Derived.Outline
set_option linter.unusedSimpArgs false
set_option linter.unusedVariables false
set_option linter.unnecessarySimpa false
namespace Go.Proofs.YtnihneffgbhjjaaDoor
open Go.RowKit

/-- The runes that still fit behind n bytes, and the others. -/
def fit (size : Int) : Int → List Int → List Int × List Int
  | _, [] => ([], [])
  | n, r :: rs => if size < n + ((enc1 r).length : Int) then ([], r :: rs) else (r :: (fit size (n + ((enc1 r).length : Int)) rs).1, (fit size (n + ((enc1 r).length : Int)) rs).2)
theorem fit_app (size n : Int) (rs : List Int) : (fit size n rs).1 ++ (fit size n rs).2 = rs := by
  induction rs generalizing n with
  | nil => rfl
  | cons r rs ih =>
    unfold fit
    split
    · rfl
    · simp only [List.cons_append, ih]
theorem fit_some (size : Int) (r : Int) (rs : List Int) (h : 4 ≤ size) : ∃ a, (fit size 0 (r :: rs)).1 = r :: a := by
  have := (enc1_length r).2
  unfold fit
  rw [if_neg (by omega)]
  exact ⟨_, rfl⟩
/-- The pieces of runes. -/
def pcs (size : Int) : Nat → List Int → List (List Int)
  | 0, _ => []
  | _ + 1, [] => []
  | f + 1, r :: rs => (fit size 0 (r :: rs)).1 :: pcs size f (fit size 0 (r :: rs)).2
theorem pcs_fuel (size : Int) (h : 4 ≤ size) : ∀ (f g : Nat) (rs : List Int), rs.length ≤ f → rs.length ≤ g → pcs size f rs = pcs size g rs := by
  intro f
  induction f with
  | zero =>
    intro g rs hf _
    have : rs = [] := List.eq_nil_of_length_eq_zero (by omega)
    subst this
    cases g <;> rfl
  | succ f ih =>
    intro g rs hf hg
    match rs, g with
    | [], 0 => rfl
    | [], g + 1 => rfl
    | r :: rs, 0 => simp at hg
    | r :: rs, g + 1 =>
      obtain ⟨a, ha⟩ := fit_some size r rs h
      have hl := congrArg List.length (fit_app size 0 (r :: rs))
      rw [ha] at hl
      simp only [List.length_append, List.length_cons] at hl hf hg
      unfold pcs
      rw [ih g _ (by omega) (by omega)]
def pcsL (size : Int) (ds : List Int) : List (List Int) := pcs size ds.length ds
theorem pcsL_cons (size : Int) (h : 4 ≤ size) (r : Int) (rs : List Int) : pcsL size (r :: rs) = (fit size 0 (r :: rs)).1 :: pcsL size (fit size 0 (r :: rs)).2 := by
  obtain ⟨a, ha⟩ := fit_some size r rs h
  have hl := congrArg List.length (fit_app size 0 (r :: rs))
  rw [ha] at hl
  simp only [List.length_append, List.length_cons] at hl
  unfold pcsL
  show (fit size 0 (r :: rs)).1 :: pcs size rs.length (fit size 0 (r :: rs)).2 = _
  rw [pcs_fuel size h rs.length (fit size 0 (r :: rs)).2.length _ (by omega) (Nat.le_refl _)]

/-- A slice of byte slices of the call's own. -/
def OwnSS (w : World) (B : Nat) (v : Value) (xss : List (List Int)) : Prop :=
  ∃ vs : List Value, vs.length = xss.length ∧ w.ownsRow B 22 1 v vs.length vs ∧ ∀ (i : Nat) (u : Value) (xs : List Int), vs[i]? = some u → xss[i]? = some xs → Own w B 5 .u8 u xs
theorem OwnSS.nil (w : World) (B : Nat) : OwnSS w B (.slice none 0 0) [] := ⟨[], rfl, World.ownsRow_nil _ _ _ _, fun i u xs h => by simp at h⟩
theorem OwnSS.kept {w w' : World} {B : Nat} {v : Value} {xss : List (List Int)} (h : OwnSS w B v xss) (hb : Below w.heap.size w w') : OwnSS w' B v xss := by
  obtain ⟨vs, h1, h2, h3⟩ := h
  exact ⟨vs, h1, World.ownsRow.kept (row := none) h2 ⟨hb.os, hb.tape, hb.output, hb.size, fun i hi _ => hb.block i hi⟩ (by cases v.ownBlock <;> simp), fun i u xs hu hx => (h3 i u xs hu hx).kept hb⟩
/-- Rows of other types lie in other blocks. -/
theorem own_off {w : World} {B B' : Nat} {E E' : TypeId} {v u : Value} {n m : Nat} {xs ys : List Value} (h : w.ownsRow B E 1 v n xs) (k : w.ownsRow B' E' 1 u m ys) (hne : E ≠ E') : ∀ g, u.ownBlock = some g → v.ownBlock ≠ some g := by
  intro g hu hv
  rcases h.2 with ⟨e, _⟩ | ⟨g1, _, _, e, _, hg1, _⟩
  · rw [e] at hv; cases hv
  rcases k.2 with ⟨e', _⟩ | ⟨g2, _, _, e', _, hg2, _⟩
  · rw [e'] at hu; cases hu
  rw [e] at hv
  rw [e'] at hu
  obtain rfl : g1 = g := by simpa [Value.ownBlock] using hv
  obtain rfl : g2 = g1 := by simpa [Value.ownBlock] using hu
  rw [hg1] at hg2
  injection hg2 with hg2
  injection hg2 with _ hg2
  exact hne hg2
theorem elSS : (Tryd.prog.info? 22).map (fun i => (i.zero, i.size, i.bytes)) = some (some (.slice none 0 0), 1, 24) := by kernel_rfl
/-- append of one slice of bytes. -/
theorem wpList_appSS {ops : Array Oper} {rest : List Oper} {o : Oper} {a : Act} {w : World} {Q : Exit → Act → World → Prop} (hgd : o.guard = none) (s x : Operand)
    (ho : o.op = .call { callee := .builtin .append, args := #[s, x], argTypes := #[35, 35] })
    (B : Nat) (v : Value) (xss : List (List Int)) (u : Value) (xs : List Int) (b : Nat) (hown : OwnSS w B v xss) (hu : Own w B 5 .u8 u xs) (hc : w.cell? ⟨b, 0, none⟩ = some u) (hs : a.eval s = v) (hx : a.eval x = .slice (some ⟨b, 0, none⟩) 1 1) (hl : xss.length ≤ 100000000) (hbase : B ≤ w.heap.size)
    (h : ∀ v' w', OwnSS w' B v' (xss ++ [xs]) → Below B w w' → wpList Tryd.prog ops Q rest (a.put o.dst v') w') : wpList Tryd.prog ops Q (o :: rest) a w := by
  obtain ⟨i0, hi, hz0, hz1, hz2⟩ := info_parts elSS
  obtain ⟨vs, h1, h2, h3⟩ := hown
  have huc : u.oneCell' = true := by
    rcases hu.2 with ⟨rfl, _⟩ | ⟨g, cap, cur, rfl, _⟩ <;> rfl
  refine wpList_append_own w hgd s x 35 ho B 22 i0 (.slice none 0 0) 1 24 Tryd.underlying35 hi hz0 hz1 hz2 rfl (by decide) v vs.length vs hs h2 ⟨b, 0, none⟩ 1 1 [u] hx (by simp) (fun j z hz => ?_) (fun z hz => ?_) (by unfold maxLen; omega) (by omega) hbase (fun v' w' k1 k2 _ => h v' w' ?_ (grown_below k2 (fun k hk => (World.ownsRow.lt h2 k hk).1) hbase))
  · match j with
    | 0 =>
      obtain rfl : u = z := by simpa using hz
      exact hc
    | n + 1 => simp at hz
  · obtain rfl : z = u := by simpa using hz
    exact huc
  · refine ⟨vs ++ [u], by simp [h1], by simpa using k1, fun i z ys hz hy => ?_⟩
    rcases Nat.lt_or_ge i vs.length with hi2 | hi2
    · rw [List.getElem?_append_left hi2] at hz
      rw [List.getElem?_append_left (by omega)] at hy
      exact (h3 i z ys hz hy).keep k2 (own_off h2 (h3 i z ys hz hy) (by decide))
    · rw [List.getElem?_append_right hi2] at hz
      rw [List.getElem?_append_right (by omega)] at hy
      have hi3 : i = vs.length := by
        have := (List.getElem?_eq_some_iff.1 hz).1
        simp at this; omega
      subst hi3
      rw [h1] at hy
      simp at hz hy
      subst hz hy
      exact hu.keep k2 (own_off h2 hu (by decide))

/-- A part of a slice: it reads in every world in which the slice reads. -/
theorem wpList_part2 {ops : Array Oper} {rest : List Oper} {o : Oper} {a : Act} {w : World} {Q : Exit → Act → World → Prop} (hgd : o.guard = none) (t : TypeId) (k : IntKind) (ht : Tryd.prog.underlying t = some (.slice (Tryd.prog.elem t))) (hz : ∀ w, (sizeOf (Tryd.prog.elem t)).run Tryd.prog w = .ok 1 w) (x : Operand) (lo hi : Option Operand)
    (ho : o.op = .slice t x lo hi none) (p : Option Addr) (cap : Nat) (xs : List Int) (hx : a.eval x = .slice p xs.length cap) (hrd : ∃ W, Rd W k (.slice p xs.length cap) xs) (l hh : Nat)
    (hl : (lo.map a.eval = none ∧ l = 0) ∨ lo.map a.eval = some (.int .i64 l)) (hh2 : (hi.map a.eval = none ∧ hh = xs.length) ∨ hi.map a.eval = some (.int .i64 hh)) (h1 : l ≤ hh) (h2 : hh ≤ xs.length)
    (h : ∀ v', (∀ W, Rd W k (.slice p xs.length cap) xs → Rd W k v' ((xs.take hh).drop l)) → v'.ownBlock = (Value.slice p xs.length cap).ownBlock → wpList Tryd.prog ops Q rest (a.put o.dst v') w) : wpList Tryd.prog ops Q (o :: rest) a w := by
  have hcap : xs.length ≤ cap := by
    obtain ⟨_, q, c, hp, e1, _⟩ := hrd
    injection hp with g1 g2 g3
    omega
  refine wpList_plain hgd fun _ hK => ?_
  have hrun : (Instr.slice t (.slice p xs.length cap) (lo.map a.eval) (hi.map a.eval) none).run Tryd.prog w = .ok (sliced p l hh cap 1) w := by
    rw [run_slice_any w t p xs.length cap ht]
    have hb : (Instr.sliceBounds true xs.length cap (lo.map a.eval) (hi.map a.eval) none).run Tryd.prog w = .ok (l, hh, cap) w := by
      have k1 := run_sliceBound (P := Tryd.prog) w .i64 (hh : Int) cap .sliceAcap (by omega) (by omega)
      have k2 := run_sliceBound (P := Tryd.prog) w .i64 (l : Int) hh .sliceB (by omega) (by omega)
      rcases hl with ⟨hl, rfl⟩ | hl <;> rcases hh2 with ⟨hh2, rfl⟩ | hh2 <;> rw [hl, hh2] <;> simp [Instr.sliceBounds, k1, k2]
    rw [hb]
    simp only [Result.andThen_ok, hz]
  unfold Oper.wp execOp
  simp only [ho, Sem.run_bind, Sem.run_pure, Result.andThen_ok, hx]
  have hat : (Instr.sliceAt t (.slice p xs.length cap) (lo.map a.eval) (hi.map a.eval) none).run Tryd.prog w = .ok (sliced p l hh cap 1) w := by
    rw [run_sliceAt_slice w t _ _ _ _ ht, hrun]
  show Oper.upon Tryd.prog o a _ Q ((Sem.run Tryd.prog (Instr.sliceAt t (.slice p xs.length cap) (lo.map a.eval) (hi.map a.eval) none) w).andThen fun v w' => Result.ok (Next.value v) w')
  rw [hat]
  exact hK _ _ (h _ (fun W h => h.part l hh h1 h2) (sliced_block p xs.length cap l hh cap 1))
theorem pieces_no (vb : Value) (size : Int) (l : List Int) (w : World) (hb : Rd w .u8 vb l) (hlen : 1048576 < l.length) : Calls Tryd.prog 15 #[vb, .int .i64 size] w (ClNo w) := by
  obtain ⟨p, n, cap, hv⟩ := hb.shape
  subst hv
  have cC := fun W (h : Below w.heap.size w W) => clean_no _ l W (hb.below h) hlen
  unfold ClNo at cC
  go_enter Tryd.func15, Tryd.ntmps15
  go_wp2_with (first | (go_at_call 16; (with_reducible refine (cC _ (Below.refl _ _)).mono ?_); rintro e w1 ⟨rfl, hb1⟩))
  go_ret2
  exact ⟨rfl, hb1⟩
def PcArg (w : World) (e : Ending) (w' : World) : Prop := e = .returned (.tuple #[.slice none 0 0, .int .i64 2]) ∧ Below w.heap.size w w'
theorem pieces_arg (vb : Value) (size : Int) (l : List Int) (w : World) (hb : Rd w .u8 vb l) (hl : ∀ x ∈ l, Byte x) (hlen : l.length ≤ 1048576) (hs : size < 4) : Calls Tryd.prog 15 #[vb, .int .i64 size] w (PcArg w) := by
  obtain ⟨p, n, cap, hv⟩ := hb.shape
  subst hv
  have cC := fun W (h : Below w.heap.size w W) => clean_ok _ l W (hb.below h) hl hlen
  unfold ClE at cC
  go_enter Tryd.func15, Tryd.ntmps15
  go_wp2_with (first | (go_at_call 16; (with_reducible refine (cC _ (Below.refl _ _)).mono ?_); rintro e w1 ⟨v, rfl, hrd, hb1⟩; obtain ⟨p1, n1, c1, hv1⟩ := hrd.shape; subst hv1))
  go_ret2
  exact ⟨rfl, hb1⟩
def PcE (yss : List (List Int)) (w : World) (e : Ending) (w' : World) : Prop := ∃ v, e = .returned (.tuple #[v, .int .i64 0]) ∧ OwnSS w' w.heap.size v yss ∧ Below w.heap.size w w'
theorem OwnSS.weaken {w : World} {B B' : Nat} {v : Value} {xss : List (List Int)} (h : OwnSS w B v xss) (hB : B' ≤ B) : OwnSS w B' v xss := by
  obtain ⟨vs, h1, h2, h3⟩ := h
  refine ⟨vs, h1, ⟨h2.1, ?_⟩, fun i u xs hu hx => (h3 i u xs hu hx).weaken hB⟩
  rcases h2.2 with h4 | ⟨g, cap, cur, hv, hg, r⟩
  · exact .inl h4
  · exact .inr ⟨g, cap, cur, hv, Nat.le_trans hB hg, r⟩
theorem decode_c (v : Value) (r : Int) (bs : List Int) (w : World) (hg : Gl w) (hv : validR r = true) (h : Rd w .u8 v (encL (r :: bs))) : Calls Tryd.prog 21 #[v] w fun e w' => e = .returned (.tuple #[.int .i32 r, .int .i64 ((enc1 r).length : Int)]) ∧ Below w.heap.size w w' := by
  have hE := (enc1_length r).1
  have he : encL (r :: bs) = enc1 r ++ encL bs := rfl
  have hby := encL_byte (r :: bs)
  have hlen : 1 ≤ (encL (r :: bs)).length := by rw [he, List.length_append]; omega
  have hvr := of_decide_eq_true hv
  obtain ⟨p, cap, rfl, h1, h2, h3⟩ := h
  rcases h3 with ⟨_, h⟩ | ⟨b, off, rfl, hlt, hc⟩
  · omega
  · have hd : Lib.decodeGo (strOfNums (encL (r :: bs))) = (r.toNat, (enc1 r).length) := by
      unfold Lib.decodeGo
      rw [if_neg (by rw [strOf_size]; omega)]
      have := decode_enc [] r (encL bs) hv (by rw [List.nil_append, ← he]; exact hby)
      rw [List.nil_append, ← he] at this
      exact this
    have := decodeRune_any (strOfNums (encL (r :: bs))) b off cap w hg.u (fun j hj => by
      rw [strOf_size] at hj
      rw [get_strOf _ hby, hc j _ (List.getElem?_eq_getElem hj)]
      have hb := hby _ (List.getElem_mem hj)
      unfold Byte at hb
      rw [List.getD_eq_getElem?_getD, List.getElem?_eq_getElem hj]
      simp only [Option.getD_some]
      rw [Int.toNat_of_nonneg hb.1])
    rw [hd, strOf_size] at this
    simp only at this
    rw [Int.toNat_of_nonneg (by omega)] at this
    exact this
def lenOf (v : Value) : Nat := match v with | .slice _ n _ => n | _ => 0
def PcRel (size : Int) (ds : List Int) (w1 : World) (s out : Value) (wr : World) : Prop :=
  ∃ (pre : List (List Int)) (rest : List Int), pcsL size ds = pre ++ pcsL size rest ∧ (∀ r ∈ rest, validR r = true) ∧ pre.length + rest.length ≤ ds.length ∧ Rd w1 .u8 s (encL rest) ∧ OwnSS wr w1.heap.size out (pre.map encL) ∧ Below w1.heap.size w1 wr
def InRel (size : Int) (rest : List Int) (wo : World) (n : Value) (wy : World) : Prop :=
  ∃ a b, rest = a ++ b ∧ n = .int .i64 ((encL a).length : Int) ∧ fit size 0 rest = (a ++ (fit size ((encL a).length : Int) b).1, (fit size ((encL a).length : Int) b).2) ∧ Below wo.heap.size wo wy
set_option maxHeartbeats 8000000 in
set_option maxRecDepth 100000 in
theorem pieces_ok (vb : Value) (size : Int) (l : List Int) (w : World) (hg : Gl w) (hb : Rd w .u8 vb l) (hl : ∀ x ∈ l, Byte x) (hlen : l.length ≤ 1048576) (hs : 4 ≤ size) (hs2 : size ≤ 9223372036854775807) : Calls Tryd.prog 15 #[vb, .int .i64 size] w (PcE ((pcsL size (clnD l)).map encL) w) := by
  obtain ⟨p, n, cap, hv⟩ := hb.shape
  subst hv
  have cC := fun W (h : Below w.heap.size w W) => clean_ok _ l W (hb.below h) hl hlen
  unfold ClE clnB at cC
  have hdl := clnD_len l hl
  have hdv := clnD_valid l hl
  generalize clnD l = ds at *
  go_enter Tryd.func15, Tryd.ntmps15
  go_wp2_with (first | (go_at_call 16; (with_reducible refine (cC _ (Below.refl _ _)).mono ?_); rintro e w1 ⟨v, rfl, hrd, hb1⟩; obtain ⟨p1, n1, c1, hv1⟩ := hrd.shape; subst hv1))
  clear cC hb
  go_loopw [6, 8] (fun s out wr => PcRel size ds w1 s out wr) (fun s _ _ => lenOf s)
  case atStart => exact ⟨[], ds, rfl, hdv, by simp, hrd, OwnSS.nil _ _, Below.refl _ _⟩
  case round =>
    obtain ⟨pre, rest, hpc, hrv, hpl, hrs, hown, hbel⟩ := hrel
    have hell := encL_length rest
    obtain ⟨p2, c2, rfl, hq1, hq2, hq3⟩ := hrs
    have hrs : Rd w1 .u8 (.slice p2 (encL rest).length c2) (encL rest) := ⟨p2, c2, rfl, hq1, hq2, hq3⟩
    clear hq1 hq2 hq3
    cases rest with
    | nil =>
      have he : (encL ([] : List Int)).length = 0 := rfl
      rw [he]
      rw [show pcsL size [] = [] from rfl, List.append_nil] at hpc
      have HP := Lib.hid hpc
      clear hpc hrv hell he hrs hrd hdv
      go_wp2_with fail
      go_ret2
      rw [HP.out]
      exact ⟨_, rfl, hown.weaken hb1.size, bl_trans hb1 hbel⟩
    | cons r0 rs0 =>
      obtain ⟨rest, hrest⟩ : ∃ rest, r0 :: rs0 = rest := ⟨_, rfl⟩
      have hpc2 := pcsL_cons size hs r0 rs0
      have hfs := fit_some size r0 rs0 hs
      rw [hrest] at hpc2 hfs hpc hrv hpl hell hrs ⊢
      have hpos : 0 < (encL rest).length := by rw [← hrest] at hell ⊢; simp only [List.length_cons] at hell ⊢; omega
      have hfa := fit_app size 0 rest
      have HPC := Lib.hid (hpc.trans (congrArg (pre ++ ·) hpc2))
      have HV := Lib.hid hrv
      have HFA := Lib.hid hfa
      have HFS := Lib.hid hfs
      clear hpc hpc2 hfs hrest hrv hfa hdv hrd
      obtain ⟨wo, rfl⟩ : ∃ wo : World, wo = wr := ⟨_, rfl⟩
      have hbo : Below w.heap.size w wo := bl_trans hb1 hbel
      go_upto_block 3 with fail
      go_cut [9] (fun n wx => n = .int .i64 ((encL (fit size 0 rest).1).length : Int) ∧ Below wo.heap.size wo wx)
      case first =>
        go_wp2_with fail
        go_loopw [9] (fun n wy => InRel size rest wo n wy) (fun n _ => (encL rest).length - (intOf n).toNat)
        case atStart => exact ⟨[], rest, rfl, rfl, by simp [encL], Below.refl _ _⟩
        case round =>
          obtain ⟨a, b, hab, rfl, hfit, hby⟩ := hrel
          cases b with
          | nil =>
            rw [List.append_nil] at hab
            subst hab
            go_wp2_with fail
            go_meet
            refine ⟨?_, hby⟩
            rw [hfit]; simp [fit]
          | cons r b =>
            have hlab : (encL rest).length = (encL a).length + ((enc1 r).length + (encL b).length) := by rw [hab]; simp [encL]
            have hE := enc1_length r
            have hvr : validR r = true := HV.out r (by rw [hab]; simp)
            have hdrop : ((encL rest).take (encL rest).length).drop (encL a).length = encL (r :: b) := by
              rw [List.take_length, hab]
              have : encL (a ++ r :: b) = encL a ++ encL (r :: b) := by simp [encL]
              rw [this, List.drop_left]
            have hlt1 : (encL a).length < (encL rest).length := by omega
            have hlt2 : (encL a).length + (enc1 r).length ≤ (encL rest).length := by omega
            clear hlab
            have HD := Lib.hid hdrop
            have hrw := hrs.below (bl_trans hbel hby)
            have hgw : Gl wr := hg.below (bl_trans hbo hby)
            have hab2 : rest = (a ++ [r]) ++ b := by rw [hab]; simp
            have HAB := Lib.hid hab2
            have HF := Lib.hid hfit
            clear hdrop hab hab2 hfit
            by_cases hbrk : size < ((encL a).length : Int) + ((enc1 r).length : Int)
            · have HB : Hid ((encL (fit size 0 rest).1).length = (encL a).length) := Lib.hid (by rw [HF.out]; simp [fit, if_pos hbrk])
              go_wp2_with (first | (refine wpList_part2 rfl 22 .u8 Tryd.underlying22 Tryd.sizeOf5 (.tmp 32) (some (.tmp 33)) none rfl p2 c2 (encL rest) rfl ⟨_, hrw⟩ (encL a).length (encL rest).length (.inr rfl) (.inl ⟨rfl, rfl⟩) (by omega) (by omega) ?_; intro v1 hv1 hvb1; have hv1 := hv1 _ hrw; rw [HD.out] at hv1; obtain ⟨pv, nv, cv, hve⟩ := hv1.shape; subst hve) | (go_at_call 21; (with_reducible refine (decode_c _ r b _ hgw hvr hv1).mono ?_); rintro e w2 ⟨rfl, hb2⟩))
              go_meet
              exact ⟨by rw [HB.out], bl_trans hby hb2⟩
            · have hsn : (encL (a ++ [r])).length = (encL a).length + (enc1 r).length := by rw [encL_snoc, List.length_append]
              have HB : Hid (fit size 0 rest = ((a ++ [r]) ++ (fit size ((encL (a ++ [r])).length : Int) b).1, (fit size ((encL (a ++ [r])).length : Int) b).2)) := Lib.hid (by
                rw [HF.out]
                conv => lhs; rw [fit, if_neg hbrk]
                rw [hsn]; simp)
              have HS := Lib.hid hsn
              clear hsn
              go_wp2_with (first | (refine wpList_part2 rfl 22 .u8 Tryd.underlying22 Tryd.sizeOf5 (.tmp 32) (some (.tmp 33)) none rfl p2 c2 (encL rest) rfl ⟨_, hrw⟩ (encL a).length (encL rest).length (.inr rfl) (.inl ⟨rfl, rfl⟩) (by omega) (by omega) ?_; intro v1 hv1 hvb1; have hv1 := hv1 _ hrw; rw [HD.out] at hv1; obtain ⟨pv, nv, cv, hve⟩ := hv1.shape; subst hve) | (go_at_call 21; (with_reducible refine (decode_c _ r b _ hgw hvr hv1).mono ?_); rintro e w2 ⟨rfl, hb2⟩))
              go_roundw
              case rel => first | exact ⟨a ++ [r], b, HAB.out, by (rw [HS.out]; first | rfl | go_num), HB.out, bl_trans hby hb2⟩ | ((repeat apply Exists.intro); exact ⟨⟨a ++ [r], b, HAB.out, by (rw [HS.out]; first | rfl | go_num), HB.out, bl_trans hby hb2⟩, rfl⟩)
              case measure => simp [intOf]; omega
      case rest =>
      obtain ⟨rfl, hbc⟩ := hcut
      have hel2 : encL rest = encL (fit size 0 rest).1 ++ encL (fit size 0 rest).2 := by
        conv => lhs; rw [← HFA.out]
        simp [encL]
      have hlen2 : (encL rest).length = (encL (fit size 0 rest).1).length + (encL (fit size 0 rest).2).length := by rw [hel2, List.length_append]
      have HT : Hid (((encL rest).take (encL (fit size 0 rest).1).length).drop 0 = encL (fit size 0 rest).1) := Lib.hid (by rw [hel2, List.take_left, List.drop_zero])
      have HR : Hid (((encL rest).take (encL rest).length).drop (encL (fit size 0 rest).1).length = encL (fit size 0 rest).2) := Lib.hid (by rw [List.take_length, hel2, List.drop_left])
      have hlen3 : (encL (fit size 0 rest).1).length ≤ (encL rest).length := by omega
      have HLEN := Lib.hid hlen2
      clear hlen2
      have hpos1 : 0 < (encL (fit size 0 rest).1).length := by
        obtain ⟨a, ha⟩ := HFS.out
        rw [ha]
        have := (encL_length (r0 :: a)).1
        simp only [List.length_cons] at this; omega
      have hl12 : (fit size 0 rest).1.length + (fit size 0 rest).2.length = rest.length := by rw [← List.length_append, HFA.out]
      have hl1 : 0 < (fit size 0 rest).1.length := by obtain ⟨a, ha⟩ := HFS.out; rw [ha]; simp
      have HV2 : Hid (∀ r ∈ (fit size 0 rest).2, validR r = true) := Lib.hid fun r hr => HV.out r (by rw [← HFA.out]; simp [hr])
      have hyb := encL_byte (fit size 0 rest).1
      have hownc := hown.kept hbc
      clear hel2 hown
      generalize (fit size 0 rest).1 = fa at *
      generalize (fit size 0 rest).2 = fb at *
      have hrc := hrs.below (bl_trans hbel hbc)
      have hszc : w1.heap.size ≤ wc.heap.size := (bl_trans hbel hbc).size
      go_wp2_with (first | (refine wpList_part2 rfl 22 .u8 Tryd.underlying22 Tryd.sizeOf5 (.tmp 47) none (some (.tmp 48)) rfl p2 c2 (encL rest) rfl ⟨_, hrc⟩ 0 (encL fa).length (.inl ⟨rfl, rfl⟩) (.inr rfl) (by omega) (by omega) ?_; intro v1 hv1 hvb1; have hv1 := hv1 _ hrc; rw [HT.out] at hv1; obtain ⟨pv, nv, cv, hve⟩ := hv1.shape; subst hve) | (at_builtin; refine wpList_appw rfl (.const (.slice none 0 0)) (.tmp 49) 22 5 .u8 1 rfl Tryd.underlying22 el8 w1.heap.size _ _ [] (encL fa) (Own.nil _ _ _ _) hv1 rfl rfl (by simp only [List.length_nil, maxLen]; omega) (by simp only [List.length_nil]; omega) hszc ?_; intro v2 w2 hown2 hgr2 hwh2; have hb2 : Below wc.heap.size wc w2 := app_below (Below.refl _ _) hgr2 (fun g hg => by cases hg); rw [List.nil_append] at hown2; have hownc2 := hownc.kept hb2; have hbx2 := hb2.size; obtain ⟨pw, nw, cw, hwe⟩ := hown2.rd.shape; subst hwe) | (at_builtin; refine wpList_appSS rfl (.tmp 46) (.tmp 51) rfl w1.heap.size _ _ _ (encL fa) w2.heap.size (hownc2.kept (bl_alloc (Below.refl _ _) _)) (hown2.kept (bl_alloc (Below.refl _ _) _)) (by rw [(Box.new w2 #[_] 22 rfl).cell]; rfl) rfl rfl (by rw [List.length_map]; omega) (by simp; omega) ?_; intro v3 w3 hown3 hb3) | (refine wpList_part2 rfl 22 .u8 Tryd.underlying22 Tryd.sizeOf5 (.tmp 53) (some (.tmp 54)) none rfl p2 c2 (encL rest) rfl ⟨_, hrs⟩ (encL fa).length (encL rest).length (.inr rfl) (.inl ⟨rfl, rfl⟩) (by omega) (by omega) ?_; intro v4 hv4 hvb4; have hv4 := hv4 _ hrs; rw [HR.out] at hv4; obtain ⟨p4, c4, hve4, hq4⟩ := hv4; subst hve4; have hv4 : Rd w1 .u8 (.slice p4 (encL fb).length c4) (encL fb) := ⟨p4, c4, rfl, hq4⟩; clear hq4))
      go_roundw
      case rel => first | exact ⟨pre ++ [fa], fb, by (rw [HPC.out]; simp), HV2.out, by (simp only [List.length_append, List.length_singleton]; omega), hv4, by (rw [List.map_append]; exact hown3), (bl_trans hbel (bl_trans hbc hb2)).trans ((Below.alloc (Below.refl _ _) (by omega) _).trans hb3)⟩ | ((repeat apply Exists.intro); exact ⟨⟨pre ++ [fa], fb, by (rw [HPC.out]; simp), HV2.out, by (simp only [List.length_append, List.length_singleton]; omega), hv4, by (rw [List.map_append]; exact hown3), (bl_trans hbel (bl_trans hbc hb2)).trans ((Below.alloc (Below.refl _ _) (by omega) _).trans hb3)⟩, rfl⟩)
      case measure => have := HLEN.out; simp [lenOf]; omega

end Go.Proofs.YtnihneffgbhjjaaDoor
