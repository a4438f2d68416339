/- params: the reference's Parse, walked (fine bytes). -/
import Derived.Test.YtpkkfcfkhiaggaaMM
import Derived.Outline
set_option linter.unusedSimpArgs false
set_option linter.unusedVariables false
set_option linter.unnecessarySimpa false
namespace Go.Proofs.Ytpkkfcfkhiaggaa.Pm
open Go.RowKit

set_option maxHeartbeats 2000000 in
theorem rparse_nil (s : ByteArray) (w : World) (h0 : s.size = 0) :
    Calls Try.prog 65 #[.string s] w fun e w' => e = .returned (.tuple #[.slice none 0 0, .bool true]) ∧ w = w' := by
  have z0 : s.data.toList = [] := List.eq_nil_of_length_eq_zero (Array.length_toList.trans h0)
  have z : s.toList = [] := by rw [ByteArray.toList_eq]; exact z0
  clear z0
  go_enter Try.func65, Try.ntmps65
  go_wp2_with fail
  go_loop [4] (fun i => i = .int .i64 0) (fun i => 0)
  case atStart => rfl
  case round =>
    subst hrel
    go_wp2_with fail
    all_goals (go_ret2; exact ⟨rfl, rfl⟩)

theorem _root_.Go.Proofs.Ytpkkfcfkhiaggaa.Own.len {w : World} {B : Nat} {E : TypeId} {k : IntKind} {p : Option Addr} {n c : Nat} {xs : List Int} (h : Own w B E k (.slice p n c) xs) : n = xs.length ∧ n ≤ c ∧ c ≤ maxLen := by
  rcases h.shape with ⟨h1, h2⟩ | ⟨g, cap, h1, h2, h3⟩
  · cases h1; subst h2; exact ⟨rfl, Nat.le_refl _, by simp [maxLen]⟩
  · cases h1; exact ⟨rfl, h2, h3⟩
theorem _root_.Go.Proofs.Ytpkkfcfkhiaggaa.Own.cut {w : World} {B : Nat} {E : TypeId} {k : IntKind} {p : Option Addr} {n c m : Nat} {xs : List Int} (h : Own w B E k (.slice p n c) xs) (hm : m ≤ n) (hm0 : 0 < m) : Own w B E k (.slice p m c) (xs.take m) := by
  have hl := h.len
  obtain ⟨h1, h2⟩ := h
  refine ⟨by simp, ?_⟩
  rcases h2 with ⟨hv, _⟩ | ⟨g, cap, cur, hv, hb, hgg, hnc, hcm, hcs, ht⟩
  · cases hv; omega
  · cases hv
    refine .inr ⟨g, c, cur, by rw [List.length_take, Nat.min_eq_left (by omega)], hb, hgg, by rw [List.length_take]; omega, hcm, hcs, ?_⟩
    rw [List.length_take, Nat.min_eq_left (by omega), List.map_take, ← ht, List.take_take]
    congr 1; omega
theorem bytesOf_app (a b : ByteArray) : bytesOf (a ++ b) = bytesOf a ++ bytesOf b := by simp [bytesOf]
theorem bytesOf_one (s : ByteArray) (k : Nat) (h : k < s.size) : bytesOf (s.extract k (k + 1)) = [(s[k].toNat : Int)] := by
  have e1 := bytesOf_take_succ s k h
  have : (bytesOf s).drop k = (s[k].toNat : Int) :: (bytesOf s).drop (k + 1) := by
    have e2 := List.take_append_drop k (bytesOf s)
    have e3 := List.take_append_drop (k + 1) (bytesOf s)
    rw [e1, List.append_assoc] at e3
    exact List.append_cancel_left (e2.trans e3.symm)
  have e : bytesOf (s.extract k (k + 1)) = ((bytesOf s).drop k).take 1 := by
    simp [bytesOf, ByteArray.data_extract]
  rw [e, this]; rfl
theorem refQ_snoc (l : List Int) (c : Int) : refQ (l ++ [c]) = refS (refQ l) c := by simp [refQ]
theorem refQ_len (l : List Int) : (refQ l).1.length ≤ l.length := by
  have key : ∀ (l : List Int) (q : List Int × List Int), (l.foldl refS q).1.length ≤ q.1.length + l.length := by
    intro l
    induction l with
    | nil => intro q; simp
    | cons c l ih =>
      intro q
      have := ih (refS q c)
      have h2 : (refS q c).1.length ≤ q.1.length + 1 := by unfold refS; split <;> simp
      simp only [List.foldl_cons, List.length_cons]; omega
  have := key l ([], []); simpa [refQ] using this
theorem part_fine (l : List Int) (h : ∀ c ∈ l, fineR c = true) : ∀ c ∈ (refQ l).2, 48 ≤ c ∧ c ≤ 57 := (inv_fold l ([], []) ([], false) h (by simp) inv_start).2
set_option maxHeartbeats 2000000 in
theorem rparse_any (s : ByteArray) (w : World) (hs : s.size ≤ 1000000) (h0 : ¬ s.size = 0) (hd : ∀ c ∈ bytesOf s, fineR c = true) :
    Calls Try.prog 65 #[.string s] w fun e w' => ∃ v, e = .returned (.tuple #[v, .bool true]) ∧ Own w' w.heap.size 3 .i64 v (refL (bytesOf s)) ∧ Below w.heap.size w w' := by
  have z : s.toList.isEmpty = false := by
    rw [ByteArray.toList_eq]
    cases hz : s.data.toList with
    | nil => exact absurd (Array.length_toList.symm.trans (congrArg List.length hz)) h0
    | cons a l => rfl
  have HD := Lib.hid hd
  clear hd
  go_enter Try.func65, Try.ntmps65
  go_wp2_with fail
  go_loop [4] (fun i => ∃ k : Nat, k ≤ s.size ∧ i = .int .i64 k) (fun i => s.size - (intOf i).toNat)
  case atStart => exact ⟨0, by omega, rfl⟩
  case round =>
    obtain ⟨k, hk, rfl⟩ := hrel
    by_cases hlt : k < s.size
    · have hb := UInt8.toNat_lt s[k]
      have cF := fine_any (s[k].toNat : Int) w
      have hf : fineR (s[k].toNat : Int) = true := HD.out _ (by
        have e := bytesOf_take_succ s k hlt
        exact List.mem_of_mem_take (i := k + 1) (by rw [e]; simp))
      rw [hf] at cF
      go_wp2_with (go_at_call 74; refine cF.mono ?_; rintro e W' ⟨rfl, rfl⟩)
      all_goals
        go_round
        case rel => exact ⟨k + 1, by omega, by go_num⟩
        case measure => simp [intOf]; omega
    · go_wp2_with fail
      go_loopw [5, 6, 7] (fun out part i wr => ∃ (k : Nat) (pb : ByteArray), k ≤ s.size ∧ i = .int .i64 k ∧ part = .string pb ∧ Below w.heap.size w wr ∧ Own wr w.heap.size 3 .i64 out (refQ ((bytesOf s).take k)).1 ∧ Hid (bytesOf pb = (refQ ((bytesOf s).take k)).2) ∧ pb.size ≤ k) (fun _ _ i _ => s.size - (intOf i).toNat)
      case atStart => exact ⟨0, ⟨#[]⟩, by omega, rfl, rfl, Below.refl _ _, Own.nil _ _ _ _, rfl, Nat.le_refl 0⟩
      case round =>
        obtain ⟨k, pb, hk, rfl, rfl, hbl, hown, HP, hpk⟩ := hrel
        have hql := refQ_len ((bytesOf s).take k)
        have hql2 : ((bytesOf s).take k).length ≤ k := by rw [List.length_take]; omega
        have hsz := hbl.size
        have HG := part_fine ((bytesOf s).take k) (fun c hc => HD.out c (List.mem_of_mem_take hc))
        have hpd : ∀ c ∈ bytesOf pb, 48 ≤ c ∧ c ≤ 57 := by rw [HP.out]; exact HG
        by_cases hlt : k < s.size
        · have HQ : Hid (refQ ((bytesOf s).take (k + 1)) = refS (refQ ((bytesOf s).take k)) (s[k].toNat : Int)) := by unfold Hid; rw [bytesOf_take_succ s k hlt, refQ_snoc]
          by_cases h59 : s[k].toNat = 59
          · have HPD := Lib.hid hpd
            clear hpd
            go_wp2_with (first | (go_at_call 79; with_reducible (refine (number_any pb _ (by omega) HPD.out).mono ?_); rintro e w1 ⟨rfl, rfl⟩) | (at_builtin; refine wpList_app rfl _ _ 50 3 .i64 8 rfl Try.underlying50 el64 w.heap.size _ _ (refQ ((bytesOf s).take k)).1 _ (Own.kept hown ((Below.refl _ _).alloc (Nat.le_refl _) _)) (Rd.lit1 _ _ _ _ _ (by simp)) rfl rfl (by simp [maxLen]; omega) (by simp; omega) (by simp; omega) ?_; intro v' w1 hown' hgrow _))
            have hbel : Below w.heap.size w w1 := hbl.trans (((Below.refl _ _).alloc hbl.size _).trans hgrow)
            have e : refQ ((bytesOf s).take (k + 1)) = ((refQ ((bytesOf s).take k)).1 ++ [numP (bytesOf pb)], []) := by rw [HQ.out, HP.out, h59]; rfl
            have ho : Own w1 w.heap.size 3 .i64 v' (refQ ((bytesOf s).take (k + 1))).1 := by rw [e]; exact hown'
            clear hown' hgrow
            go_roundw
            case rel => exact ⟨k + 1, ⟨#[]⟩, by omega, by go_num, rfl, hbel, ho, by rw [e]; rfl, Nat.zero_le _⟩
            case measure => simp [intOf]; omega
          · clear hpd
            have e : refQ ((bytesOf s).take (k + 1)) = ((refQ ((bytesOf s).take k)).1, (refQ ((bytesOf s).take k)).2 ++ [(s[k].toNat : Int)]) := by rw [HQ.out, refS, if_neg (by omega)]
            have hx1 := bytesOf_one s k hlt
            have hx2 : (s.extract k (k + 1)).size = 1 := by rw [← bytesOf_len, hx1]; rfl
            have HX1 := Lib.hid hx1
            clear hx1
            go_wp2_with fail
            go_roundw
            case rel => exact ⟨k + 1, pb ++ s.extract k (k + 1), by omega, by go_num, rfl, hbl, by rw [e]; exact hown, by unfold Hid; rw [bytesOf_app, HX1.out, HP.out, e], by rw [ByteArray.size_append, hx2]; omega⟩
            case measure => simp [intOf]; omega
        · have ep : (bytesOf s).take k = bytesOf s := List.take_of_length_le (by rw [bytesOf_len]; omega)
          have hlen := bytesOf_len s
          rw [ep] at hown HP hql
          have HPD := Lib.hid hpd
          clear hpd hql2 HG ep
          go_wp2_with (first | (go_at_call 79; with_reducible (refine (number_any pb _ (by omega) HPD.out).mono ?_); rintro e w1 ⟨rfl, rfl⟩) | (at_builtin; refine wpList_app rfl _ _ 50 3 .i64 8 rfl Try.underlying50 el64 w.heap.size _ _ (refQ (bytesOf s)).1 _ (Own.kept hown ((Below.refl _ _).alloc (Nat.le_refl _) _)) (Rd.lit1 _ _ _ _ _ (by simp)) rfl rfl (by simp [maxLen]; omega) (by simp; omega) (by simp; omega) ?_; intro v' w1 hown' hgrow _; obtain ⟨p', n', c', hv'⟩ := hown'.rd.shape; subst hv'; have hln := hown'.len; simp only [List.length_append, List.length_cons, List.length_nil, maxLen] at hln))
          all_goals
            go_ret2
            refine ⟨_, rfl, ?_, hbl.trans (((Below.refl _ _).alloc hbl.size _).trans hgrow)⟩
            rw [HP.out] at hown'
            first
              | exact hown'.cut (m := 16) (by omega) (by omega)
              | (have e16 : refL (bytesOf s) = (refQ (bytesOf s)).1 ++ [numP (refQ (bytesOf s)).2] := List.take_of_length_le (by simp only [List.length_append, List.length_cons, List.length_nil]; omega)
                 rw [e16]
                 have hq := hln.1
                 subst hq
                 exact hown')

end Go.Proofs.Ytpkkfcfkhiaggaa.Pm
