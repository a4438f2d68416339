/- parser: the reference, the parts of a control sequence. Printed by mk_n.py. parser: the reference, the name and the text of a state. Printed by mk_o.py. parser: the reference, equal actions. Printed by mk_p.py. -/
import Derived.Test.YtpkkfcfkhiaggaaLM
import Derived.Deep.CutBlock
import Derived.Deep.DeepCutAuto
import Derived.Outline
set_option linter.unusedSimpArgs false
set_option linter.unusedVariables false
set_option linter.unnecessarySimpa false
namespace Go.Proofs.Ytpkkfcfkhiaggaa
open Go.RowKit
open Go.Proofs.Ytpkkfcfkhiaggaa.Pm (fineR addB addO bldQ refL bldC BldV bldC_len)

theorem results_tmp4 {fn : Func} {t u v x : Tmp} (h : fn.results = #[.tmp t, .tmp u, .tmp v, .tmp x]) (tmps : Array Value) (P : Program) (w : World) : (results fn tmps).run P w = .ok (.tuple #[tmps.getD t undef, tmps.getD u undef, tmps.getD v undef, tmps.getD x undef]) w := by
  simp [results, h]
theorem wrap32_id (n : Int) (h : -2147483648 ≤ n ∧ n ≤ 2147483647) : wrap32 n = n := by unfold wrap32; omega
theorem byte_at (s : ByteArray) (m : Nat) (h : m < s.size) : Byte (s[m].toNat : Int) := ⟨by omega, by have := s[m].toNat_lt; omega⟩
theorem get_at (s : ByteArray) (k : Nat) (h : k < s.size) : (bytesOf s)[k]? = some (s[k].toNat : Int) := by
  rw [List.getElem?_eq_getElem (by rw [bytesOf_len]; exact h)]
  simp [bytesOf]; rfl
theorem drop_at (s : ByteArray) (k m : Nat) (h1 : k ≤ m) (h : m < s.size) : ((bytesOf s).drop k)[m - k]? = some (s[m].toNat : Int) := by
  rw [List.getElem?_drop, show k + (m - k) = m by omega]; exact get_at s m h
theorem take_one0 (l : List Int) (k : Nat) (c : Int) {f : Int → Bool} (hg : l[k]? = some c) (h : ∀ x ∈ l.take k, f x = true) (hc : f c = true) : ∀ x ∈ l.take (k + 1), f x = true := by
  intro x hx
  rw [List.take_add_one, hg] at hx
  rcases List.mem_append.1 hx with hx | hx
  · exact h x hx
  · have : x = c := by simpa using hx
    rw [this]; exact hc
theorem take_one (l : List Int) (k m : Nat) (c : Int) {f : Int → Bool} (hm : k ≤ m) (hg : l[m - k]? = some c) (h : ∀ x ∈ l.take (m - k), f x = true) (hc : f c = true) : ∀ x ∈ l.take (m + 1 - k), f x = true := by
  rw [show m + 1 - k = m - k + 1 by omega]
  exact take_one0 l _ c hg h hc
theorem not_all2 (l : List Int) (k : Nat) (c : Int) {f : Int → Bool} (hg : l[k]? = some c) (hc : f c = false) : l.all f = false := by
  rw [List.all_eq_false]
  exact ⟨c, List.mem_of_getElem? hg, by rw [hc]; decide⟩
theorem all_of (l : List Int) (n : Nat) {f : Int → Bool} (hn : l.length ≤ n) (h : ∀ x ∈ l.take n, f x = true) : l.all f = true := by
  rw [List.take_of_length_le hn] at h
  rw [List.all_eq_true]; exact h
theorem isC_of {l0 l : List Int} {k : Nat} (h : digs l0 = l.take k ∧ ints l0 = l.drop k) : isC l0 = (l.drop k).all isI := by unfold isC; rw [h.2]
theorem split_at (l0 l : List Int) (k : Nat) (hr : rst l0 = l) (h : ∀ c ∈ l.take k, fineR c = true) (h2 : ∀ c, l[k]? = some c → fineR c = false) : digs l0 = l.take k ∧ ints l0 = l.drop k := by
  unfold digs ints
  rw [hr]
  clear hr
  induction l generalizing k with
  | nil => simp
  | cons a l ih =>
    cases k with
    | zero =>
      have := h2 a rfl
      simp [List.takeWhile_cons, List.dropWhile_cons, this]
    | succ k =>
      have ha := h a (by simp)
      have := ih k (fun c hc => h c (by simp [hc])) (fun c hc => h2 c (by simpa using hc))
      simp [List.takeWhile_cons, List.dropWhile_cons, ha, this]
theorem bytesOf_ext (s : ByteArray) (a b : Nat) : bytesOf (s.extract a b) = ((bytesOf s).drop a).take (b - a) := by
  simp [bytesOf, ByteArray.data_extract]
theorem ext_take (s : ByteArray) (k : Nat) : s.extract 0 k = strOfNums ((bytesOf s).take k) := by
  rw [← strOf_bytesOf (s.extract 0 k), bytesOf_ext]; simp
theorem ext_drop (s : ByteArray) (k : Nat) : s.extract k s.size = strOfNums ((bytesOf s).drop k) := by
  rw [← strOf_bytesOf (s.extract k s.size), bytesOf_ext, List.take_of_length_le (by rw [List.length_drop, bytesOf_len]; omega)]
def partsV (l : List Int) : Array Value := if isC l then #[.int .i32 (pfx l), .string (strOfNums (digs l)), .string (strOfNums (ints l)), .bool true] else #[.int .i32 0, .string ⟨#[]⟩, .string ⟨#[]⟩, .bool false]
theorem parts_no {l : List Int} (h : isC l = false) : partsV l = #[.int .i32 0, .string ⟨#[]⟩, .string ⟨#[]⟩, .bool false] := by unfold partsV; rw [if_neg (by rw [h]; decide)]
theorem parts_yes {l0 l : List Int} {k : Nat} {x : Int} (hp : pfx l0 = x) (hd : digs l0 = l.take k ∧ ints l0 = l.drop k) (h : isC l0 = true) : partsV l0 = #[.int .i32 x, .string (strOfNums (l.take k)), .string (strOfNums (l.drop k)), .bool true] := by unfold partsV; rw [if_pos h, hp, hd.1, hd.2]
set_option maxHeartbeats 4000000 in
set_option maxRecDepth 100000 in
theorem parts_any (s : ByteArray) (w : World) (hs : s.size ≤ 1000000) : Calls Try.prog 59 #[.string s] w fun e w' => e = .returned (.tuple (partsV (bytesOf s))) ∧ Below w.heap.size w w' := by
  by_cases h0 : s.size = 0
  · have e : bytesOf s = [] := List.eq_nil_of_length_eq_zero (by rw [bytesOf_len]; exact h0)
    have z0 : s.data.toList = [] := List.eq_nil_of_length_eq_zero (Array.length_toList.trans h0)
    have z : s.toList = [] := by rw [ByteArray.toList_eq]; exact z0
    have HR : Hid (rst (bytesOf s) = bytesOf s) := Lib.hid (by rw [e]; rfl)
    have HPX : Hid (pfx (bytesOf s) = 0) := Lib.hid (by rw [e]; rfl)
    generalize hl0 : bytesOf s = l0 at HPX ⊢
    have HR : Hid (rst l0 = bytesOf s) := Lib.hid (by rw [← hl0]; exact HR.out)
    clear e z0 hl0
    go_enter Try.func59, Try.ntmps59
    go_wp2_with fail
    clear h0 z
    go_loop [7] (fun i => ∃ k : Nat, k ≤ s.size ∧ i = .int .i64 k ∧ Hid (∀ c ∈ (bytesOf s).take k, fineR c = true)) (fun i => s.size - (intOf i).toNat)
    case atStart => exact ⟨0, Nat.zero_le _, rfl, by (unfold Hid; simp)⟩
    case round =>
      obtain ⟨k, hk, rfl, HF⟩ := hrel
      by_cases hlt : k < s.size
      · have cF := fun W => Pm.fine_any (s[k].toNat : Int) W
        have hgk := get_at s k hlt
        have hw := wrap32_id (s[k].toNat : Int) (by have := byte_at s k hlt; unfold Byte at this; omega)
        cases hf : fineR (s[k].toNat : Int)
        · rw [hf] at cF
          have HD : Hid (digs l0 = (bytesOf s).take k ∧ ints l0 = (bytesOf s).drop k) := Lib.hid (split_at _ _ k HR.out HF.out (fun c hc => by rw [hgk] at hc; injection hc with hc; rw [← hc]; exact hf))
          clear hgk hf
          go_wp2_with (first | (go_at_call 74; (with_reducible refine (cF _).mono ?_); rintro e w1 ⟨rfl, rfl⟩))
          go_loop [8] (fun j => ∃ m : Nat, k ≤ m ∧ m ≤ s.size ∧ j = .int .i64 m ∧ Hid (∀ c ∈ ((bytesOf s).drop k).take (m - k), isI c = true)) (fun j => s.size - (intOf j).toNat)
          case atStart => exact ⟨k, Nat.le_refl _, by omega, rfl, by (unfold Hid; simp)⟩
          case round =>
            obtain ⟨m, hm1, hm2, rfl, HI⟩ := hrel
            by_cases hltm : m < s.size
            · have hby : Byte (s[m].toNat : Int) := byte_at s m hltm
              have hgm := drop_at s k m hm1 hltm
              have cI := fun W => inter_any (s[m].toNat : Int) W hby
              cases hi : isI (s[m].toNat : Int)
              · rw [hi] at cI
                have HN : Hid (partsV l0 = #[.int .i32 0, .string ⟨#[]⟩, .string ⟨#[]⟩, .bool false]) := Lib.hid (parts_no (by rw [isC_of HD.out]; exact not_all2 _ _ _ hgm hi))
                clear hgm hby hi
                go_wp2_with (first | (go_at_call 75; (with_reducible refine (cI _).mono ?_); rintro e w1 ⟨rfl, rfl⟩))
                ((try simp only [Exit.inBlock, Exit.then]); refine bodyPost_ret (results_tmp4 rfl _ _ _) rfl ?_)
                exact ⟨by rw [HN.out]; rfl, Below.refl _ _⟩
              · rw [hi] at cI
                have HI2 : Hid (∀ c ∈ ((bytesOf s).drop k).take (m + 1 - k), isI c = true) := Lib.hid (take_one _ _ _ _ hm1 hgm HI.out hi)
                clear hgm hby hi
                go_wp2_with (first | (go_at_call 75; (with_reducible refine (cI _).mono ?_); rintro e w1 ⟨rfl, rfl⟩))
                go_round
                case rel => exact ⟨m + 1, by omega, by omega, by go_num, HI2⟩
                case measure => simp [intOf]; omega
            · obtain rfl : m = s.size := by omega
              have HY : Hid (partsV l0 = #[.int .i32 0, .string (strOfNums ((bytesOf s).take k)), .string (strOfNums ((bytesOf s).drop k)), .bool true]) := Lib.hid (parts_yes HPX.out HD.out (by rw [isC_of HD.out]; exact all_of _ _ (by rw [List.length_drop, bytesOf_len]; omega) HI.out))
              have x1 := ext_take s k
              have x2 := ext_drop s k
              go_wp2_with fail
              first | refine wp_grow2 (by kernel_rfl) (by kernel_rfl) ?_ | refine wp_grow (by kernel_rfl) (by kernel_rfl) ?_
              repeat (go_big_quiet_step (fail))
              refine wpQuiet_nil ?_
              rintro _ ⟨X, rfl⟩
              go_wp2_with fail
              ((try simp only [Exit.inBlock, Exit.then]); refine bodyPost_ret (results_tmp4 rfl _ _ _) rfl ?_)
              exact ⟨by rw [HY.out]; rfl, GW.grow _⟩
        · rw [hf] at cF
          have HF2 : Hid (∀ c ∈ (bytesOf s).take (k + 1), fineR c = true) := Lib.hid (take_one0 _ _ _ hgk HF.out hf)
          clear hgk hf
          go_wp2_with (first | (go_at_call 74; (with_reducible refine (cF _).mono ?_); rintro e w1 ⟨rfl, rfl⟩))
          go_round
          case rel => exact ⟨k + 1, by omega, by go_num, HF2⟩
          case measure => simp [intOf]; omega
      · have HD : Hid (digs l0 = (bytesOf s).take k ∧ ints l0 = (bytesOf s).drop k) := Lib.hid (split_at _ _ k HR.out HF.out (fun c hc => by rw [List.getElem?_eq_none (by rw [bytesOf_len]; omega)] at hc; cases hc))
        have hkI : ¬ ((k : Int) < (s.size : Int)) := by omega
        have hkL : s.size ≤ k := by omega
        clear hlt
        go_wp2_with fail
        go_loop [8] (fun j => j = .int .i64 k) (fun j => 0)
        case atStart => rfl
        case round =>
          subst hrel
          have HY : Hid (partsV l0 = #[.int .i32 0, .string (strOfNums ((bytesOf s).take k)), .string (strOfNums ((bytesOf s).drop k)), .bool true]) := Lib.hid (parts_yes HPX.out HD.out (by rw [isC_of HD.out]; exact all_of _ 0 (by rw [List.length_drop, bytesOf_len]; omega) (by simp)))
          have x1 := ext_take s k
          have x2 := ext_drop s k
          go_wp2_with fail
          first | refine wp_grow2 (by kernel_rfl) (by kernel_rfl) ?_ | refine wp_grow (by kernel_rfl) (by kernel_rfl) ?_
          repeat (go_big_quiet_step (fail))
          refine wpQuiet_nil ?_
          rintro _ ⟨X, rfl⟩
          go_wp2_with fail
          ((try simp only [Exit.inBlock, Exit.then]); refine bodyPost_ret (results_tmp4 rfl _ _ _) rfl ?_)
          exact ⟨by rw [HY.out]; rfl, GW.grow _⟩
  have z : s.toList.isEmpty = false := by
    rw [ByteArray.toList_eq]
    cases hz : s.data.toList with
    | nil => exact absurd (Array.length_toList.symm.trans (congrArg List.length hz)) h0
    | cons a l => rfl
  have hp0 : 0 < s.size := by omega
  have hg0 := get_at s 0 hp0
  have hby := byte_at s 0 hp0
  obtain ⟨t, ht⟩ : ∃ t, bytesOf s = (s[0].toNat : Int) :: t := by
    cases hq : bytesOf s with
    | nil => rw [hq] at hg0; cases hg0
    | cons a l => rw [hq] at hg0; injection hg0 with hg0; exact ⟨l, by rw [hg0]⟩
  clear hg0
  by_cases hlo : 60 ≤ (s[0].toNat : Int)
  · by_cases hhi : (s[0].toNat : Int) ≤ 63
    · have HR : Hid (rst (bytesOf s) = bytesOf (s.extract 1 s.size)) := Lib.hid (by rw [bytesOf_ext, List.take_of_length_le (by rw [List.length_drop, bytesOf_len]; omega), ht]; unfold rst; rw [if_pos ⟨hlo, hhi⟩]; rfl)
      have HPX : Hid (pfx (bytesOf s) = (s[0].toNat : Int)) := Lib.hid (by rw [ht]; unfold pfx; rw [if_pos ⟨hlo, hhi⟩]; rfl)
      have hsx : (s.extract 1 s.size).size = s.size - 1 := by simp
      have hs1 : (s.extract 1 s.size).size ≤ 1000000 := by omega
      have hw0 := wrap32_id (s[0].toNat : Int) (by unfold Byte at hby; omega)
      generalize hl0 : bytesOf s = l0 at HPX HR ⊢
      clear ht hl0 hby hsx
      generalize hx0 : (s[0].toNat : Int) = x0 at *
      go_enter Try.func59, Try.ntmps59
      go_wp2_with fail
      generalize s.extract 1 s.size = s1 at *
      clear h0 z hs hlo hhi
      go_loop [7] (fun i => ∃ k : Nat, k ≤ s1.size ∧ i = .int .i64 k ∧ Hid (∀ c ∈ (bytesOf s1).take k, fineR c = true)) (fun i => s1.size - (intOf i).toNat)
      case atStart => exact ⟨0, Nat.zero_le _, rfl, by (unfold Hid; simp)⟩
      case round =>
        obtain ⟨k, hk, rfl, HF⟩ := hrel
        by_cases hlt : k < s1.size
        · have cF := fun W => Pm.fine_any (s1[k].toNat : Int) W
          have hgk := get_at s1 k hlt
          have hw := wrap32_id (s1[k].toNat : Int) (by have := byte_at s1 k hlt; unfold Byte at this; omega)
          cases hf : fineR (s1[k].toNat : Int)
          · rw [hf] at cF
            have HD : Hid (digs l0 = (bytesOf s1).take k ∧ ints l0 = (bytesOf s1).drop k) := Lib.hid (split_at _ _ k HR.out HF.out (fun c hc => by rw [hgk] at hc; injection hc with hc; rw [← hc]; exact hf))
            clear hgk hf
            go_wp2_with (first | (go_at_call 74; (with_reducible refine (cF _).mono ?_); rintro e w1 ⟨rfl, rfl⟩))
            go_loop [8] (fun j => ∃ m : Nat, k ≤ m ∧ m ≤ s1.size ∧ j = .int .i64 m ∧ Hid (∀ c ∈ ((bytesOf s1).drop k).take (m - k), isI c = true)) (fun j => s1.size - (intOf j).toNat)
            case atStart => exact ⟨k, Nat.le_refl _, by omega, rfl, by (unfold Hid; simp)⟩
            case round =>
              obtain ⟨m, hm1, hm2, rfl, HI⟩ := hrel
              by_cases hltm : m < s1.size
              · have hby : Byte (s1[m].toNat : Int) := byte_at s1 m hltm
                have hgm := drop_at s1 k m hm1 hltm
                have cI := fun W => inter_any (s1[m].toNat : Int) W hby
                cases hi : isI (s1[m].toNat : Int)
                · rw [hi] at cI
                  have HN : Hid (partsV l0 = #[.int .i32 0, .string ⟨#[]⟩, .string ⟨#[]⟩, .bool false]) := Lib.hid (parts_no (by rw [isC_of HD.out]; exact not_all2 _ _ _ hgm hi))
                  clear hgm hby hi
                  go_wp2_with (first | (go_at_call 75; (with_reducible refine (cI _).mono ?_); rintro e w1 ⟨rfl, rfl⟩))
                  ((try simp only [Exit.inBlock, Exit.then]); refine bodyPost_ret (results_tmp4 rfl _ _ _) rfl ?_)
                  exact ⟨by rw [HN.out]; rfl, Below.refl _ _⟩
                · rw [hi] at cI
                  have HI2 : Hid (∀ c ∈ ((bytesOf s1).drop k).take (m + 1 - k), isI c = true) := Lib.hid (take_one _ _ _ _ hm1 hgm HI.out hi)
                  clear hgm hby hi
                  go_wp2_with (first | (go_at_call 75; (with_reducible refine (cI _).mono ?_); rintro e w1 ⟨rfl, rfl⟩))
                  go_round
                  case rel => exact ⟨m + 1, by omega, by omega, by go_num, HI2⟩
                  case measure => simp [intOf]; omega
              · obtain rfl : m = s1.size := by omega
                have HY : Hid (partsV l0 = #[.int .i32 x0, .string (strOfNums ((bytesOf s1).take k)), .string (strOfNums ((bytesOf s1).drop k)), .bool true]) := Lib.hid (parts_yes HPX.out HD.out (by rw [isC_of HD.out]; exact all_of _ _ (by rw [List.length_drop, bytesOf_len]; omega) HI.out))
                have x1 := ext_take s1 k
                have x2 := ext_drop s1 k
                go_wp2_with fail
                first | refine wp_grow2 (by kernel_rfl) (by kernel_rfl) ?_ | refine wp_grow (by kernel_rfl) (by kernel_rfl) ?_
                repeat (go_big_quiet_step (fail))
                refine wpQuiet_nil ?_
                rintro _ ⟨X, rfl⟩
                go_wp2_with fail
                ((try simp only [Exit.inBlock, Exit.then]); refine bodyPost_ret (results_tmp4 rfl _ _ _) rfl ?_)
                exact ⟨by rw [HY.out]; rfl, GW.grow _⟩
          · rw [hf] at cF
            have HF2 : Hid (∀ c ∈ (bytesOf s1).take (k + 1), fineR c = true) := Lib.hid (take_one0 _ _ _ hgk HF.out hf)
            clear hgk hf
            go_wp2_with (first | (go_at_call 74; (with_reducible refine (cF _).mono ?_); rintro e w1 ⟨rfl, rfl⟩))
            go_round
            case rel => exact ⟨k + 1, by omega, by go_num, HF2⟩
            case measure => simp [intOf]; omega
        · have HD : Hid (digs l0 = (bytesOf s1).take k ∧ ints l0 = (bytesOf s1).drop k) := Lib.hid (split_at _ _ k HR.out HF.out (fun c hc => by rw [List.getElem?_eq_none (by rw [bytesOf_len]; omega)] at hc; cases hc))
          have hkI : ¬ ((k : Int) < (s1.size : Int)) := by omega
          have hkL : s1.size ≤ k := by omega
          clear hlt
          go_wp2_with fail
          go_loop [8] (fun j => j = .int .i64 k) (fun j => 0)
          case atStart => rfl
          case round =>
            subst hrel
            have HY : Hid (partsV l0 = #[.int .i32 x0, .string (strOfNums ((bytesOf s1).take k)), .string (strOfNums ((bytesOf s1).drop k)), .bool true]) := Lib.hid (parts_yes HPX.out HD.out (by rw [isC_of HD.out]; exact all_of _ 0 (by rw [List.length_drop, bytesOf_len]; omega) (by simp)))
            have x1 := ext_take s1 k
            have x2 := ext_drop s1 k
            go_wp2_with fail
            first | refine wp_grow2 (by kernel_rfl) (by kernel_rfl) ?_ | refine wp_grow (by kernel_rfl) (by kernel_rfl) ?_
            repeat (go_big_quiet_step (fail))
            refine wpQuiet_nil ?_
            rintro _ ⟨X, rfl⟩
            go_wp2_with fail
            ((try simp only [Exit.inBlock, Exit.then]); refine bodyPost_ret (results_tmp4 rfl _ _ _) rfl ?_)
            exact ⟨by rw [HY.out]; rfl, GW.grow _⟩
    · have HR : Hid (rst (bytesOf s) = bytesOf s) := Lib.hid (by rw [ht]; unfold rst; rw [if_neg (fun k => hhi k.2)])
      have HPX : Hid (pfx (bytesOf s) = 0) := Lib.hid (by rw [ht]; unfold pfx; rw [if_neg (fun k => hhi k.2)])
      generalize hl0 : bytesOf s = l0 at HPX ⊢
      have HR : Hid (rst l0 = bytesOf s) := Lib.hid (by rw [← hl0]; exact HR.out)
      clear ht hl0 hby
      go_enter Try.func59, Try.ntmps59
      go_wp2_with fail
      clear h0 z hhi
      go_loop [7] (fun i => ∃ k : Nat, k ≤ s.size ∧ i = .int .i64 k ∧ Hid (∀ c ∈ (bytesOf s).take k, fineR c = true)) (fun i => s.size - (intOf i).toNat)
      case atStart => exact ⟨0, Nat.zero_le _, rfl, by (unfold Hid; simp)⟩
      case round =>
        obtain ⟨k, hk, rfl, HF⟩ := hrel
        by_cases hlt : k < s.size
        · have cF := fun W => Pm.fine_any (s[k].toNat : Int) W
          have hgk := get_at s k hlt
          have hw := wrap32_id (s[k].toNat : Int) (by have := byte_at s k hlt; unfold Byte at this; omega)
          cases hf : fineR (s[k].toNat : Int)
          · rw [hf] at cF
            have HD : Hid (digs l0 = (bytesOf s).take k ∧ ints l0 = (bytesOf s).drop k) := Lib.hid (split_at _ _ k HR.out HF.out (fun c hc => by rw [hgk] at hc; injection hc with hc; rw [← hc]; exact hf))
            clear hgk hf
            go_wp2_with (first | (go_at_call 74; (with_reducible refine (cF _).mono ?_); rintro e w1 ⟨rfl, rfl⟩))
            go_loop [8] (fun j => ∃ m : Nat, k ≤ m ∧ m ≤ s.size ∧ j = .int .i64 m ∧ Hid (∀ c ∈ ((bytesOf s).drop k).take (m - k), isI c = true)) (fun j => s.size - (intOf j).toNat)
            case atStart => exact ⟨k, Nat.le_refl _, by omega, rfl, by (unfold Hid; simp)⟩
            case round =>
              obtain ⟨m, hm1, hm2, rfl, HI⟩ := hrel
              by_cases hltm : m < s.size
              · have hby : Byte (s[m].toNat : Int) := byte_at s m hltm
                have hgm := drop_at s k m hm1 hltm
                have cI := fun W => inter_any (s[m].toNat : Int) W hby
                cases hi : isI (s[m].toNat : Int)
                · rw [hi] at cI
                  have HN : Hid (partsV l0 = #[.int .i32 0, .string ⟨#[]⟩, .string ⟨#[]⟩, .bool false]) := Lib.hid (parts_no (by rw [isC_of HD.out]; exact not_all2 _ _ _ hgm hi))
                  clear hgm hby hi
                  go_wp2_with (first | (go_at_call 75; (with_reducible refine (cI _).mono ?_); rintro e w1 ⟨rfl, rfl⟩))
                  ((try simp only [Exit.inBlock, Exit.then]); refine bodyPost_ret (results_tmp4 rfl _ _ _) rfl ?_)
                  exact ⟨by rw [HN.out]; rfl, Below.refl _ _⟩
                · rw [hi] at cI
                  have HI2 : Hid (∀ c ∈ ((bytesOf s).drop k).take (m + 1 - k), isI c = true) := Lib.hid (take_one _ _ _ _ hm1 hgm HI.out hi)
                  clear hgm hby hi
                  go_wp2_with (first | (go_at_call 75; (with_reducible refine (cI _).mono ?_); rintro e w1 ⟨rfl, rfl⟩))
                  go_round
                  case rel => exact ⟨m + 1, by omega, by omega, by go_num, HI2⟩
                  case measure => simp [intOf]; omega
              · obtain rfl : m = s.size := by omega
                have HY : Hid (partsV l0 = #[.int .i32 0, .string (strOfNums ((bytesOf s).take k)), .string (strOfNums ((bytesOf s).drop k)), .bool true]) := Lib.hid (parts_yes HPX.out HD.out (by rw [isC_of HD.out]; exact all_of _ _ (by rw [List.length_drop, bytesOf_len]; omega) HI.out))
                have x1 := ext_take s k
                have x2 := ext_drop s k
                go_wp2_with fail
                first | refine wp_grow2 (by kernel_rfl) (by kernel_rfl) ?_ | refine wp_grow (by kernel_rfl) (by kernel_rfl) ?_
                repeat (go_big_quiet_step (fail))
                refine wpQuiet_nil ?_
                rintro _ ⟨X, rfl⟩
                go_wp2_with fail
                ((try simp only [Exit.inBlock, Exit.then]); refine bodyPost_ret (results_tmp4 rfl _ _ _) rfl ?_)
                exact ⟨by rw [HY.out]; rfl, GW.grow _⟩
          · rw [hf] at cF
            have HF2 : Hid (∀ c ∈ (bytesOf s).take (k + 1), fineR c = true) := Lib.hid (take_one0 _ _ _ hgk HF.out hf)
            clear hgk hf
            go_wp2_with (first | (go_at_call 74; (with_reducible refine (cF _).mono ?_); rintro e w1 ⟨rfl, rfl⟩))
            go_round
            case rel => exact ⟨k + 1, by omega, by go_num, HF2⟩
            case measure => simp [intOf]; omega
        · have HD : Hid (digs l0 = (bytesOf s).take k ∧ ints l0 = (bytesOf s).drop k) := Lib.hid (split_at _ _ k HR.out HF.out (fun c hc => by rw [List.getElem?_eq_none (by rw [bytesOf_len]; omega)] at hc; cases hc))
          have hkI : ¬ ((k : Int) < (s.size : Int)) := by omega
          have hkL : s.size ≤ k := by omega
          clear hlt
          go_wp2_with fail
          go_loop [8] (fun j => j = .int .i64 k) (fun j => 0)
          case atStart => rfl
          case round =>
            subst hrel
            have HY : Hid (partsV l0 = #[.int .i32 0, .string (strOfNums ((bytesOf s).take k)), .string (strOfNums ((bytesOf s).drop k)), .bool true]) := Lib.hid (parts_yes HPX.out HD.out (by rw [isC_of HD.out]; exact all_of _ 0 (by rw [List.length_drop, bytesOf_len]; omega) (by simp)))
            have x1 := ext_take s k
            have x2 := ext_drop s k
            go_wp2_with fail
            first | refine wp_grow2 (by kernel_rfl) (by kernel_rfl) ?_ | refine wp_grow (by kernel_rfl) (by kernel_rfl) ?_
            repeat (go_big_quiet_step (fail))
            refine wpQuiet_nil ?_
            rintro _ ⟨X, rfl⟩
            go_wp2_with fail
            ((try simp only [Exit.inBlock, Exit.then]); refine bodyPost_ret (results_tmp4 rfl _ _ _) rfl ?_)
            exact ⟨by rw [HY.out]; rfl, GW.grow _⟩
  · have HR : Hid (rst (bytesOf s) = bytesOf s) := Lib.hid (by rw [ht]; unfold rst; rw [if_neg (fun k => hlo k.1)])
    have HPX : Hid (pfx (bytesOf s) = 0) := Lib.hid (by rw [ht]; unfold pfx; rw [if_neg (fun k => hlo k.1)])
    generalize hl0 : bytesOf s = l0 at HPX ⊢
    have HR : Hid (rst l0 = bytesOf s) := Lib.hid (by rw [← hl0]; exact HR.out)
    clear ht hl0 hby
    go_enter Try.func59, Try.ntmps59
    go_wp2_with fail
    clear h0 z
    go_loop [7] (fun i => ∃ k : Nat, k ≤ s.size ∧ i = .int .i64 k ∧ Hid (∀ c ∈ (bytesOf s).take k, fineR c = true)) (fun i => s.size - (intOf i).toNat)
    case atStart => exact ⟨0, Nat.zero_le _, rfl, by (unfold Hid; simp)⟩
    case round =>
      obtain ⟨k, hk, rfl, HF⟩ := hrel
      by_cases hlt : k < s.size
      · have cF := fun W => Pm.fine_any (s[k].toNat : Int) W
        have hgk := get_at s k hlt
        have hw := wrap32_id (s[k].toNat : Int) (by have := byte_at s k hlt; unfold Byte at this; omega)
        cases hf : fineR (s[k].toNat : Int)
        · rw [hf] at cF
          have HD : Hid (digs l0 = (bytesOf s).take k ∧ ints l0 = (bytesOf s).drop k) := Lib.hid (split_at _ _ k HR.out HF.out (fun c hc => by rw [hgk] at hc; injection hc with hc; rw [← hc]; exact hf))
          clear hgk hf
          go_wp2_with (first | (go_at_call 74; (with_reducible refine (cF _).mono ?_); rintro e w1 ⟨rfl, rfl⟩))
          go_loop [8] (fun j => ∃ m : Nat, k ≤ m ∧ m ≤ s.size ∧ j = .int .i64 m ∧ Hid (∀ c ∈ ((bytesOf s).drop k).take (m - k), isI c = true)) (fun j => s.size - (intOf j).toNat)
          case atStart => exact ⟨k, Nat.le_refl _, by omega, rfl, by (unfold Hid; simp)⟩
          case round =>
            obtain ⟨m, hm1, hm2, rfl, HI⟩ := hrel
            by_cases hltm : m < s.size
            · have hby : Byte (s[m].toNat : Int) := byte_at s m hltm
              have hgm := drop_at s k m hm1 hltm
              have cI := fun W => inter_any (s[m].toNat : Int) W hby
              cases hi : isI (s[m].toNat : Int)
              · rw [hi] at cI
                have HN : Hid (partsV l0 = #[.int .i32 0, .string ⟨#[]⟩, .string ⟨#[]⟩, .bool false]) := Lib.hid (parts_no (by rw [isC_of HD.out]; exact not_all2 _ _ _ hgm hi))
                clear hgm hby hi
                go_wp2_with (first | (go_at_call 75; (with_reducible refine (cI _).mono ?_); rintro e w1 ⟨rfl, rfl⟩))
                ((try simp only [Exit.inBlock, Exit.then]); refine bodyPost_ret (results_tmp4 rfl _ _ _) rfl ?_)
                exact ⟨by rw [HN.out]; rfl, Below.refl _ _⟩
              · rw [hi] at cI
                have HI2 : Hid (∀ c ∈ ((bytesOf s).drop k).take (m + 1 - k), isI c = true) := Lib.hid (take_one _ _ _ _ hm1 hgm HI.out hi)
                clear hgm hby hi
                go_wp2_with (first | (go_at_call 75; (with_reducible refine (cI _).mono ?_); rintro e w1 ⟨rfl, rfl⟩))
                go_round
                case rel => exact ⟨m + 1, by omega, by omega, by go_num, HI2⟩
                case measure => simp [intOf]; omega
            · obtain rfl : m = s.size := by omega
              have HY : Hid (partsV l0 = #[.int .i32 0, .string (strOfNums ((bytesOf s).take k)), .string (strOfNums ((bytesOf s).drop k)), .bool true]) := Lib.hid (parts_yes HPX.out HD.out (by rw [isC_of HD.out]; exact all_of _ _ (by rw [List.length_drop, bytesOf_len]; omega) HI.out))
              have x1 := ext_take s k
              have x2 := ext_drop s k
              go_wp2_with fail
              first | refine wp_grow2 (by kernel_rfl) (by kernel_rfl) ?_ | refine wp_grow (by kernel_rfl) (by kernel_rfl) ?_
              repeat (go_big_quiet_step (fail))
              refine wpQuiet_nil ?_
              rintro _ ⟨X, rfl⟩
              go_wp2_with fail
              ((try simp only [Exit.inBlock, Exit.then]); refine bodyPost_ret (results_tmp4 rfl _ _ _) rfl ?_)
              exact ⟨by rw [HY.out]; rfl, GW.grow _⟩
        · rw [hf] at cF
          have HF2 : Hid (∀ c ∈ (bytesOf s).take (k + 1), fineR c = true) := Lib.hid (take_one0 _ _ _ hgk HF.out hf)
          clear hgk hf
          go_wp2_with (first | (go_at_call 74; (with_reducible refine (cF _).mono ?_); rintro e w1 ⟨rfl, rfl⟩))
          go_round
          case rel => exact ⟨k + 1, by omega, by go_num, HF2⟩
          case measure => simp [intOf]; omega
      · have HD : Hid (digs l0 = (bytesOf s).take k ∧ ints l0 = (bytesOf s).drop k) := Lib.hid (split_at _ _ k HR.out HF.out (fun c hc => by rw [List.getElem?_eq_none (by rw [bytesOf_len]; omega)] at hc; cases hc))
        have hkI : ¬ ((k : Int) < (s.size : Int)) := by omega
        have hkL : s.size ≤ k := by omega
        clear hlt
        go_wp2_with fail
        go_loop [8] (fun j => j = .int .i64 k) (fun j => 0)
        case atStart => rfl
        case round =>
          subst hrel
          have HY : Hid (partsV l0 = #[.int .i32 0, .string (strOfNums ((bytesOf s).take k)), .string (strOfNums ((bytesOf s).drop k)), .bool true]) := Lib.hid (parts_yes HPX.out HD.out (by rw [isC_of HD.out]; exact all_of _ 0 (by rw [List.length_drop, bytesOf_len]; omega) (by simp)))
          have x1 := ext_take s k
          have x2 := ext_drop s k
          go_wp2_with fail
          first | refine wp_grow2 (by kernel_rfl) (by kernel_rfl) ?_ | refine wp_grow (by kernel_rfl) (by kernel_rfl) ?_
          repeat (go_big_quiet_step (fail))
          refine wpQuiet_nil ?_
          rintro _ ⟨X, rfl⟩
          go_wp2_with fail
          ((try simp only [Exit.inBlock, Exit.then]); refine bodyPost_ret (results_tmp4 rfl _ _ _) rfl ?_)
          exact ⟨by rw [HY.out]; rfl, GW.grow _⟩


end Go.Proofs.Ytpkkfcfkhiaggaa
namespace Go.Proofs.Ytpkkfcfkhiaggaa
open Go.RowKit
open Go.Proofs.Ytpkkfcfkhiaggaa.Pm (fineR addB addO bldQ refL bldC BldV bldC_len)

def opS : Nat → ByteArray
  | 0 => ⟨#[]⟩
  | 1 => ⟨#[101, 115, 99, 97, 112, 101]⟩
  | 2 => ⟨#[99, 111, 110, 116, 114, 111, 108]⟩
  | 3 => ⟨#[115, 116, 114, 105, 110, 103]⟩
  | _ => ⟨#[115, 107, 105, 112]⟩
theorem str_ne (l : List Int) (h : l ≠ []) : (strOfNums l).toList.isEmpty = false := by
  rw [ByteArray.toList_eq]
  unfold strOfNums
  cases l with
  | nil => exact absurd rfl h
  | cons a l => rfl
set_option maxHeartbeats 4000000 in
set_option maxRecDepth 100000 in
theorem rname_any (s : Rs) (q : Option Addr) (n c : Nat) (w : World) (hop : s.op ≤ 4) (hby : ∀ x ∈ s.sq, Byte x) (hsz : s.sq.length ≤ 1000000) : Calls Try.prog 33 #[.agg #[.string (opS s.op), .string (strOfNums s.sq), .slice q n c]] w fun e w' => e = .returned (.int .i64 (nameR s)) ∧ Below w.heap.size w w' := by
  obtain ⟨o, sq, d⟩ := s
  simp only at hop hby hsz ⊢
  have hbs : bytesOf (strOfNums sq) = sq := bytesOf_strOf sq hby
  match o, hop with
  | 0, _ =>
    show Calls Try.prog 33 #[.agg #[.string ⟨#[]⟩, .string (strOfNums sq), .slice q n c]] w fun e w' => e = .returned (.int .i64 0) ∧ Below w.heap.size w w'
    go_enter Try.func33, Try.ntmps33
    go_wp2_with fail
    go_ret
    exact ⟨rfl, (by repeat (first | with_reducible exact Below.refl _ _ | with_reducible assumption | with_reducible exact GW.grow _ | with_reducible refine bl_alloc ?_ _ | with_reducible refine Below.drew ?_ | (with_reducible refine Below.setCell ?_ ?_ _; rotate_left; focus (simp; first | done | omega)) | with_reducible refine bl_trans ?_ (GW.grow _) | (with_reducible refine bl_trans ?_ (by assumption))))⟩
  | 1, _ =>
    by_cases hn : sq = []
    · subst hn
      show Calls Try.prog 33 #[.agg #[.string ⟨#[101, 115, 99, 97, 112, 101]⟩, .string ⟨#[]⟩, .slice q n c]] w fun e w' => e = .returned (.int .i64 1) ∧ Below w.heap.size w w'
      go_enter Try.func33, Try.ntmps33
      go_wp2_with fail
      go_ret
      exact ⟨rfl, (by repeat (first | with_reducible exact Below.refl _ _ | with_reducible assumption | with_reducible exact GW.grow _ | with_reducible refine bl_alloc ?_ _ | with_reducible refine Below.drew ?_ | (with_reducible refine Below.setCell ?_ ?_ _; rotate_left; focus (simp; first | done | omega)) | with_reducible refine bl_trans ?_ (GW.grow _) | (with_reducible refine bl_trans ?_ (by assumption))))⟩
    · have HV : Hid (nameR ⟨1, sq, d⟩ = 2) := Lib.hid (by simp [nameR, hn])
      have z := str_ne sq hn
      rw [HV.out]
      show Calls Try.prog 33 #[.agg #[.string ⟨#[101, 115, 99, 97, 112, 101]⟩, .string (strOfNums sq), .slice q n c]] w _
      clear hbs hn
      go_enter Try.func33, Try.ntmps33
      go_wp2_with fail
      go_ret
      exact ⟨rfl, (by repeat (first | with_reducible exact Below.refl _ _ | with_reducible assumption | with_reducible exact GW.grow _ | with_reducible refine bl_alloc ?_ _ | with_reducible refine Below.drew ?_ | (with_reducible refine Below.setCell ?_ ?_ _; rotate_left; focus (simp; first | done | omega)) | with_reducible refine bl_trans ?_ (GW.grow _) | (with_reducible refine bl_trans ?_ (by assumption))))⟩
  | 2, _ =>
    have cP := fun W => parts_any (strOfNums sq) W (by rw [strOf_size]; exact hsz)
    rw [hbs] at cP
    have HV : Hid (nameR ⟨2, sq, d⟩ = nameC sq) := Lib.hid rfl
    rw [HV.out]
    show Calls Try.prog 33 #[.agg #[.string ⟨#[99, 111, 110, 116, 114, 111, 108]⟩, .string (strOfNums sq), .slice q n c]] w _
    by_cases hn : sq = []
    · subst hn
      rw [show partsV [] = #[.int .i32 0, .string ⟨#[]⟩, .string ⟨#[]⟩, .bool true] from rfl] at cP
      have cP : ∀ W, Calls Try.prog 59 #[.string ⟨#[]⟩] W fun e w' => e = .returned (.tuple #[.int .i32 0, .string ⟨#[]⟩, .string ⟨#[]⟩, .bool true]) ∧ Below W.heap.size W w' := cP
      show Calls Try.prog 33 #[.agg #[.string ⟨#[99, 111, 110, 116, 114, 111, 108]⟩, .string ⟨#[]⟩, .slice q n c]] w fun e w' => e = .returned (.int .i64 3) ∧ Below w.heap.size w w'
      clear hbs HV
      go_enter Try.func33, Try.ntmps33
      go_wp2_with (first | (go_at_call 59; (with_reducible refine (cP _).mono ?_); rintro e w1 ⟨rfl, hb1⟩; obtain ⟨X, rfl⟩ := GW.of hb1; clear hb1))
      go_ret
      exact ⟨rfl, bl_trans (bl_alloc (Below.refl _ _) _) (GW.grow _)⟩
    have z := str_ne sq hn
    cases hc : isC sq
    · rw [parts_no hc] at cP
      rw [show nameC sq = 6 from (name_six sq).2 hc]
      clear hbs HV hn hc
      go_enter Try.func33, Try.ntmps33
      go_wp2_with (first | (go_at_call 59; (with_reducible refine (cP _).mono ?_); rintro e w1 ⟨rfl, hb1⟩; obtain ⟨X, rfl⟩ := GW.of hb1; clear hb1))
      go_ret
      exact ⟨rfl, bl_trans (bl_alloc (Below.refl _ _) _) (GW.grow _)⟩
    · by_cases hi : ints sq = []
      · have HN : nameC sq = 4 := by unfold nameC; rw [if_neg hn, if_neg (by rw [hc]; decide), if_neg (by rw [hi]; simp)]
        have e : partsV sq = #[.int .i32 (pfx sq), .string (strOfNums (digs sq)), .string ⟨#[]⟩, .bool true] := by unfold partsV; rw [if_pos hc, hi]; rfl
        rw [e] at cP
        rw [HN]
        clear hbs HV hn hc e hi
        go_enter Try.func33, Try.ntmps33
        go_wp2_with (first | (go_at_call 59; (with_reducible refine (cP _).mono ?_); rintro e w1 ⟨rfl, hb1⟩; obtain ⟨X, rfl⟩ := GW.of hb1; clear hb1))
        go_ret
        exact ⟨rfl, bl_trans (bl_alloc (Below.refl _ _) _) (GW.grow _)⟩
      · have HN : nameC sq = 5 := by unfold nameC; rw [if_neg hn, if_neg (by rw [hc]; decide), if_pos hi]
        have e : partsV sq = #[.int .i32 (pfx sq), .string (strOfNums (digs sq)), .string (strOfNums (ints sq)), .bool true] := by unfold partsV; rw [if_pos hc]
        rw [e] at cP
        rw [HN]
        have z2 := str_ne (ints sq) hi
        clear hbs HV hn hc e hi
        go_enter Try.func33, Try.ntmps33
        go_wp2_with (first | (go_at_call 59; (with_reducible refine (cP _).mono ?_); rintro e w1 ⟨rfl, hb1⟩; obtain ⟨X, rfl⟩ := GW.of hb1; clear hb1))
        go_ret
        exact ⟨rfl, bl_trans (bl_alloc (Below.refl _ _) _) (GW.grow _)⟩
  | 3, _ =>
    show Calls Try.prog 33 #[.agg #[.string ⟨#[115, 116, 114, 105, 110, 103]⟩, .string (strOfNums sq), .slice q n c]] w fun e w' => e = .returned (.int .i64 7) ∧ Below w.heap.size w w'
    go_enter Try.func33, Try.ntmps33
    go_wp2_with fail
    go_ret
    exact ⟨rfl, (by repeat (first | with_reducible exact Below.refl _ _ | with_reducible assumption | with_reducible exact GW.grow _ | with_reducible refine bl_alloc ?_ _ | with_reducible refine Below.drew ?_ | (with_reducible refine Below.setCell ?_ ?_ _; rotate_left; focus (simp; first | done | omega)) | with_reducible refine bl_trans ?_ (GW.grow _) | (with_reducible refine bl_trans ?_ (by assumption))))⟩
  | 4, _ =>
    show Calls Try.prog 33 #[.agg #[.string ⟨#[115, 107, 105, 112]⟩, .string (strOfNums sq), .slice q n c]] w fun e w' => e = .returned (.int .i64 8) ∧ Below w.heap.size w w'
    go_enter Try.func33, Try.ntmps33
    go_wp2_with fail
    go_ret
    exact ⟨rfl, (by repeat (first | with_reducible exact Below.refl _ _ | with_reducible assumption | with_reducible exact GW.grow _ | with_reducible refine bl_alloc ?_ _ | with_reducible refine Below.drew ?_ | (with_reducible refine Below.setCell ?_ ?_ _; rotate_left; focus (simp; first | done | omega)) | with_reducible refine bl_trans ?_ (GW.grow _) | (with_reducible refine bl_trans ?_ (by assumption))))⟩
theorem rtext_any (s : Rs) (q : Option Addr) (n c : Nat) (w : World) (hop : s.op ≤ 4) : Calls Try.prog 34 #[.agg #[.string (opS s.op), .string (strOfNums s.sq), .slice q n c]] w fun e w' => e = .returned (.string (strOfNums (textR s))) ∧ Below w.heap.size w w' := by
  obtain ⟨o, sq, d⟩ := s
  simp only at hop ⊢
  match o, hop with
  | 0, _ =>
    show Calls Try.prog 34 #[.agg #[.string ⟨#[]⟩, .string (strOfNums sq), .slice q n c]] w fun e w' => e = .returned (.string ⟨#[]⟩) ∧ Below w.heap.size w w'
    go_enter Try.func34, Try.ntmps34
    go_wp2_with fail
    go_ret
    exact ⟨rfl, (by repeat (first | with_reducible exact Below.refl _ _ | with_reducible assumption | with_reducible exact GW.grow _ | with_reducible refine bl_alloc ?_ _ | with_reducible refine Below.drew ?_ | (with_reducible refine Below.setCell ?_ ?_ _; rotate_left; focus (simp; first | done | omega)) | with_reducible refine bl_trans ?_ (GW.grow _) | (with_reducible refine bl_trans ?_ (by assumption))))⟩
  | 1, _ =>
    show Calls Try.prog 34 #[.agg #[.string ⟨#[101, 115, 99, 97, 112, 101]⟩, .string (strOfNums sq), .slice q n c]] w fun e w' => e = .returned (.string ⟨#[]⟩) ∧ Below w.heap.size w w'
    go_enter Try.func34, Try.ntmps34
    go_wp2_with fail
    go_ret
    exact ⟨rfl, (by repeat (first | with_reducible exact Below.refl _ _ | with_reducible assumption | with_reducible exact GW.grow _ | with_reducible refine bl_alloc ?_ _ | with_reducible refine Below.drew ?_ | (with_reducible refine Below.setCell ?_ ?_ _; rotate_left; focus (simp; first | done | omega)) | with_reducible refine bl_trans ?_ (GW.grow _) | (with_reducible refine bl_trans ?_ (by assumption))))⟩
  | 2, _ =>
    show Calls Try.prog 34 #[.agg #[.string ⟨#[99, 111, 110, 116, 114, 111, 108]⟩, .string (strOfNums sq), .slice q n c]] w fun e w' => e = .returned (.string ⟨#[]⟩) ∧ Below w.heap.size w w'
    go_enter Try.func34, Try.ntmps34
    go_wp2_with fail
    go_ret
    exact ⟨rfl, (by repeat (first | with_reducible exact Below.refl _ _ | with_reducible assumption | with_reducible exact GW.grow _ | with_reducible refine bl_alloc ?_ _ | with_reducible refine Below.drew ?_ | (with_reducible refine Below.setCell ?_ ?_ _; rotate_left; focus (simp; first | done | omega)) | with_reducible refine bl_trans ?_ (GW.grow _) | (with_reducible refine bl_trans ?_ (by assumption))))⟩
  | 3, _ =>
    show Calls Try.prog 34 #[.agg #[.string ⟨#[115, 116, 114, 105, 110, 103]⟩, .string (strOfNums sq), .slice q n c]] w fun e w' => e = .returned (.string (strOfNums sq)) ∧ Below w.heap.size w w'
    go_enter Try.func34, Try.ntmps34
    go_wp2_with fail
    go_ret
    exact ⟨rfl, (by repeat (first | with_reducible exact Below.refl _ _ | with_reducible assumption | with_reducible exact GW.grow _ | with_reducible refine bl_alloc ?_ _ | with_reducible refine Below.drew ?_ | (with_reducible refine Below.setCell ?_ ?_ _; rotate_left; focus (simp; first | done | omega)) | with_reducible refine bl_trans ?_ (GW.grow _) | (with_reducible refine bl_trans ?_ (by assumption))))⟩
  | 4, _ =>
    show Calls Try.prog 34 #[.agg #[.string ⟨#[115, 107, 105, 112]⟩, .string (strOfNums sq), .slice q n c]] w fun e w' => e = .returned (.string ⟨#[]⟩) ∧ Below w.heap.size w w'
    go_enter Try.func34, Try.ntmps34
    go_wp2_with fail
    go_ret
    exact ⟨rfl, (by repeat (first | with_reducible exact Below.refl _ _ | with_reducible assumption | with_reducible exact GW.grow _ | with_reducible refine bl_alloc ?_ _ | with_reducible refine Below.drew ?_ | (with_reducible refine Below.setCell ?_ ?_ _; rotate_left; focus (simp; first | done | omega)) | with_reducible refine bl_trans ?_ (GW.grow _) | (with_reducible refine bl_trans ?_ (by assumption))))⟩

end Go.Proofs.Ytpkkfcfkhiaggaa
namespace Go.Proofs.Ytpkkfcfkhiaggaa
open Go.RowKit
open Go.Proofs.Ytpkkfcfkhiaggaa.Pm (fineR addB addO bldQ refL bldC BldV bldC_len)

set_option maxHeartbeats 4000000 in
set_option maxRecDepth 100000 in
theorem requal_any (a : Ac) (u v : Value) (w : World) (hu : Rd w .i64 u a.l) (hv : Rd w .i64 v a.l) : Calls Try.prog 32 #[.agg #[.int .i64 a.k, .int .i32 a.r, .int .i32 a.p, .string (strOfNums a.i), u, .string (strOfNums a.t)], .agg #[.int .i64 a.k, .int .i32 a.r, .int .i32 a.p, .string (strOfNums a.i), v, .string (strOfNums a.t)]] w fun e w' => e = .returned (.bool true) ∧ Below w.heap.size w w' := by
  obtain ⟨qu, nu, hue⟩ := Rd.lits hu
  obtain ⟨qv, nv, hve⟩ := Rd.lits hv
  subst hue hve
  have hb0 : Below w.heap.size w ((w.alloc (.cells #[.int .i64 a.k, .int .i32 a.r, .int .i32 a.p, .string (strOfNums a.i), .slice qu a.l.length nu, .string (strOfNums a.t)] 52)).alloc (.cells #[.int .i64 a.k, .int .i32 a.r, .int .i32 a.p, .string (strOfNums a.i), .slice qv a.l.length nv, .string (strOfNums a.t)] 52)) := bl_alloc (bl_alloc (Below.refl _ _) _) _
  have cS := Pm.same_true _ _ a.l a.l _ (hu.below hb0) (hv.below hb0) (Lib.hid rfl)
  clear hu hv
  go_enter Try.func32, Try.ntmps32
  go_wp2_with (first | (go_at_call 58; (with_reducible refine cS.mono ?_); rintro e w1 ⟨rfl, hb1⟩))
  go_ret
  exact ⟨rfl, bl_trans hb0 hb1⟩
set_option maxHeartbeats 4000000 in
set_option maxRecDepth 100000 in
theorem rsame_any (v1 v2 : Value) (al : List Ac) (w : World) (h1 : RdA w v1 al) (h2 : RdA w v2 al) : Calls Try.prog 12 #[v1, v2] w fun e w' => e = .returned (.bool true) ∧ Below w.heap.size w w' := by
  obtain ⟨xs, hm1, hx1, hp1⟩ := h1
  obtain ⟨ys, hm2, hx2, hp2⟩ := h2
  have hl1 : xs.length = al.length := by rw [← hm1, List.length_map]
  have hl2 : ys.length = al.length := by rw [← hm2, List.length_map]
  obtain ⟨p1, c1, rfl, l1, m1, d1⟩ := hx1
  obtain ⟨p2, c2, rfl, l2, m2, d2⟩ := hx2
  unfold maxLen at m1 m2
  have hle : xs.length = ys.length := by omega
  have HM1 := Lib.hid hm1
  have HM2 := Lib.hid hm2
  rw [hle]
  rw [hle] at l1
  generalize hN : ys.length = N at *
  clear hm1 hm2 hle
  go_enter Try.func12, Try.ntmps12
  go_wp2_with fail
  go_loopw [5] (fun i wr => ∃ k : Nat, k ≤ N ∧ i = .int .i64 k ∧ Below w.heap.size w wr) (fun i _ => N - (intOf i).toNat)
  case atStart => exact ⟨0, by omega, rfl, Below.refl _ _⟩
  case round =>
    obtain ⟨k, hk, rfl, hbel⟩ := hrel
    by_cases hlt : k < N
    · obtain ⟨b1, o1, rfl, q1, e1⟩ := RdX.at d1 (by omega) (show k < xs.length by omega)
      obtain ⟨b2, o2, rfl, q2, e2⟩ := RdX.at d2 (by omega) (show k < ys.length by omega)
      have f1 := e1.below hbel q1
      have f2 := e2.below hbel q2
      have hpx := (hp1 _ (List.getElem_mem (show k < xs.length by omega))).1
      have hpy := (hp2 _ (List.getElem_mem (show k < ys.length by omega))).1
      have hfst : xs[k].1 = ys[k].1 := by
        have g1 : (xs.map Prod.fst)[k]? = some xs[k].1 := by rw [List.getElem?_map, List.getElem?_eq_getElem (by omega)]; rfl
        have g2 : (ys.map Prod.fst)[k]? = some ys[k].1 := by rw [List.getElem?_map, List.getElem?_eq_getElem (by omega)]; rfl
        rw [HM1.out] at g1
        rw [HM2.out, g1] at g2
        injection g2
      generalize xs[k] = x at *
      generalize ys[k] = y at *
      obtain ⟨a, u⟩ := x
      obtain ⟨a2, v⟩ := y
      simp only at hfst
      subst hfst
      have cE : ∀ W, Below wr.heap.size wr W → Calls Try.prog 32 #[.agg #[.int .i64 a.k, .int .i32 a.r, .int .i32 a.p, .string (strOfNums a.i), u, .string (strOfNums a.t)], .agg #[.int .i64 a.k, .int .i32 a.r, .int .i32 a.p, .string (strOfNums a.i), v, .string (strOfNums a.t)]] W fun e w' => e = .returned (.bool true) ∧ Below W.heap.size W w' := fun W hW => requal_any a u v W (hpx.below (bl_trans hbel hW)) (hpy.below (bl_trans hbel hW))
      obtain ⟨f10, f11, f12, f13, f14, f15⟩ := f1.cells
      obtain ⟨f20, f21, f22, f23, f24, f25⟩ := f2.cells
      simp only at f10 f11 f12 f13 f14 f15 f20 f21 f22 f23 f24 f25
      have z1 : (0 : Int) ≤ (k : Int) := by omega
      have z2 : (k : Int) < (N : Int) := by omega
      have y1 : b1 < wr.heap.size := Nat.lt_of_lt_of_le q1 hbel.size
      have y2 : b2 < wr.heap.size := Nat.lt_of_lt_of_le q2 hbel.size
      clear d1 d2 e1 e2 f1 f2 hpx hpy hp1 hp2 hN
      go_wp2_with fail
      first | refine wp_grow2 (by kernel_rfl) (by kernel_rfl) ?_ | refine wp_grow (by kernel_rfl) (by kernel_rfl) ?_
      repeat (go_big_quiet_step (first | (go_at_call 32; with_reducible exact GW.call (cE _ (GW.grow _)))))
      refine wpQuiet_nil ?_
      rintro _ ⟨X, rfl⟩
      go_wp2_with fail
      go_roundw
      case rel => exact ⟨k + 1, by omega, by go_num, by repeat (first | with_reducible assumption | with_reducible refine bl_trans ?_ (GW.grow _) | with_reducible refine Below.drew ?_)⟩
      case measure => simp [intOf]; omega
    · go_wp2_with fail
      go_ret
      exact ⟨rfl, hbel⟩

end Go.Proofs.Ytpkkfcfkhiaggaa
