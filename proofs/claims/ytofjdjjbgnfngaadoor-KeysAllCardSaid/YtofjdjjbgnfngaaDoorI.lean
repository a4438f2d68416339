/- keys: the key with a key's name is the key (bytes of a rune, read back). -/
import Derived.Test.YtofjdjjbgnfngaaDoorH
import Derived.Test.YtofjdjjbgnfngaaDoorF
import Derived.Lib.TrimUEq
set_option linter.unusedSimpArgs false
set_option linter.unusedVariables false
set_option linter.unnecessarySimpa false
namespace Go.Proofs.YtofjdjjbgnfngaaDoor
open Go.RowKit

theorem u8n (a : Int) (n : Nat) (h : a.toNat = n) (hn : n < 256) : (UInt8.ofNat a.toNat).toNat = n := by rw [h, UInt8.toNat_ofNat']; omega
theorem decode_1 (r : Int) (h : 0 ≤ r ∧ r < 128) : (Lib.decodeL (strOfNums [r]).data.toList).1 = r.toNat := by
  rw [Lib.decodeL_N]
  have e0 : ((strOfNums [r]).data.toList.getD 0 0).toNat = r.toNat := u8n r _ rfl (by omega)
  rw [e0]
  unfold Lib.decodeN
  rw [if_pos (by omega)]
theorem decode_2 (r : Int) (h : 128 ≤ r ∧ r < 2048) : (Lib.decodeL (strOfNums [192 + r / 64, 128 + r % 64]).data.toList).1 = r.toNat := by
  rw [Lib.decodeL_N]
  have e0 : ((strOfNums [192 + r / 64, 128 + r % 64]).data.toList.getD 0 0).toNat = 192 + r.toNat / 64 := u8n _ _ (by omega) (by omega)
  have e1 : ((strOfNums [192 + r / 64, 128 + r % 64]).data.toList.getD 1 0).toNat = 128 + r.toNat % 64 := u8n _ _ (by omega) (by omega)
  have el : (strOfNums [192 + r / 64, 128 + r % 64]).data.toList.length = 2 := rfl
  rw [e0, e1, el]
  unfold Lib.decodeN
  rw [if_neg (by omega), if_pos (by omega), if_pos (by omega)]
  show (192 + r.toNat / 64) % 32 * 64 + (128 + r.toNat % 64) % 64 = r.toNat
  omega
theorem decode_3 (r : Int) (h : 2048 ≤ r ∧ r < 65536) (hs : r < 55296 ∨ 57343 < r) : (Lib.decodeL (strOfNums [224 + r / 4096, 128 + r / 64 % 64, 128 + r % 64]).data.toList).1 = r.toNat := by
  rw [Lib.decodeL_N]
  have e0 : ((strOfNums [224 + r / 4096, 128 + r / 64 % 64, 128 + r % 64]).data.toList.getD 0 0).toNat = 224 + r.toNat / 4096 := u8n _ _ (by omega) (by omega)
  have e1 : ((strOfNums [224 + r / 4096, 128 + r / 64 % 64, 128 + r % 64]).data.toList.getD 1 0).toNat = 128 + r.toNat / 64 % 64 := u8n _ _ (by omega) (by omega)
  have e2 : ((strOfNums [224 + r / 4096, 128 + r / 64 % 64, 128 + r % 64]).data.toList.getD 2 0).toNat = 128 + r.toNat % 64 := u8n _ _ (by omega) (by omega)
  have el : (strOfNums [224 + r / 4096, 128 + r / 64 % 64, 128 + r % 64]).data.toList.length = 3 := rfl
  rw [e0, e1, e2, el]
  have key : (224 + r.toNat / 4096) % 16 * 4096 + (128 + r.toNat / 64 % 64) % 64 * 64 + (128 + r.toNat % 64) % 64 = r.toNat := by omega
  unfold Lib.decodeN
  rw [if_neg (by omega), if_neg (by omega), if_pos (by omega), if_pos (by omega)]
  exact key
theorem decode_4 (r : Int) (h : 65536 ≤ r ∧ r ≤ 1114111) : (Lib.decodeL (strOfNums [240 + r / 262144, 128 + r / 4096 % 64, 128 + r / 64 % 64, 128 + r % 64]).data.toList).1 = r.toNat := by
  rw [Lib.decodeL_N]
  have e0 : ((strOfNums [240 + r / 262144, 128 + r / 4096 % 64, 128 + r / 64 % 64, 128 + r % 64]).data.toList.getD 0 0).toNat = 240 + r.toNat / 262144 := u8n _ _ (by omega) (by omega)
  have e1 : ((strOfNums [240 + r / 262144, 128 + r / 4096 % 64, 128 + r / 64 % 64, 128 + r % 64]).data.toList.getD 1 0).toNat = 128 + r.toNat / 4096 % 64 := u8n _ _ (by omega) (by omega)
  have e2 : ((strOfNums [240 + r / 262144, 128 + r / 4096 % 64, 128 + r / 64 % 64, 128 + r % 64]).data.toList.getD 2 0).toNat = 128 + r.toNat / 64 % 64 := u8n _ _ (by omega) (by omega)
  have e3 : ((strOfNums [240 + r / 262144, 128 + r / 4096 % 64, 128 + r / 64 % 64, 128 + r % 64]).data.toList.getD 3 0).toNat = 128 + r.toNat % 64 := u8n _ _ (by omega) (by omega)
  have el : (strOfNums [240 + r / 262144, 128 + r / 4096 % 64, 128 + r / 64 % 64, 128 + r % 64]).data.toList.length = 4 := rfl
  rw [e0, e1, e2, e3, el]
  have key : (240 + r.toNat / 262144) % 8 * 262144 + (128 + r.toNat / 4096 % 64) % 64 * 4096 + (128 + r.toNat / 64 % 64) % 64 * 64 + (128 + r.toNat % 64) % 64 = r.toNat := by omega
  unfold Lib.decodeN
  rw [if_neg (by omega), if_neg (by omega), if_neg (by omega), if_pos (by omega), if_pos (by omega)]
  exact key
/-- A rune's bytes: what they are read back as; they begin like no prefix. -/
theorem enc_facts (r : Int) (h : 0 ≤ r ∧ r ≤ 1114111 ∧ (r < 55296 ∨ 57343 < r)) : (Lib.decodeGo (Utf8.encode r)).1 = r.toNat ∧ ((∃ b, (Utf8.encode r).data.toList = [b]) ∨ ∃ b l, (Utf8.encode r).data.toList = b :: l ∧ 192 ≤ b.toNat) := by
  have hgo : ∀ s : ByteArray, s.data.toList ≠ [] → Lib.decodeGo s = Lib.decodeL s.data.toList := fun s hs => by
    unfold Lib.decodeGo Lib.decodeL
    rw [if_neg (by intro h0; apply hs; have : s.data.size = 0 := h0; exact List.eq_nil_of_length_eq_zero (by simpa using this))]
  by_cases h1 : r < 128
  · rw [enc_1 r (by omega)]
    exact ⟨by rw [hgo _ (by simp [strOfNums])]; exact decode_1 r (by omega), .inl ⟨_, rfl⟩⟩
  by_cases h2 : r < 2048
  · rw [enc_2 r (by omega)]
    exact ⟨by rw [hgo _ (by simp [strOfNums])]; exact decode_2 r (by omega), .inr ⟨_, _, rfl, by rw [u8n _ _ rfl (by omega)]; omega⟩⟩
  by_cases h3 : r < 65536
  · rw [enc_3 r (by omega) h.2.2]
    exact ⟨by rw [hgo _ (by simp [strOfNums])]; exact decode_3 r (by omega) h.2.2, .inr ⟨_, _, rfl, by rw [u8n _ _ rfl (by omega)]; omega⟩⟩
  · rw [enc_4 r (by omega)]
    exact ⟨by rw [hgo _ (by simp [strOfNums])]; exact decode_4 r (by omega), .inr ⟨_, _, rfl, by rw [u8n _ _ rfl (by omega)]; omega⟩⟩

def tpL (l p : List UInt8) : List UInt8 := Lib.trimPrefix l p
theorem cut_list (l p : List UInt8) : cutP ⟨l.toArray⟩ ⟨p.toArray⟩ = ⟨(Lib.trimPrefix l p).toArray⟩ := by unfold cutP; simp
theorem has_list (l p : List UInt8) : hasP ⟨l.toArray⟩ ⟨p.toArray⟩ = Lib.hasPrefix l p := by unfold hasP; simp
/-- Bytes that begin with no prefix. -/
def NoP (l : List UInt8) : Prop := Lib.hasPrefix l [67, 45] = false ∧ Lib.hasPrefix l [65, 45] = false ∧ Lib.hasPrefix l [83, 45] = false
theorem noP_one (b : UInt8) : NoP [b] := by unfold NoP Lib.hasPrefix; simp [List.isPrefixOf]
theorem noP_big (b : UInt8) (l : List UInt8) (h : 192 ≤ b.toNat) : NoP (b :: l) := by
  have h1 : ∀ c : UInt8, c.toNat < 192 → (c == b) = false := fun c hc => by
    rw [beq_eq_false_iff_ne]; rintro rfl; omega
  unfold NoP Lib.hasPrefix
  simp [List.isPrefixOf, h1 67 (by decide), h1 65 (by decide), h1 83 (by decide)]
def preL (ct al sh : Bool) : List UInt8 := (if ct then [67, 45] else []) ++ (if al then [65, 45] else []) ++ (if sh then [83, 45] else [])
theorem pre_list (ct al sh : Bool) (l : List UInt8) : (preP ct al sh 3 ++ ⟨l.toArray⟩ : ByteArray) = ⟨(preL ct al sh ++ l).toArray⟩ := by
  apply ByteArray.ext
  have : (preP ct al sh 3).data = (preL ct al sh).toArray := by cases ct <;> cases al <;> cases sh <;> decide +kernel
  simp [this]
/-- The prefixes are read back. -/
theorem rest_pre (ct al sh : Bool) (l : List UInt8) (h : NoP l) : restN (preP ct al sh 3 ++ ⟨l.toArray⟩) 3 = ⟨l.toArray⟩ ∧ flagN (preP ct al sh 3 ++ ⟨l.toArray⟩) 0 = ct ∧ flagN (preP ct al sh 3 ++ ⟨l.toArray⟩) 1 = al ∧ flagN (preP ct al sh 3 ++ ⟨l.toArray⟩) 2 = sh := by
  obtain ⟨n1, n2, n3⟩ := h
  rw [pre_list]
  have hc : (⟨#[67, 45]⟩ : ByteArray) = ⟨([67, 45] : List UInt8).toArray⟩ := rfl
  have ha : (⟨#[65, 45]⟩ : ByteArray) = ⟨([65, 45] : List UInt8).toArray⟩ := rfl
  have hs : (⟨#[83, 45]⟩ : ByteArray) = ⟨([83, 45] : List UInt8).toArray⟩ := rfl
  unfold restN flagN
  rw [if_pos rfl, if_neg (by decide), if_pos rfl, if_neg (by decide), if_neg (by decide), hc, ha, hs]
  simp only [cut_list, has_list]
  have m1 : ¬ [67, 45] <+: l := fun h => by rw [show Lib.hasPrefix l [67, 45] = true from List.isPrefixOf_iff_prefix.2 h] at n1; cases n1
  have m2 : ¬ [65, 45] <+: l := fun h => by rw [show Lib.hasPrefix l [65, 45] = true from List.isPrefixOf_iff_prefix.2 h] at n2; cases n2
  have m3 : ¬ [83, 45] <+: l := fun h => by rw [show Lib.hasPrefix l [83, 45] = true from List.isPrefixOf_iff_prefix.2 h] at n3; cases n3
  have k1 : [67, 45].isPrefixOf l = false := n1
  have k2 : [65, 45].isPrefixOf l = false := n2
  have k3 : [83, 45].isPrefixOf l = false := n3
  cases ct <;> cases al <;> cases sh <;> simp [preL, Lib.trimPrefix, Lib.hasPrefix, List.isPrefixOf, m1, m2, m3, k1, k2, k3]

theorem eta (s : ByteArray) : (⟨s.data.toList.toArray⟩ : ByteArray) = s := by apply ByteArray.ext; simp
theorem base_noP (code rune : Int) (hv : validK code rune = true) : NoP (baseS code rune).data.toList := by
  unfold validK at hv
  have hv := of_decide_eq_true hv
  unfold baseS
  split
  · split
    · unfold NoP; decide +kernel
    · rename_i h1 h2
      have := (enc_facts rune (by omega)).2
      rcases this with ⟨b, hb⟩ | ⟨b, l, hb, h192⟩
      · rw [hb]; exact noP_one b
      · rw [hb]; exact noP_big b l h192
  · rename_i h1
    have key : ∀ i : Fin 26, Lib.hasPrefix (nameL.getD i.val ⟨#[]⟩).data.toList [67, 45] = false ∧ Lib.hasPrefix (nameL.getD i.val ⟨#[]⟩).data.toList [65, 45] = false ∧ Lib.hasPrefix (nameL.getD i.val ⟨#[]⟩).data.toList [83, 45] = false := by decide +kernel
    exact key ⟨(code - 2).toNat, by omega⟩
theorem idx_none (zs : List ByteArray) (x : ByteArray) (i : Nat) (h : ∀ z ∈ zs, z ≠ x) : Lib.idxFromS zs x i = -1 := by
  induction zs generalizing i with
  | nil => rfl
  | cons z zs ih =>
    unfold Lib.idxFromS
    rw [if_neg (h z (by simp))]
    exact ih (i + 1) (fun y hy => h y (by simp [hy]))
theorem nameL_two : ∀ z ∈ nameL, 2 ≤ z.data.toList.length ∧ (z.data.toList.getD 0 0).toNat < 192 := by
  have : (nameL.all fun z => decide (2 ≤ z.data.toList.length ∧ (z.data.toList.getD 0 0).toNat < 192)) = true := by decide +kernel
  intro z hz
  exact of_decide_eq_true (List.all_eq_true.1 this z hz)
/-- ByName inverts Name. -/
theorem by_name (code rune : Int) (sh al ct : Bool) (hv : validK code rune = true) : keyCode (nameS code rune sh al ct) = code ∧ keyRune (nameS code rune sh al ct) = rune ∧ flagN (nameS code rune sh al ct) 0 = ct ∧ flagN (nameS code rune sh al ct) 1 = al ∧ flagN (nameS code rune sh al ct) 2 = sh := by
  have hn := base_noP code rune hv
  have hr := rest_pre ct al sh _ hn
  rw [eta] at hr
  obtain ⟨r1, r2, r3, r4⟩ := hr
  have hS : nameS code rune sh al ct = preP ct al sh 3 ++ baseS code rune := rfl
  unfold validK at hv
  have hv := of_decide_eq_true hv
  rw [hS]
  refine ⟨?_, ?_, r2, r3, r4⟩
  all_goals
    first | unfold keyCode | unfold keyRune
    rw [r1]
    unfold Lib.idxOfS baseS
    by_cases h1 : code = 1
    · rw [if_pos h1]
      by_cases h2 : rune = 32
      · rw [if_pos h2, idx_none _ _ _ (by have : (nameL.all fun z => decide (z ≠ ⟨#[83, 112, 97, 99, 101]⟩)) = true := by decide +kernel
                                          intro z hz; exact of_decide_eq_true (List.all_eq_true.1 this z hz))]
        first | (show (if (0 : Int) ≤ -1 then _ else (1 : Int)) = code; rw [if_neg (by decide)]; omega) | (rw [if_neg (by decide), if_pos rfl]; omega)
      · rw [if_neg h2]
        have hf := enc_facts rune (by omega)
        have hne : ∀ z ∈ nameL, z ≠ Utf8.encode rune := fun z hz e => by
          have := nameL_two z hz
          rw [e] at this
          rcases hf.2 with ⟨b, hb⟩ | ⟨b, l, hb, h192⟩
          · rw [hb] at this; simp at this
          · rw [hb] at this; simp at this; omega
        have hsp : Utf8.encode rune ≠ ⟨#[83, 112, 97, 99, 101]⟩ := fun e => by
          rcases hf.2 with ⟨b, hb⟩ | ⟨b, l, hb, h192⟩
          · rw [e] at hb; simp at hb
          · rw [e] at hb
            have : b = 83 := by simp at hb; exact hb.1.symm
            rw [this] at h192
            exact absurd h192 (by decide)
        rw [idx_none _ _ _ hne]
        first | (show (if (0 : Int) ≤ -1 then _ else (1 : Int)) = code; rw [if_neg (by decide)]; omega) | (rw [if_neg (by decide), if_neg hsp, hf.1]; omega)
    · rw [if_neg h1]
      have key : ∀ i : Fin 26, Lib.idxFromS nameL (nameL.getD i.val ⟨#[]⟩) 0 = (i.val : Int) := by decide +kernel
      have hi := key ⟨(code - 2).toNat, by omega⟩
      simp only at hi
      rw [hi]
      first | (show (if (0 : Int) ≤ ((code - 2).toNat : Int) then 2 + ((code - 2).toNat : Int) else 1) = code; rw [if_pos (by omega)]; omega) | (rw [if_pos (by omega)]; omega)

end Go.Proofs.YtofjdjjbgnfngaaDoor
