/- utf: strings and bytes; the small functions of the laws. -/
import Derived.Test.YtacpbfkelpehhaaX
import Derived.Laws.BytesArg
import Derived.Lib.ConvBytes
import Derived.Outline
set_option linter.unusedSimpArgs false
set_option linter.unusedVariables false
set_option linter.unnecessarySimpa false
namespace Go.Proofs.Ytacpbfkelpehhaa
open Go.RowKit
attribute [local go_sem ↓] Go.wp_at_zero Go.wp_at_succ

/-- A string's bytes as numbers. -/
def bytesOf (s : ByteArray) : List Int := s.data.toList.map fun b => (b.toNat : Int)
theorem bytesOf_byte (s : ByteArray) : ∀ x ∈ bytesOf s, Byte x := by
  intro x hx
  obtain ⟨b, _, rfl⟩ := List.mem_map.1 hx
  have := b.toNat_lt
  unfold Byte
  omega
theorem bytesOf_len (s : ByteArray) : (bytesOf s).length = s.size := by unfold bytesOf; rw [List.length_map]; rfl
theorem strOf_bytesOf (s : ByteArray) : strOfNums (bytesOf s) = s := by
  obtain ⟨d⟩ := s
  unfold strOfNums bytesOf
  congr 1
  rw [List.map_map, show ((fun n : Int => UInt8.ofNat n.toNat) ∘ fun b : UInt8 => (b.toNat : Int)) = id from funext fun b => by simp, List.map_id]
theorem bytesOf_strOf (xs : List Int) (h : ∀ x ∈ xs, Byte x) : bytesOf (strOfNums xs) = xs := by
  unfold bytesOf strOfNums
  simp only [List.map_map]
  conv => rhs; rw [← List.map_id xs]
  refine List.map_congr_left fun x hx => ?_
  have := h x hx
  unfold Byte at this
  simp only [Function.comp, UInt8.toNat_ofNat', id]
  omega
theorem strOf_inj {xs ys : List Int} (hx : ∀ x ∈ xs, Byte x) (hy : ∀ x ∈ ys, Byte x) : strOfNums xs = strOfNums ys ↔ xs = ys :=
  ⟨fun h => by rw [← bytesOf_strOf xs hx, h, bytesOf_strOf ys hy], fun h => by rw [h]⟩

theorem run_str {P : Program} {w : World} {v : Value} {xs : List Int} (src dst e : TypeId) (hs : P.underlying src = some (.slice e)) (he : P.underlying e = some (.int .u8)) (hd : P.underlying dst = some .string) (h : Rd w .u8 v xs) :
    (convert src dst v).run P w = .ok (.string (strOfNums xs)) w := by
  obtain ⟨p, cap, rfl, h1, h2, h3⟩ := h
  rcases h3 with ⟨rfl, h⟩ | ⟨b, off, rfl, hlt, hc⟩
  · have : xs = [] := List.eq_nil_of_length_eq_zero (by omega)
    subst this
    exact run_convert_bytes_nil w src e hs he _ _ dst hd
  · exact run_convert_bytes_arg w src e hs he b off _ _ xs rfl (fun i hi => by rw [hc i xs[i] (List.getElem?_eq_getElem hi)]; simp [hi]) dst hd
theorem run_bytes {P : Program} (w : World) (s : ByteArray) (hl : s.size ≤ maxLen) (src dst e : TypeId) (hs : P.underlying src = some .string) (hd : P.underlying dst = some (.slice e)) (he : P.underlying e = some (.int .u8)) :
    ∃ v w', (convert src dst (.string s)).run P w = .ok v w' ∧ Rd w' .u8 v (bytesOf s) ∧ Fresh w v ∧ Below w.heap.size w w' := by
  refine ⟨_, _, Lib.run_convert_string_bytes w src dst e s hs hd he, ?_, Fresh.at (Nat.le_refl _), ?_⟩
  · refine ⟨_, _, by rw [bytesOf_len], by rw [bytesOf_len]; exact grownCap_ge .., by exact grownCap_le_maxLen w s.size 0 e hl, .inr ⟨w.heap.size, 0, rfl, by rw [Lib.bytesWorld_size]; omega, fun i x hx => ?_⟩⟩
    rw [Nat.zero_add, Lib.bytesWorld_cell w e s i (by have := (List.getElem?_eq_some_iff.1 hx).1; rwa [bytesOf_len] at this)]
    unfold bytesOf at hx
    rw [List.getElem?_map] at hx
    simp only [Option.map_eq_some_iff] at hx
    obtain ⟨b, hb, rfl⟩ := hx
    simp [List.getD, hb]
  · exact ⟨rfl, rfl, rfl, by rw [Lib.bytesWorld_size]; omega, fun k hk => Lib.bytesWorld_at_old w e s k hk⟩
theorem wpList_bytes {P : Program} {ops : Array Oper} {rest : List Oper} {o : Oper} {a : Act} {w : World} {Q : Exit → Act → World → Prop} (hgd : o.guard = none) (x : Operand) (src dst e : TypeId) (ho : o.op = .convert src dst x)
    (hs : P.underlying src = some .string) (hd : P.underlying dst = some (.slice e)) (he : P.underlying e = some (.int .u8)) (s : ByteArray) (hx : a.eval x = .string s) (hl : s.size ≤ maxLen)
    (h : ∀ v w', Rd w' .u8 v (bytesOf s) → Fresh w v → Below w.heap.size w w' → wpList P ops Q rest (a.put o.dst v) w') : wpList P ops Q (o :: rest) a w := by
  obtain ⟨v, w', hr, h1, h2, h3⟩ := run_bytes (P := P) w s hl src dst e hs hd he
  refine wpList_plain hgd fun _ hK => ?_
  unfold Oper.wp execOp
  simp only [ho, Sem.run_bind, Sem.run_pure, Result.andThen_ok, hx, hr]
  exact hK _ _ (h v w' h1 h2 h3)

theorem decodes_any (s : ByteArray) (hsz : s.size ≤ 1000000) (vw : Value) (want : List Int) (w : World) (h : Rd w .i32 vw want) (hd : decL (bytesOf s) = want) :
    Calls Try.prog 23 #[.string s, vw] w fun e w' => e = .returned (.bool true) ∧ Below w.heap.size w w' := by
  have hm : s.size ≤ maxLen := by unfold maxLen; omega
  have hbl : (bytesOf s).length ≤ 1000000000 := by rw [bytesOf_len]; omega
  have H := Lib.hid hd
  clear hd
  go_enter Try.func23, Try.ntmps23
  go_wp2_with (first | (refine wpList_bytes rfl _ 9 22 5 rfl Try.underlying9 Try.underlying22 Try.underlying5 s rfl hm ?_; intro v w1 hv hf hb1) | (go_at_call 11; refine (decode_any _ _ _ hv (bytesOf_byte s) hbl).mono ?_; rintro e w2 ⟨u, rfl, hu, hb2⟩) | (go_at_call 10; refine (same_any _ _ _ want _ hu.rd ((h.below hb1).below hb2)).mono ?_; rintro e w3 ⟨rfl, hb3⟩))
  go_ret
  exact ⟨ret_bool (by simp [sameB, H.out]), bl_trans (bl_trans hb1 hb2) hb3⟩

theorem encodes_any (s : ByteArray) (vl : Value) (l : List Int) (w : World) (h : Rd w .i32 vl l) (hl : l.length ≤ 1000000) (hd : strOfNums (encL l) = s) :
    Calls Try.prog 24 #[.string s, vl] w fun e w' => e = .returned (.bool true) ∧ Below w.heap.size w w' := by
  have H := Lib.hid hd
  clear hd
  go_enter Try.func24, Try.ntmps24
  go_wp2_with (first | (go_at_call 16; refine (encode_any _ _ _ h hl).mono ?_; rintro e w1 ⟨u, rfl, hu, hb1⟩; have kc := run_str (P := Try.prog) 22 9 5 Try.underlying22 Try.underlying5 Try.underlying9 hu.rd))
  go_ret
  exact ⟨ret_bool (by rw [H.out]; exact beq_self_eq_true _), hb1⟩

end Go.Proofs.Ytacpbfkelpehhaa
