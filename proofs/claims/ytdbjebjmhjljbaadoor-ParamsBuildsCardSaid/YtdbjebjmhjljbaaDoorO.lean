/- params: the reference's decimal. -/
import Derived.Test.YtdbjebjmhjljbaaDoorN
import Derived.Test.YtdbjebjmhjljbaaDoorShelf
import Derived.Outline
import Derived.Lib.ItoaLen
import Derived.Lib.ItoaMem
set_option linter.unusedSimpArgs false
set_option linter.unusedVariables false
set_option linter.unnecessarySimpa false
namespace Go.Proofs.YtdbjebjmhjljbaaDoor
open Go.RowKit

theorem mk_app (a b : List UInt8) : (⟨a.toArray⟩ : ByteArray) ++ ⟨b.toArray⟩ = ⟨(a ++ b).toArray⟩ := by apply ByteArray.ext; simp
theorem strOf_one (c : Int) : strOfNums [c] = ⟨[UInt8.ofNat c.toNat].toArray⟩ := rfl
theorem decDigits_step {n : Nat} (h : ¬ n < 10) : Lib.decDigits n = Lib.decDigits (n / 10) ++ Lib.decDigits (n % 10) := by
  rw [Lib.decDigits, dif_neg h, Lib.decDigits_one (i := n % 10) (by omega)]

set_option maxHeartbeats 1000000 in
theorem decimal_any (n : Nat) : ∀ (w : World), n ≤ 9999 → Calls Tryd.prog 29 #[.int .i64 n] w fun e w' => e = .returned (.string ⟨(Lib.decDigits n).toArray⟩) ∧ Below w.heap.size w w' := by
  induction n using Nat.strongRecOn with
  | _ n ih =>
  intro w hn
  by_cases h : n < 10
  · have hrd : ∀ c : Int, Rd (w.alloc (.cells #[.int .u8 c] 5)) .u8 (.slice (some ⟨w.heap.size, 0, none⟩) 1 1) [c] := fun c => Rd.lit1 w 5 .u8 c w.heap.size rfl
    have kc := fun c : Int => run_str (P := Tryd.prog) 60 9 5 Tryd.underlying60 Tryd.underlying5 Tryd.underlying9 (hrd c)
    have e : Lib.decDigits n = [UInt8.ofNat (48 + n)] := Lib.decDigits_one h
    rw [e]
    clear e
    go_enter Tryd.func29, Tryd.ntmps29
    go_wp2_with fail
    go_ret
    refine ⟨?_, (Below.refl _ _).alloc (Nat.le_refl _) _⟩
    show Ending.returned (Value.string (strOfNums [48 + (n : Int)])) = _
    rw [strOf_one, show (48 + (n : Int)).toNat = 48 + n by omega]
  · have d1 := fun w => ih (n / 10) (by omega) w (by omega)
    have d2 := fun w => ih (n % 10) (by omega) w (by omega)
    rw [show ((n / 10 : Nat) : Int) = (n : Int) / 10 by omega] at d1
    rw [show ((n % 10 : Nat) : Int) = (n : Int) % 10 by omega] at d2
    have hl1 : (Lib.decDigits (n / 10)).length ≤ 21 := by have := Lib.itoa_length_le (n / 10 : Nat) (by omega) (by omega); rwa [Lib.itoa_nonneg] at this
    have hl2 : (Lib.decDigits (n % 10)).length ≤ 21 := by have := Lib.itoa_length_le (n % 10 : Nat) (by omega) (by omega); rwa [Lib.itoa_nonneg] at this
    rw [decDigits_step h]
    clear ih
    go_enter Tryd.func29, Tryd.ntmps29
    go_wp2_with (first | (go_at_call 29; with_reducible (refine (d1 _).mono ?_); rintro e w1 ⟨rfl, hb1⟩) | (go_at_call 29; with_reducible (refine (d2 _).mono ?_); rintro e w2 ⟨rfl, hb2⟩))
    go_ret
    refine ⟨?_, bl_trans hb1 hb2⟩
    show Ending.returned (Value.string _) = _
    rw [← mk_app]
    trace_state

end Go.Proofs.YtdbjebjmhjljbaaDoor
