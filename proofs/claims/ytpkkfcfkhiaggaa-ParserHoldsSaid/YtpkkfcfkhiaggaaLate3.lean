/- A region that draws its order and makes memory: operations that yield one value wherever they come up (calls that only grow the world among them) are taken first. -/
import Derived.Test.YtpkkfcfkhiaggaaBase
import Derived.OrdersHeld
set_option linter.unusedSimpArgs false
set_option linter.unusedVariables false
set_option linter.unnecessarySimpa false
namespace Go.Proofs.Ytpkkfcfkhiaggaa
open Go Go.RowKit

def Gr (w w' : World) : Prop := Below w.heap.size w w'
theorem Gr.refl (w : World) : Gr w w := Below.refl _ _
theorem Gr.trans {a b c : World} (h : Gr a b) (k : Gr b c) : Gr a c := bl_trans h k

section
variable {P : Program} {ops : Array Oper} {Q : Exit → Act → World → Prop} {md : Region.Mode} {S : World → World → Prop}

def wpAnyV (P : Program) (md : Region.Mode) (ops : Array Oper) (Q : Exit → Act → World → Prop) (S : World → World → Prop) : Nat → Array Bool → Act → World → Prop
  | 0, listed, a, w => Region.ready md ops listed = [] ∧ ∀ w', Gr w w' → Q .normal a w'
  | fuel + 1, listed, a, w => ∀ w', Gr w w' → (Region.ready md ops listed = [] → Q .normal a w') ∧
    ∀ i ∈ Region.ready md ops listed, wpOp P ops Q i (fun a' w'' => S w' w'' ∧ wpAnyV P md ops Q S fuel (listed.setIfInBounds i true) a' w'') a w'

theorem wpAnyV_mono : ∀ {fuel : Nat} {listed : Array Bool} {a : Act} {w w' : World}, wpAnyV P md ops Q S fuel listed a w → Gr w w' → wpAnyV P md ops Q S fuel listed a w'
  | 0, _, _, _, _, h, hg => ⟨h.1, fun w2 h2 => h.2 w2 (hg.trans h2)⟩
  | _ + 1, _, _, _, _, h, hg => fun w2 h2 => h w2 (hg.trans h2)
theorem wpAny_of_V : ∀ (fuel : Nat) (listed : Array Bool) (a : Act) (w : World), wpAnyV P md ops Q S fuel listed a w → wpAny P md ops Q fuel listed a w
  | 0, _, _, w, h => ⟨h.1, h.2 w (Gr.refl w)⟩
  | fuel + 1, _, _, w, h => ⟨(h w (Gr.refl w)).1, fun i hi => wpOp_mono (fun a' w' h' => wpAny_of_V fuel _ a' w' h'.2) ((h w (Gr.refl w)).2 i hi)⟩

/-- In every world that S reaches, the operation yields a value by which the frame becomes A. -/
def YV (P : Program) (ops : Array Oper) (S : World → World → Prop) (w : World) (o : Oper) (a A : Act) : Prop := ∀ W, S w W → ∃ v, YieldsIn P ops (Gr W) o v a ∧ a.put o.dst v = A

theorem yi_step {i : Nat} {o : Oper} {v : Value} {a : Act} {C : World → Prop} (hi : ops[i]? = some o) (hy : YieldsIn P ops C o v a) {K : Act → World → Prop} {w : World} (hw : C w) (h : ∀ w', C w' → K (a.put o.dst v) w') : wpOp P ops Q i K a w :=
  wpOp_of_qOp (K := fun a' => a' = a.put o.dst v) hw (fun _ w' hw' e => e ▸ h w' hw') (hy.qOp hi rfl)

theorem wpOp_putV {j : Nat} {oi oj : Oper} {v : Value} (hj : ops[j]? = some oj) (hap : oi.apart ops oj = true)
    (hsj : ∀ cs b, oj.op ≠ .select cs b)
    (hQ : ∀ c a w, Q (.panic c) (a.put oi.dst v) w → Q (.panic c) a w) {K : Act → World → Prop} {R : Act → Prop} {a : Act} {w : World}
    (hR1 : ∀ u, R (a.put oj.dst u)) (hR2 : ∀ d u, R ({ a with defers := d :: a.defers }.put oj.dst u)) (h : wpOp P ops Q j K (a.put oi.dst v) w) :
    wpOp P ops Q j (fun a' w' => R a' ∧ K (a'.put oi.dst v) w') a w := by
  obtain ⟨h1, h2, h3⟩ := Oper.apart_spec hap
  unfold wpOp at *
  simp only [hj] at *
  rw [wanted_put oj a oi.dst v h1] at h
  split
  · rename_i hw
    simp only [hw, if_true] at h
    rcases h with h | ⟨hasks, hlets⟩
    case inr => exact .inr ⟨by unfold Oper.asks at *; rw [execOp_put oj hsj a oi.dst v h1] at hasks; exact hasks, hlets⟩
    refine .inl ?_
    unfold Oper.wp at *
    rw [execOp_put oj hsj a oi.dst v h1] at h
    generalize (execOp a.eval oj).run P w = r at *
    cases r with
    | ok n w' =>
      cases n <;> simp only [Oper.upon] at h ⊢
      case value u => exact ⟨hR1 u, by rw [← Act.put_comm a v u h2]; exact h⟩
      case skip => exact ⟨hR1 _, by rw [← Act.put_comm a v undef h2]; exact h⟩
      case defer d =>
        refine ⟨hR2 _ _, ?_⟩
        rw [← Act.put_comm _ v undef h2, ← Act.put_defers]
        exact h
      case enter f args =>
        refine Calls.mono h fun e w'' he => ?_
        cases e with
        | returned u => exact ⟨hR1 u, by rw [← Act.put_comm a v u h2]; exact he⟩
        | panicked c => exact hQ _ _ _ he
        | outgrown => exact he
      case row row args => exact Rows.mono h fun u w'' he => ⟨hR1 u, by rw [← Act.put_comm a v u h2]; exact he⟩
    | halt x w' =>
      cases x <;> simp only [Oper.upon] at h ⊢
      case panic u => exact hQ _ _ _ h
  · rename_i hw
    simp only [hw] at h
    exact ⟨hR1 _, by rw [← Act.put_comm a v undef h2]; exact h⟩

theorem YV.put {w : World} {oi oj : Oper} {a A : Act} (hap : oi.apart ops oj = true) (hsi : ∀ cs b, oi.op ≠ .select cs b) (hy : YV P ops S w oi a A) (u : Value) : YV P ops S w oi (a.put oj.dst u) (A.put oj.dst u) := by
  obtain ⟨h1, h2, h3⟩ := Oper.apart_spec hap
  intro W hW
  obtain ⟨v, hv, e⟩ := hy W hW
  exact ⟨v, hv.of_same (execOp_put oi hsi a oj.dst u h3) (wanted_put oi a oj.dst u h3), by rw [← Act.put_comm a v u h2, e]⟩
theorem YV.defers {w : World} {oi : Oper} {a A : Act} (hy : YV P ops S w oi a A) (d : Deferred) : YV P ops S w oi { a with defers := d :: a.defers } { A with defers := d :: A.defers } := by
  intro W hW
  obtain ⟨v, hv, e⟩ := hy W hW
  refine ⟨v, hv.of_same rfl rfl, ?_⟩
  rw [← e, ← Act.put_defers]

theorem wpAnyV_first (hS : ∀ a b c, S a b → S b c → S a c) (hG : ∀ a b, Gr a b → S a b) {i : Nat} {oi : Oper} (hi : ops[i]? = some oi) (hsel : ∀ (j : Nat) (o : Oper) cs b, ops[j]? = some o → o.op ≠ .select cs b)
    (hQ : ∀ v c a w, Q (.panic c) (a.put oi.dst v) w → Q (.panic c) a w) :
    ∀ (fuel : Nat) (listed : Array Bool) (a A : Act) (w : World),
      (∀ j oj, ops[j]? = some oj → j ≠ i → listed.getD j true = false → (∀ e ∈ oj.after, Region.binds md e = true → e.on ≠ i) → oi.apart ops oj = true) →
      i ∈ Region.ready md ops listed → YV P ops S w oi a A →
      wpAnyV P md ops Q S fuel (listed.setIfInBounds i true) A w → wpAnyV P md ops Q S (fuel + 1) listed a w := by
  intro fuel
  induction fuel with
  | zero =>
    intro listed a A w _ hr hy H W hW
    refine ⟨fun h => (by rw [h] at hr; cases hr), fun j hj => ?_⟩
    by_cases hji : j = i
    · subst hji
      obtain ⟨v, hv, e⟩ := hy W (hG _ _ hW)
      exact yi_step hi hv (Gr.refl W) fun w' hw' => ⟨hG _ _ hw', e ▸ wpAnyV_mono H (hW.trans hw')⟩
    · have := ready_mono hj hji
      rw [H.1] at this
      cases this
  | succ fuel ih =>
    intro listed a A w hfree hr hy H W hW
    refine ⟨fun h => (by rw [h] at hr; cases hr), fun j hj => ?_⟩
    by_cases hji : j = i
    · subst hji
      obtain ⟨v, hv, e⟩ := hy W (hG _ _ hW)
      exact yi_step hi hv (Gr.refl W) fun w' hw' => ⟨hG _ _ hw', e ▸ wpAnyV_mono H (hW.trans hw')⟩
    · obtain ⟨v, hv, e⟩ := hy W (hG _ _ hW)
      have h1 := (H W hW).2 j (ready_mono hj hji)
      rw [← e] at h1
      obtain ⟨hjun, oj, hoj, hall⟩ := mem_ready.1 hj
      have hnot : ∀ e ∈ oj.after, Region.binds md e = true → e.on ≠ i := fun e he hb heq => by
        have h1 := hall e he hb
        have h0 := (mem_ready.1 hr).1
        rw [heq] at h1
        rcases Nat.lt_or_ge i listed.size with h' | h'
        · simp [h'] at h0 h1; rw [h0] at h1; cases h1
        · simp [Array.getElem?_eq_none h'] at h1
      have hap := hfree j oj hoj hji hjun hnot
      obtain ⟨_, q2, _⟩ := Oper.apart_spec hap
      have hyW : YV P ops S W oi a (a.put oi.dst v) := fun W' hW' => by
        obtain ⟨v', hv', e'⟩ := hy W' (hS _ _ _ (hG _ _ hW) hW')
        exact ⟨v', hv', e'.trans e.symm⟩
      have h2 := wpOp_putV (R := fun a' => YV P ops S W oi a' (a'.put oi.dst v)) hoj hap (fun cs b => hsel j oj cs b hoj) (hQ v)
        (fun u => by have := hyW.put hap (fun cs b => hsel i oi cs b hi) u; rwa [Act.put_comm a v u q2] at this)
        (fun d u => by
          have := (hyW.defers d).put hap (fun cs b => hsel i oi cs b hi) u
          have e2 : ({ (a.put oi.dst v) with defers := d :: (a.put oi.dst v).defers } : Act) = ({ a with defers := d :: a.defers } : Act).put oi.dst v := by rw [← Act.put_defers]
          rw [e2, Act.put_comm _ v u q2] at this
          exact this) h1
      have hfree' : ∀ k ok, ops[k]? = some ok → k ≠ i → (listed.setIfInBounds j true).getD k true = false →
          (∀ e ∈ ok.after, Region.binds md e = true → e.on ≠ i) → oi.apart ops ok = true := fun k ok hk hki hun hno => by
        refine hfree k ok hk hki ?_ hno
        by_cases hjk : j = k
        · subst hjk; exact hjun
        · rw [getD_set_ne true hjk] at hun; exact hun
      refine wpOp_mono (fun a' w' h3 => ?_) h2
      obtain ⟨h4, h5, h6⟩ := h3
      refine ⟨h5, ih (listed.setIfInBounds j true) a' (a'.put oi.dst v) w' hfree' (ready_mono hr (Ne.symm hji)) (fun W' hW' => h4 W' (hS _ _ _ h5 hW')) ?_⟩
      rw [Array.setIfInBounds_comm _ _ hji]
      exact h6

/-- Take number i first. -/
theorem wpAnyV_take (i : Nat) {oi : Oper} {fuel : Nat} {listed : Array Bool} {a A : Act} {w : World} (hi : ops[i]? = some oi)
    (hs : Region.noSelect ops = true) (hf : Region.free md ops listed i = true) (hr : (Region.ready md ops listed).contains i = true)
    (hQ : ∀ v c a w, Q (.panic c) (a.put oi.dst v) w → Q (.panic c) a w) (hS : ∀ a b c, S a b → S b c → S a c) (hG : ∀ a b, Gr a b → S a b)
    (hq : ∀ W, S w W → wpQuiet P ops (Gr W) (fun a' => a' = A) [oi] a)
    (h : wpAnyV P md ops Q S fuel (listed.setIfInBounds i true) A w) : wpAnyV P md ops Q S (fuel + 1) listed a w :=
  wpAnyV_first hS hG hi (Region.noSelect_spec hs) hQ fuel listed a A w (Region.free_spec hi hf) (by simpa using hr) (fun W hW => by
    have h1 : qOp P ops (Gr W) i (fun a' => a' = A) a := by
      have := hq W hW
      unfold qOp; simp only [hi]; exact this
    obtain ⟨v, h2, h3⟩ := yieldsIn_of_qOp hi h1
    exact ⟨v, h2, h3⟩) h
/-- The same, where the class is that of all grown worlds. -/
theorem wpAnyV_takeG (i : Nat) {oi : Oper} {fuel : Nat} {listed : Array Bool} {a A : Act} {w : World} (hi : ops[i]? = some oi)
    (hs : Region.noSelect ops = true) (hf : Region.free md ops listed i = true) (hr : (Region.ready md ops listed).contains i = true)
    (hQ : ∀ v c a w, Q (.panic c) (a.put oi.dst v) w → Q (.panic c) a w)
    (hq : ∀ Y : GW w, wpQuiet P ops (fun w' => ∃ X : GW Y.world, w' = X.world) (fun a' => a' = A) [oi] a)
    (h : wpAnyV P md ops Q Gr fuel (listed.setIfInBounds i true) A w) : wpAnyV P md ops Q Gr (fuel + 1) listed a w :=
  wpAnyV_take i hi hs hf hr hQ (fun _ _ _ h k => h.trans k) (fun _ _ h => h) (fun W hW => by
    have := hq ⟨W, hW⟩
    have e : (fun w' => ∃ X : GW W, w' = X.world) = Gr W := funext fun w' => propext ⟨fun ⟨X, e⟩ => e ▸ X.grow, fun h => ⟨⟨w', h⟩, rfl⟩⟩
    rw [← e]; exact this) h
theorem gr_eq (W : World) : Gr W = (fun w' => ∃ X : GW W, w' = X.world) := funext fun w' => propext ⟨fun h => ⟨⟨w', h⟩, rfl⟩, fun ⟨X, e⟩ => e ▸ X.grow⟩
end
section
variable {P : Program} {ops : Array Oper} {Q : Exit → Act → World → Prop} {md : Region.Mode}
/-- The same, where all but one block stays as it was. -/
theorem wpAnyV_takeS {S : World → World → Prop} (hS : ∀ a b c, S a b → S b c → S a c) (hG : ∀ a b, Gr a b → S a b) (i : Nat) {oi : Oper} {fuel : Nat} {listed : Array Bool} {a A : Act} {w : World} (hi : ops[i]? = some oi)
    (hs : Region.noSelect ops = true) (hf : Region.free md ops listed i = true) (hr : (Region.ready md ops listed).contains i = true)
    (hQ : ∀ v c a w, Q (.panic c) (a.put oi.dst v) w → Q (.panic c) a w)
    (hq : ∀ W, S w W → wpQuiet P ops (fun w' => ∃ X : GW W, w' = X.world) (fun a' => a' = A) [oi] a)
    (h : wpAnyV P md ops Q S fuel (listed.setIfInBounds i true) A w) : wpAnyV P md ops Q S (fuel + 1) listed a w :=
  wpAnyV_take i hi hs hf hr hQ hS hG (fun W hW => by rw [gr_eq]; exact hq W hW) h
end
section
variable {P : Program} {ops : Array Oper} {Q : Exit → Act → World → Prop} {md : Region.Mode} {S : World → World → Prop}
/-- One operation alone may come up. -/
theorem wpAnyV_one (i : Nat) {fuel : Nat} {listed : Array Bool} {a : Act} {w : World} (hr : Region.ready md ops listed = [i])
    (h : ∀ W, Gr w W → wpOp P ops Q i (fun a' w' => S W w' ∧ wpAnyV P md ops Q S fuel (listed.setIfInBounds i true) a' w') a W) : wpAnyV P md ops Q S (fuel + 1) listed a w :=
  fun W hW => ⟨fun h0 => (by rw [hr] at h0; cases h0), fun j hj => by rw [hr] at hj; obtain rfl : j = i := (by simpa using hj); exact h W hW⟩
theorem wpAnyV_two (i j : Nat) {fuel : Nat} {listed : Array Bool} {a : Act} {w : World} (hr : Region.ready md ops listed = [i, j])
    (h1 : ∀ W, Gr w W → wpOp P ops Q i (fun a' w' => S W w' ∧ wpAnyV P md ops Q S fuel (listed.setIfInBounds i true) a' w') a W)
    (h2 : ∀ W, Gr w W → wpOp P ops Q j (fun a' w' => S W w' ∧ wpAnyV P md ops Q S fuel (listed.setIfInBounds j true) a' w') a W) : wpAnyV P md ops Q S (fuel + 1) listed a w :=
  fun W hW => ⟨fun h0 => (by rw [hr] at h0; cases h0), fun k hk => by
    rw [hr] at hk
    rcases List.mem_cons.1 hk with rfl | hk
    · exact h1 W hW
    · obtain rfl : k = j := (by simpa using hk)
      exact h2 W hW⟩
theorem wpAnyV_done {listed : Array Bool} {a : Act} {w : World} (hr : Region.ready md ops listed = []) (h : ∀ W, Gr w W → Q .normal a W) : ∀ fuel, wpAnyV P md ops Q S fuel listed a w
  | 0 => ⟨hr, h⟩
  | _ + 1 => fun W hW => ⟨fun _ => h W hW, by rw [hr]; simp⟩
theorem wp_region_V {id : Nat} {a : Act} {w : World} (S : World → World → Prop) (hm : P.follows .mixedOrders = true)
    (h : wpAnyV P .any ops Q S ops.size (Array.replicate ops.size false) a w.drew) : (Code.region id ops true).wp P Q a w :=
  wp_region_any hm (wpAny_of_V _ _ _ _ h)
end

end Go.Proofs.Ytpkkfcfkhiaggaa
