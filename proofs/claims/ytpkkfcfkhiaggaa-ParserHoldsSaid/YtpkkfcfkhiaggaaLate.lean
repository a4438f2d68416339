/- A region that draws its order and stores late: loads are taken first under a condition on the world that is asked only as long as no late store has come up. -/
import Derived.OrdersHeld
import Derived.Below
import Derived.ProofKit
set_option linter.unusedSimpArgs false
set_option linter.unusedVariables false
set_option linter.unnecessarySimpa false
namespace Go.Proofs.Ytpkkfcfkhiaggaa
open Go

section
variable {P : Program} {ops : Array Oper} {Q : Exit → Act → World → Prop} {md : Region.Mode} {S T : World → Prop} {M : List Nat}

/-- No operation of M has come up yet. -/
def early (M : List Nat) (listed : Array Bool) : Prop := ∀ k ∈ M, listed.getD k true = false
theorem early_ne {listed : Array Bool} {i : Nat} (hi : i ∉ M) : early M (listed.setIfInBounds i true) ↔ early M listed := by
  unfold early
  constructor
  · intro h k hk
    have := h k hk
    rwa [getD_set_ne true (by rintro rfl; exact hi hk)] at this
  · intro h k hk
    rw [getD_set_ne true (by rintro rfl; exact hi hk)]
    exact h k hk

def wpAnyG (P : Program) (md : Region.Mode) (ops : Array Oper) (Q : Exit → Act → World → Prop) (S : World → Prop) (M : List Nat) : Nat → Array Bool → Act → World → Prop
  | 0, listed, a, w => Region.ready md ops listed = [] ∧ Q .normal a w
  | fuel + 1, listed, a, w =>
    (Region.ready md ops listed = [] → Q .normal a w) ∧
    ∀ i ∈ Region.ready md ops listed, wpOp P ops Q i (fun a' w' => (early M (listed.setIfInBounds i true) → S w') ∧ wpAnyG P md ops Q S M fuel (listed.setIfInBounds i true) a' w') a w

theorem wpAny_of_G : ∀ (fuel : Nat) (listed : Array Bool) (a : Act) (w : World), wpAnyG P md ops Q S M fuel listed a w → wpAny P md ops Q fuel listed a w
  | 0, _, _, _, h => h
  | fuel + 1, _, _, _, h => ⟨h.1, fun i hi => wpOp_mono (fun a' w' h' => wpAny_of_G fuel _ a' w' h'.2) (h.2 i hi)⟩

theorem wpAnyG_first {i : Nat} {oi : Oper} {v : Value} (hi : ops[i]? = some oi) (hsel : ∀ (j : Nat) (o : Oper) cs b, ops[j]? = some o → o.op ≠ .select cs b)
    (hQ : ∀ c a w, Q (.panic c) (a.put oi.dst v) w → Q (.panic c) a w) (hiM : i ∉ M)
    (hT : ((∀ w, S w → T w) ∧ ∀ k ∈ M, ∀ ok, ops[k]? = some ok → ∃ e ∈ ok.after, Region.binds md e = true ∧ e.on = i) ∨ ∀ w, T w) :
    ∀ (fuel : Nat) (listed : Array Bool) (a : Act) (w : World),
      (∀ j oj, ops[j]? = some oj → j ≠ i → listed.getD j true = false → (∀ e ∈ oj.after, Region.binds md e = true → e.on ≠ i) → oi.apart ops oj = true) →
      i ∈ Region.ready md ops listed → YieldsIf P ops T oi v a → (early M listed → S w) → ((∀ w, T w) ∨ early M listed) →
      wpAnyG P md ops Q S M fuel (listed.setIfInBounds i true) (a.put oi.dst v) w → wpAnyG P md ops Q S M (fuel + 1) listed a w := by
  intro fuel
  have hTw : ∀ (listed : Array Bool) (w : World), (early M listed → S w) → ((∀ w, T w) ∨ early M listed) → T w := fun listed w hS he => by
    rcases hT with ⟨h, _⟩ | h
    · rcases he with h' | h'
      · exact h' w
      · exact h w (hS h')
    · exact h w
  induction fuel with
  | zero =>
    intro listed a w _ hr hy hS he H
    refine ⟨fun h => (by rw [h] at hr; cases hr), fun j hj => ?_⟩
    by_cases hji : j = i
    · subst hji; exact hy.wpOp hi (hTw listed w hS he) ⟨fun h => hS ((early_ne hiM).1 h), H⟩
    · have := ready_mono hj hji
      rw [H.1] at this
      cases this
  | succ fuel ih =>
    intro listed a w hfree hr hy hS he H
    refine ⟨fun h => (by rw [h] at hr; cases hr), fun j hj => ?_⟩
    by_cases hji : j = i
    · subst hji; exact hy.wpOp hi (hTw listed w hS he) ⟨fun h => hS ((early_ne hiM).1 h), H⟩
    · have h1 := H.2 j (ready_mono hj hji)
      obtain ⟨hjun, oj, hoj, hall⟩ := mem_ready.1 hj
      have hnot : ∀ e ∈ oj.after, Region.binds md e = true → e.on ≠ i := fun e he hb heq => by
        have h1 := hall e he hb
        have h0 := (mem_ready.1 hr).1
        rw [heq] at h1
        rcases Nat.lt_or_ge i listed.size with h' | h'
        · simp [h'] at h0 h1; rw [h0] at h1; cases h1
        · simp [Array.getElem?_eq_none h'] at h1
      have h2 := wpOp_putIf hoj (hfree j oj hoj hji hjun hnot) (fun cs b => hsel i oi cs b hi) (fun cs b => hsel j oj cs b hoj) hQ hy h1
      have hfree' : ∀ k ok, ops[k]? = some ok → k ≠ i → (listed.setIfInBounds j true).getD k true = false →
          (∀ e ∈ ok.after, Region.binds md e = true → e.on ≠ i) → oi.apart ops ok = true := fun k ok hk hki hun hno => by
        refine hfree k ok hk hki ?_ hno
        by_cases hjk : j = k
        · subst hjk; exact hjun
        · rw [getD_set_ne true hjk] at hun; exact hun
      have he' : (∀ w, T w) ∨ early M (listed.setIfInBounds j true) := by
        rcases he with h | h
        · exact .inl h
        · rcases hT with ⟨_, hw⟩ | h'
          · refine .inr ((early_ne (fun hjM => ?_)).2 h)
            obtain ⟨e, he, hb, ho⟩ := hw j hjM oj hoj
            exact hnot e he hb ho
          · exact .inl h'
      refine wpOp_mono (fun a' w' h3 => ?_) h2
      have h4 := h3.2.1
      have h5 := h3.2.2
      rw [Array.setIfInBounds_comm _ _ (Ne.symm hji)] at h4 h5
      have hS' : early M (listed.setIfInBounds j true) → S w' := fun h => h4 ((early_ne hiM).2 h)
      exact ⟨hS', ih (listed.setIfInBounds j true) a' w' hfree' (ready_mono hr (Ne.symm hji)) h3.1 hS' he' h5⟩

/-- A load (or whatever yields under S): it may come up, and all of M wait for it. -/
theorem wpAnyG_load (i : Nat) {oi : Oper} {v : Value} {fuel : Nat} {listed : Array Bool} {a : Act} {w : World} (hi : ops[i]? = some oi)
    (hs : Region.noSelect ops = true) (hf : Region.free md ops listed i = true) (hr : (Region.ready md ops listed).contains i = true)
    (hM : (!M.contains i && M.all (fun k => ((ops[k]?.map (·.after)).getD #[]).any (fun e => Region.binds md e && e.on == i)) && M.all (fun k => listed.getD k true == false)) = true)
    (hQ : ∀ c a w, Q (.panic c) (a.put oi.dst v) w → Q (.panic c) a w) (hy : YieldsIf P ops S oi v a) (hS : S w)
    (h : S w → wpAnyG P md ops Q S M fuel (listed.setIfInBounds i true) (a.put oi.dst v) w) : wpAnyG P md ops Q S M (fuel + 1) listed a w := by
  simp only [Bool.and_eq_true, Bool.not_eq_true', List.all_eq_true, beq_iff_eq] at hM
  obtain ⟨⟨h1, h2⟩, h3⟩ := hM
  refine wpAnyG_first (T := S) hi (Region.noSelect_spec hs) hQ (by simpa using h1) (.inl ⟨fun _ h => h, fun k hk ok hok => ?_⟩) fuel listed a w (Region.free_spec hi hf) (by simpa using hr) hy (fun _ => hS) (.inr fun k hk => h3 k hk) (h hS)
  have := h2 k hk
  rw [hok] at this
  simp only [Option.map_some, Option.getD_some, Array.any_eq_true', Bool.and_eq_true, beq_iff_eq] at this
  exact this

/-- Whatever yields in every world. -/
theorem wpAnyG_pure (i : Nat) {oi : Oper} {v : Value} {fuel : Nat} {listed : Array Bool} {a : Act} {w : World} (hi : ops[i]? = some oi)
    (hs : Region.noSelect ops = true) (hf : Region.free md ops listed i = true) (hr : (Region.ready md ops listed).contains i = true) (hM : (!M.contains i) = true)
    (hQ : ∀ c a w, Q (.panic c) (a.put oi.dst v) w → Q (.panic c) a w) (hy : YieldsIf P ops (fun _ => True) oi v a) (hS : early M listed → S w)
    (h : (early M (listed.setIfInBounds i true) → S w) → wpAnyG P md ops Q S M fuel (listed.setIfInBounds i true) (a.put oi.dst v) w) : wpAnyG P md ops Q S M (fuel + 1) listed a w :=
  wpAnyG_first (T := fun _ => True) hi (Region.noSelect_spec hs) hQ (by simpa using hM) (.inr fun _ => trivial) fuel listed a w (Region.free_spec hi hf) (by simpa using hr) hy hS (.inl fun _ => trivial) (h fun he => hS ((early_ne (by simpa using hM)).1 he))

/-- One operation alone may come up. -/
theorem wpAnyG_one (i : Nat) {oi : Oper} {fuel : Nat} {listed : Array Bool} {a : Act} {w : World} (hi : ops[i]? = some oi) (hr : Region.ready md ops listed = [i])
    (h : wpOp P ops Q i (fun a' w' => (early M (listed.setIfInBounds i true) → S w') ∧ wpAnyG P md ops Q S M fuel (listed.setIfInBounds i true) a' w') a w) : wpAnyG P md ops Q S M (fuel + 1) listed a w :=
  ⟨fun h0 => (by rw [hr] at h0; cases h0), fun j hj => by rw [hr] at hj; obtain rfl : j = i := (by simpa using hj); exact h⟩

/-- Two operations may come up. -/
theorem wpAnyG_two (i j : Nat) {fuel : Nat} {listed : Array Bool} {a : Act} {w : World} (hr : Region.ready md ops listed = [i, j])
    (h1 : wpOp P ops Q i (fun a' w' => (early M (listed.setIfInBounds i true) → S w') ∧ wpAnyG P md ops Q S M fuel (listed.setIfInBounds i true) a' w') a w)
    (h2 : wpOp P ops Q j (fun a' w' => (early M (listed.setIfInBounds j true) → S w') ∧ wpAnyG P md ops Q S M fuel (listed.setIfInBounds j true) a' w') a w) : wpAnyG P md ops Q S M (fuel + 1) listed a w :=
  ⟨fun h0 => (by rw [hr] at h0; cases h0), fun k hk => by
    rw [hr] at hk
    rcases List.mem_cons.1 hk with rfl | hk
    · exact h1
    · obtain rfl : k = j := (by simpa using hk)
      exact h2⟩

theorem wpAnyG_done {listed : Array Bool} {a : Act} {w : World} (hr : Region.ready md ops listed = []) (h : Q .normal a w) : ∀ fuel, wpAnyG P md ops Q S M fuel listed a w
  | 0 => ⟨hr, h⟩
  | _ + 1 => ⟨fun _ => h, by rw [hr]; simp⟩

theorem wp_region_late {id : Nat} {a : Act} {w : World} (S : World → Prop) (M : List Nat) (hm : P.follows .mixedOrders = true)
    (h : wpAnyG P .any ops Q S M ops.size (Array.replicate ops.size false) a w.drew) : (Code.region id ops true).wp P Q a w :=
  wp_region_any hm (wpAny_of_G _ _ _ _ h)
end

/-- The world behind a region gets a name; what is known of it is said. -/
theorem then_name {K : Act → World → Prop} {Q : Exit → Act → World → Prop} {a : Act} {w : World} (R : World → Prop) (hR : R w) (h : ∀ W, R W → Exit.then K Q .normal a W) : Exit.then K Q .normal a w := h w hR

open Go.RowKit in
theorem bcell {W w1 : World} (hb : Below W.heap.size W w1) : (∀ b o, b < W.heap.size → w1.cell? ⟨b, o, none⟩ = W.cell? ⟨b, o, none⟩) ∧ (∀ b o, b < W.heap.size → w1.frozen? ⟨b, o, none⟩ = W.frozen? ⟨b, o, none⟩) :=
  ⟨fun b o h => hb.cell (p := ⟨b, o, none⟩) h, fun b o h => hb.frozen (p := ⟨b, o, none⟩) h⟩

end Go.Proofs.Ytpkkfcfkhiaggaa
