/- Small lemmas on worlds that have grown, shared by all walks of the seat: what holds behind a call, and in a region whose order is open. -/
import Derived.Test.YtpkkfcfkhiaggaaProg
import Derived.WalkKit
import Derived.WalkSpells
import Derived.WalkLawsBesides
import Derived.StillTail
import Derived.BigQuiet
import Derived.Deep.RegionHeld3
set_option linter.unusedSimpArgs false
set_option linter.unusedVariables false
set_option linter.unnecessarySimpa false
namespace Go.Proofs.Ytpkkfcfkhiaggaa
open Go.RowKit

theorem ret_int {k : IntKind} {a b : Int} (h : a = b) : Ending.returned (.int k a) = .returned (.int k b) := by rw [h]
theorem ret_bool {a b : Bool} (h : a = b) : Ending.returned (.bool a) = .returned (.bool b) := by rw [h]
theorem bl_alloc {w X : World} (h : Below w.heap.size w X) (o : Obj) : Below w.heap.size w (X.alloc o) := h.alloc h.size o
theorem bl_trans {w X Y : World} (h : Below w.heap.size w X) (k : Below X.heap.size X Y) : Below w.heap.size w Y := h.trans (k.mono h.size)

/-! Sizes of a heap that has grown by so many blocks. -/
@[go_sem] theorem lt_up2 (n : Nat) : n < n + 1 + 1 := by omega
@[go_sem] theorem lt_up3 (n : Nat) : n < n + 1 + 1 + 1 := by omega
@[go_sem] theorem lt_up4 (n : Nat) : n < n + 1 + 1 + 1 + 1 := by omega
@[go_sem] theorem lt_up5 (n : Nat) : n < n + 1 + 1 + 1 + 1 + 1 := by omega
@[go_sem] theorem lt_up6 (n : Nat) : n < n + 1 + 1 + 1 + 1 + 1 + 1 := by omega
@[go_sem] theorem lt_up7 (n : Nat) : n < n + 1 + 1 + 1 + 1 + 1 + 1 + 1 := by omega
@[go_sem] theorem lt_up8 (n : Nat) : n < n + 1 + 1 + 1 + 1 + 1 + 1 + 1 + 1 := by omega
@[go_sem] theorem lt_up9 (n : Nat) : n < n + 1 + 1 + 1 + 1 + 1 + 1 + 1 + 1 + 1 := by omega
@[go_sem] theorem lt_up10 (n : Nat) : n < n + 1 + 1 + 1 + 1 + 1 + 1 + 1 + 1 + 1 + 1 := by omega
@[go_sem] theorem lt_up11 (n : Nat) : n < n + 1 + 1 + 1 + 1 + 1 + 1 + 1 + 1 + 1 + 1 + 1 := by omega
@[go_sem] theorem lt_up12 (n : Nat) : n < n + 1 + 1 + 1 + 1 + 1 + 1 + 1 + 1 + 1 + 1 + 1 + 1 := by omega
@[go_sem] theorem lt_up13 (n : Nat) : n < n + 1 + 1 + 1 + 1 + 1 + 1 + 1 + 1 + 1 + 1 + 1 + 1 + 1 := by omega
@[go_sem] theorem lt_up14 (n : Nat) : n < n + 1 + 1 + 1 + 1 + 1 + 1 + 1 + 1 + 1 + 1 + 1 + 1 + 1 + 1 := by omega
@[go_sem] theorem lt_up15 (n : Nat) : n < n + 1 + 1 + 1 + 1 + 1 + 1 + 1 + 1 + 1 + 1 + 1 + 1 + 1 + 1 + 1 := by omega
@[go_sem] theorem lt_up16 (n : Nat) : n < n + 1 + 1 + 1 + 1 + 1 + 1 + 1 + 1 + 1 + 1 + 1 + 1 + 1 + 1 + 1 + 1 := by omega
@[go_sem] theorem lt_up17 (n : Nat) : n < n + 1 + 1 + 1 + 1 + 1 + 1 + 1 + 1 + 1 + 1 + 1 + 1 + 1 + 1 + 1 + 1 + 1 := by omega
@[go_sem] theorem lt_up18 (n : Nat) : n < n + 1 + 1 + 1 + 1 + 1 + 1 + 1 + 1 + 1 + 1 + 1 + 1 + 1 + 1 + 1 + 1 + 1 + 1 := by omega
@[go_sem] theorem lt_up19 (n : Nat) : n < n + 1 + 1 + 1 + 1 + 1 + 1 + 1 + 1 + 1 + 1 + 1 + 1 + 1 + 1 + 1 + 1 + 1 + 1 + 1 := by omega
@[go_sem] theorem lt_up20 (n : Nat) : n < n + 1 + 1 + 1 + 1 + 1 + 1 + 1 + 1 + 1 + 1 + 1 + 1 + 1 + 1 + 1 + 1 + 1 + 1 + 1 + 1 := by omega
@[go_sem] theorem le_up2 (n : Nat) : n ≤ n + 1 + 1 := by omega
@[go_sem] theorem le_up3 (n : Nat) : n ≤ n + 1 + 1 + 1 := by omega
@[go_sem] theorem le_up4 (n : Nat) : n ≤ n + 1 + 1 + 1 + 1 := by omega
@[go_sem] theorem le_up5 (n : Nat) : n ≤ n + 1 + 1 + 1 + 1 + 1 := by omega
@[go_sem] theorem le_up6 (n : Nat) : n ≤ n + 1 + 1 + 1 + 1 + 1 + 1 := by omega
@[go_sem] theorem le_up7 (n : Nat) : n ≤ n + 1 + 1 + 1 + 1 + 1 + 1 + 1 := by omega
@[go_sem] theorem le_up8 (n : Nat) : n ≤ n + 1 + 1 + 1 + 1 + 1 + 1 + 1 + 1 := by omega
@[go_sem] theorem le_up9 (n : Nat) : n ≤ n + 1 + 1 + 1 + 1 + 1 + 1 + 1 + 1 + 1 := by omega
@[go_sem] theorem le_up10 (n : Nat) : n ≤ n + 1 + 1 + 1 + 1 + 1 + 1 + 1 + 1 + 1 + 1 := by omega
@[go_sem] theorem le_up11 (n : Nat) : n ≤ n + 1 + 1 + 1 + 1 + 1 + 1 + 1 + 1 + 1 + 1 + 1 := by omega
@[go_sem] theorem le_up12 (n : Nat) : n ≤ n + 1 + 1 + 1 + 1 + 1 + 1 + 1 + 1 + 1 + 1 + 1 + 1 := by omega
@[go_sem] theorem le_up13 (n : Nat) : n ≤ n + 1 + 1 + 1 + 1 + 1 + 1 + 1 + 1 + 1 + 1 + 1 + 1 + 1 := by omega
@[go_sem] theorem le_up14 (n : Nat) : n ≤ n + 1 + 1 + 1 + 1 + 1 + 1 + 1 + 1 + 1 + 1 + 1 + 1 + 1 + 1 := by omega
@[go_sem] theorem le_up15 (n : Nat) : n ≤ n + 1 + 1 + 1 + 1 + 1 + 1 + 1 + 1 + 1 + 1 + 1 + 1 + 1 + 1 + 1 := by omega
@[go_sem] theorem le_up16 (n : Nat) : n ≤ n + 1 + 1 + 1 + 1 + 1 + 1 + 1 + 1 + 1 + 1 + 1 + 1 + 1 + 1 + 1 + 1 := by omega
@[go_sem] theorem le_up17 (n : Nat) : n ≤ n + 1 + 1 + 1 + 1 + 1 + 1 + 1 + 1 + 1 + 1 + 1 + 1 + 1 + 1 + 1 + 1 + 1 := by omega
@[go_sem] theorem le_up18 (n : Nat) : n ≤ n + 1 + 1 + 1 + 1 + 1 + 1 + 1 + 1 + 1 + 1 + 1 + 1 + 1 + 1 + 1 + 1 + 1 + 1 := by omega
@[go_sem] theorem le_up19 (n : Nat) : n ≤ n + 1 + 1 + 1 + 1 + 1 + 1 + 1 + 1 + 1 + 1 + 1 + 1 + 1 + 1 + 1 + 1 + 1 + 1 + 1 := by omega
@[go_sem] theorem le_up20 (n : Nat) : n ≤ n + 1 + 1 + 1 + 1 + 1 + 1 + 1 + 1 + 1 + 1 + 1 + 1 + 1 + 1 + 1 + 1 + 1 + 1 + 1 + 1 := by omega

/-- A world that has only grown since W: what W held is as it was. -/
structure GW (W : World) where
  world : World
  grow : Below W.heap.size W world

instance (W : World) : Nonempty (GW W) := ⟨⟨W, Below.refl _ _⟩⟩
theorem GW.of {W w1 : World} (h : Below W.heap.size W w1) : ∃ X : GW W, w1 = X.world := ⟨⟨w1, h⟩, rfl⟩
@[go_sem] theorem GW.cell {W : World} (X : GW W) (b o : Nat) (h : b < W.heap.size) : X.world.cell? ⟨b, o, none⟩ = W.cell? ⟨b, o, none⟩ := X.grow.cell (p := ⟨b, o, none⟩) h
@[go_sem] theorem GW.frozen {W : World} (X : GW W) (b o : Nat) (h : b < W.heap.size) : X.world.frozen? ⟨b, o, none⟩ = W.frozen? ⟨b, o, none⟩ := X.grow.frozen (p := ⟨b, o, none⟩) h
@[go_sem] theorem GW.lt {W : World} (X : GW W) (b : Nat) (h : b < W.heap.size) : b < X.world.heap.size := Nat.lt_of_lt_of_le h X.grow.size
@[go_sem] theorem cell_set_same (w : World) (b o : Nat) (v : Value) (h : (w.cell? ⟨b, o, none⟩).isSome = true) : (w.setCell ⟨b, o, none⟩ v).cell? ⟨b, o, none⟩ = some v := by
  obtain ⟨u, hu⟩ := Option.isSome_iff_exists.1 h
  exact World.cell?_setCell_same w _ v hu
@[go_sem] theorem GW.heap {W : World} (X : GW W) (b : Nat) (h : b < W.heap.size) : X.world.heap[b]? = W.heap[b]? := X.grow.block b h
theorem heap_alloc_at (w : World) (o : Obj) (n : Nat) (h : n = w.heap.size) : (w.alloc o).heap[n]? = some o := by subst h; show (w.heap.push o)[w.heap.size]? = some o; simp
theorem heap_alloc_past (w : World) (o : Obj) (n : Nat) (h : n < w.heap.size) : (w.alloc o).heap[n]? = w.heap[n]? := Below.heap_alloc w o n h
theorem heap_set_past (w : World) (b o n : Nat) (v : Value) (h : n ≠ b) : (w.setCell ⟨b, o, none⟩ v).heap[n]? = w.heap[n]? := Below.heap_setCell w ⟨b, o, none⟩ v n h
theorem GW.of2 {W w1 : World} {Y : GW W} (h : Below Y.world.heap.size Y.world w1) : ∃ X : GW W, w1 = X.world := ⟨⟨w1, bl_trans Y.grow h⟩, rfl⟩
theorem GW.call {W : World} {X : GW W} {P : Program} {f : FuncId} {args : Array Value} {v : Value}
    (h : Calls P f args X.world fun e w' => e = .returned v ∧ Below X.world.heap.size X.world w') : Calls P f args X.world fun e w' => e = .returned v ∧ ∃ Y : GW W, w' = Y.world :=
  h.mono fun _ _ ⟨he, hb⟩ => ⟨he, GW.of (bl_trans X.grow hb)⟩

/-- What block g holds, if it is a row of cells that may be written. -/
def rowAt (w : World) (g : Nat) : Option (Array Value) := match w.heap[g]? with | some (.cells c _ (0, 0)) => some c | _ => none
theorem rowAt_some {w : World} {g : Nat} {cs : Array Value} (h : rowAt w g = some cs) : ∃ t, w.heap[g]? = some (.cells cs t (0, 0)) := by
  unfold rowAt at h
  split at h
  · rename_i c t he; cases h; exact ⟨t, he⟩
  · cases h
theorem rowAt_of {w : World} {g : Nat} {cs : Array Value} {t : TypeId} (h : w.heap[g]? = some (.cells cs t (0, 0))) : rowAt w g = some cs := by simp [rowAt, h]
@[go_sem] theorem rowAt_set (w : World) (g i : Nat) (v : Value) : rowAt (w.setCell ⟨g, i, none⟩ v) g = (rowAt w g).map (fun c => c.setIfInBounds i v) := by
  unfold rowAt World.setCell
  simp only [Array.getElem?_modify, ↓reduceIte]
  cases w.heap[g]? with
  | none => rfl
  | some o =>
    cases o with
    | cells c t fr =>
      obtain ⟨lo, hi⟩ := fr
      by_cases h : lo = 0 ∧ hi = 0
      · obtain ⟨rfl, rfl⟩ := h; simp
      · have h1 : ∀ (d : Array Value), (match (some (Obj.cells d t (lo, hi)) : Option Obj) with | some (.cells c _ (0, 0)) => some c | _ => none) = none := fun d => by
          split
          · rename_i c' t' he; cases he; exact absurd ⟨rfl, rfl⟩ h
          · rfl
        simp only [Option.map_some, h1]
        simp
    | _ => rfl
@[go_sem] theorem rowAt_drew (w : World) (g : Nat) : rowAt w.drew g = rowAt w g := rfl
@[go_sem] theorem rowAt_set_other (w : World) (b g i : Nat) (v : Value) (h : g ≠ b) : rowAt (w.setCell ⟨b, i, none⟩ v) g = rowAt w g := by
  unfold rowAt; rw [heap_set_past w b i g v h]
@[go_sem] theorem rowAt_alloc_at (w : World) (c : Array Value) (t : TypeId) (g : Nat) (h : g = w.heap.size) : rowAt (w.alloc (.cells c t)) g = some c := by
  exact rowAt_of (heap_alloc_at w _ g h)
@[go_sem] theorem rowAt_alloc_past (w : World) (o : Obj) (g : Nat) (h : g < w.heap.size) : rowAt (w.alloc o) g = rowAt w g := by
  unfold rowAt; rw [heap_alloc_past w _ g h]
@[go_sem] theorem rowAt_gw {W : World} (X : GW W) (g : Nat) (h : g < W.heap.size) : rowAt X.world g = rowAt W g := by
  unfold rowAt; rw [GW.heap X g h]

/-- A block that may be written, with what it holds. -/
def Box (w : World) (b : Nat) (cs : Array Value) (t : TypeId) : Prop := w.heap[b]? = some (.cells cs t (0, 0))
theorem Box.cell {w : World} {b : Nat} {cs : Array Value} {t : TypeId} (h : Box w b cs t) (o : Nat) : w.cell? ⟨b, o, none⟩ = cs[o]? := cell_of_row w b o cs t _ h
theorem Box.free {w : World} {b : Nat} {cs : Array Value} {t : TypeId} (h : Box w b cs t) (o : Nat) : w.frozen? ⟨b, o, none⟩ = false := frozen_of_row w b o cs t h
theorem Box.lt {w : World} {b : Nat} {cs : Array Value} {t : TypeId} (h : Box w b cs t) : b < w.heap.size := (Array.getElem?_eq_some_iff.1 h).1
theorem Box.row {w : World} {b : Nat} {cs : Array Value} {t : TypeId} (h : Box w b cs t) : rowAt w b = some cs := rowAt_of h
theorem Box.gw {W : World} {X : GW W} {b : Nat} {cs : Array Value} {t : TypeId} (h : Box W b cs t) : Box X.world b cs t := (X.grow.block b h.lt).trans h
theorem Box.set {w : World} {b : Nat} {cs : Array Value} {t : TypeId} (h : Box w b cs t) (i : Nat) (v : Value) : Box (w.setCell ⟨b, i, none⟩ v) b (cs.setIfInBounds i v) t := heap_setCell_same w b i cs t v h
theorem Box.set_other {w : World} {b : Nat} {cs : Array Value} {t : TypeId} (h : Box w b cs t) {g : Nat} (hg : b ≠ g) (i : Nat) (v : Value) : Box (w.setCell ⟨g, i, none⟩ v) b cs t := (heap_set_past w g i b v hg).trans h
theorem Box.alloc {w : World} {b : Nat} {cs : Array Value} {t : TypeId} (h : Box w b cs t) (o : Obj) : Box (w.alloc o) b cs t := (heap_alloc_past w o b h.lt).trans h
theorem Box.drew {w : World} {b : Nat} {cs : Array Value} {t : TypeId} (h : Box w b cs t) : Box w.drew b cs t := h
theorem Box.new (w : World) (cs : Array Value) (t : TypeId) {b : Nat} (hb : b = w.heap.size) : Box (w.alloc (.cells cs t)) b cs t := heap_alloc_at w _ b hb

theorem Box.as {w : World} {b : Nat} {cs ds : Array Value} {t : TypeId} (h : Box w b cs t) (e : cs = ds) : Box w b ds t := e ▸ h

/-- A struct in the result's cell, and a second result in a temporary. -/
theorem ret_row_tmp {P : Program} {fn : Func} {R : Ending → World → Prop} {a : Act} {w : World} {p u : Tmp} {ty : TypeId} {g n : Nat} {d : TypeDesc} (h : fn.results = #[.cell p ty, .tmp u])
    (hp : a.tmps.getD p undef = .pointer (some ⟨g, 0, none⟩)) (hu : P.underlying ty = some d) (hd : (match d with | .struct _ | .array _ _ => true | _ => false) = true)
    (hi : (P.info? ty).map (·.size) = some n) (hde : a.defers = []) (hR : ∃ cs, rowAt w g = some cs ∧ cs.size = n ∧ R (.returned (.tuple #[.agg cs, a.tmps.getD u undef])) w) : bodyPost P fn R .ret a w := by
  obtain ⟨cs, hg, hn, hR⟩ := hR
  obtain ⟨t, hg⟩ := rowAt_some hg
  refine bodyPost_ret (v := .tuple #[.agg cs, a.tmps.getD u undef]) ?_ hde hR
  rw [results_cell_tmp h, hp]
  simp [asAddr, Result.andThen, run_loadVar_row w g t ty cs (0, 0) d hg hu hd (by rw [hn]; exact hi)]
/-- A struct alone. -/
theorem ret_row {P : Program} {fn : Func} {R : Ending → World → Prop} {a : Act} {w : World} {p : Tmp} {ty : TypeId} {g n : Nat} {d : TypeDesc} (h : fn.results = #[.cell p ty])
    (hp : a.tmps.getD p undef = .pointer (some ⟨g, 0, none⟩)) (hu : P.underlying ty = some d) (hd : (match d with | .struct _ | .array _ _ => true | _ => false) = true)
    (hi : (P.info? ty).map (·.size) = some n) (hde : a.defers = []) (hR : ∃ cs, rowAt w g = some cs ∧ cs.size = n ∧ R (.returned (.agg cs)) w) : bodyPost P fn R .ret a w := by
  obtain ⟨cs, hg, hn, hR⟩ := hR
  obtain ⟨t, hg⟩ := rowAt_some hg
  exact bodyPost_ret (results_cell_row h a.tmps w g t cs (0, 0) d hp hg hu hd (by rw [hn]; exact hi)) hde hR

/-- The world at hand gets a name; what is known of it is said. -/
theorem wp_name {P : Program} {c : Code} {Q : Exit → Act → World → Prop} {a : Act} {w : World} (R : World → Prop) (hR : R w) (h : ∀ W, R W → c.wp P Q a W) : c.wp P Q a w := h w hR

section
variable {P : Program} {ops : Array Oper} {md : Region.Mode} {C : World → Prop}

/-- A region whose order is open: a head whose operations are quiet in the class C, in whatever order, and a tail in a forced order. -/
def wpAnyT (P : Program) (md : Region.Mode) (ops : Array Oper) (C : World → Prop) (n : Nat) (L : Array Bool → Act → Prop) : Nat → Array Bool → Act → Prop
  | 0, listed, a => L listed a
  | f + 1, listed, a =>
    Region.ready md ops listed ≠ [] ∧ ∀ i ∈ Region.ready md ops listed, i < n ∧ qOp P ops C i (wpAnyT P md ops C n L f (listed.setIfInBounds i true)) a

theorem wpAny_of_headT {n g : Nat} {L : Array Bool → Act → Prop} {Q' : Exit → Act → World → Prop} (hL : ∀ listed a w, C w → L listed a → wpAny P md ops Q' g listed a w) :
    ∀ (f : Nat) (listed : Array Bool) (a : Act) (w : World), C w → wpAnyT P md ops C n L f listed a → wpAny P md ops Q' (f + g) listed a w
  | 0, listed, a, w, hw, h => by rw [Nat.zero_add]; exact hL _ _ _ hw h
  | f + 1, listed, a, w, hw, h => by
    rw [show f + 1 + g = (f + g) + 1 by omega]
    exact ⟨fun h0 => absurd h0 h.1, fun i hi => wpOp_of_qOp hw (fun a' w' hw' h' => wpAny_of_headT hL f _ a' w' hw' h') (h.2 i hi).2⟩

theorem wpAnyT_first {n i : Nat} {oi : Oper} {v : Value} {L : Array Bool → Act → Prop} (hi : ops[i]? = some oi) (hsel : ∀ (j : Nat) (o : Oper) cs b, ops[j]? = some o → o.op ≠ .select cs b)
    (hs : Region.sinkB md ops n = true) (hc : Region.chainB md ops n = true) (hn : n < ops.size) (hin : i < n)
    (hdone : ∀ listed a, L listed a → ∀ j ∈ Region.ready md ops listed, n ≤ j) :
    ∀ (f : Nat) (listed : Array Bool) (a : Act), HeadInv md ops n listed →
      (∀ j oj, ops[j]? = some oj → j ≠ i → listed.getD j true = false → (∀ e ∈ oj.after, Region.binds md e = true → e.on ≠ i) → oi.apart ops oj = true) →
      i ∈ Region.ready md ops listed → YieldsIn P ops C oi v a →
      wpAnyT P md ops C n L f (listed.setIfInBounds i true) (a.put oi.dst v) → wpAnyT P md ops C n L (f + 1) listed a := by
  intro f
  induction f with
  | zero =>
    intro listed a inv _ hr hy H
    have hun := (mem_ready.1 hr).1
    refine ⟨fun h => (by rw [h] at hr; cases hr), fun j hj => ?_⟩
    have hjn : j < n := by
      rcases Nat.lt_or_ge j n with h | h
      · exact h
      · exact absurd hj (tail_waits hs hc hn inv _ i rfl hin hun j h)
    refine ⟨hjn, ?_⟩
    by_cases hji : j = i
    · subst hji; exact hy.qOp hi H
    · have := hdone _ _ H j (ready_mono hj hji)
      omega
  | succ f ih =>
    intro listed a inv hfree hr hy H
    have hun := (mem_ready.1 hr).1
    refine ⟨fun h => (by rw [h] at hr; cases hr), fun j hj => ?_⟩
    have hjn : j < n := by
      rcases Nat.lt_or_ge j n with h | h
      · exact h
      · exact absurd hj (tail_waits hs hc hn inv _ i rfl hin hun j h)
    refine ⟨hjn, ?_⟩
    by_cases hji : j = i
    · subst hji; exact hy.qOp hi H
    · have h1 := (H.2 j (ready_mono hj hji)).2
      obtain ⟨hjun, oj, hoj, hall⟩ := mem_ready.1 hj
      have hnot : ∀ e ∈ oj.after, Region.binds md e = true → e.on ≠ i := fun e he hb heq => by
        have h1 := hall e he hb
        rw [heq, getD_both hun] at h1
        cases h1
      have h2 := qOp_put hoj (hfree j oj hoj hji hjun hnot) (fun cs b => hsel i oi cs b hi) (fun cs b => hsel j oj cs b hoj) hy h1
      have hfree' : ∀ k ok, ops[k]? = some ok → k ≠ i → (listed.setIfInBounds j true).getD k true = false →
          (∀ e ∈ ok.after, Region.binds md e = true → e.on ≠ i) → oi.apart ops ok = true := fun k ok hk hki hun hno => by
        refine hfree k ok hk hki ?_ hno
        by_cases hjk : j = k
        · subst hjk; exact hjun
        · rw [getD_set_ne true hjk] at hun; exact hun
      refine qOp_mono (fun a' h3 => ih (listed.setIfInBounds j true) a' (inv.set hj hjn) hfree' (ready_mono hr (Ne.symm hji)) h3.1 ?_) h2
      rw [Array.setIfInBounds_comm _ _ hji]
      exact h3.2

theorem wpAnyT_lex {n g : Nat} {Lq : Act → Prop} (hsel : Region.noSelect ops = true) (hs : Region.sinkB md ops n = true) (hc : Region.chainB md ops n = true) (hn : n < ops.size) :
    ∀ (l : List Oper) (k : Nat) (listed : Array Bool) (a : Act), (∀ j, j < l.length → l[j]? = ops[k + j]?) → k + l.length = n → HeadInv md ops n listed →
    Region.lexHead md ops g l.length k listed = true → wpQuiet P ops C Lq l a →
    wpAnyT P md ops C n (fun listed' a' => Region.seqB md ops g n listed' = true ∧ Lq a') l.length listed a
  | [], k, listed, a, _, hk, _, hB, h => by
    have : k = n := by simpa using hk
    subst this
    exact ⟨by simpa [Region.lexHead] using hB, h⟩
  | o :: l, k, listed, a, hl, hk, inv, hB, h => by
    have h0 : ops[k]? = some o := by simpa using (hl 0 (by simp)).symm
    simp only [List.length_cons, Region.lexHead, Bool.and_eq_true] at hB
    obtain ⟨⟨hr, hf⟩, hB'⟩ := hB
    have hkn : k < n := by simp only [List.length_cons] at hk; omega
    have hr' : k ∈ Region.ready md ops listed := by simpa using hr
    have hst : qOp P ops C k (wpQuiet P ops C Lq l) a := by unfold qOp; simp only [h0]; exact h
    obtain ⟨v, hy, hK⟩ := yieldsIn_of_qOp h0 hst
    exact wpAnyT_first h0 (Region.noSelect_spec hsel) hs hc hn hkn (fun listed' a' hL => seqB_ready hL.1) l.length listed a inv (Region.free_spec h0 hf) hr' hy
      (wpAnyT_lex hsel hs hc hn l (k + 1) _ _ (fun j hj => by have := hl (j + 1) (by simp; omega); simpa [Nat.add_assoc, Nat.add_comm 1 j] using this) (by simp only [List.length_cons] at hk; omega) (inv.set hr' hkn) hB' hK)

theorem wp_region_quiet_tail {id : Nat} {Q : Exit → Act → World → Prop} {a : Act} {w : World} {l : List Oper} (n : Nat) (hm : P.follows .mixedOrders = true) (hB : Region.lexTailB .any l.toArray n = true) (hC : C { w with drawn := w.drawn + 1 })
    (h : wpQuiet P l.toArray C (fun a' => ∀ w', C w' → wpList P l.toArray Q (l.drop n) a' w') (l.take n) a) : (Code.region id l.toArray true).wp P Q a w := by
  simp only [Region.lexTailB, Bool.and_eq_true, decide_eq_true_eq] at hB
  obtain ⟨⟨⟨⟨hsel, hn⟩, hs⟩, hc⟩, hlex⟩ := hB
  have hn' : n < l.length := by simpa using hn
  have htl : (l.take n).length = n := by simp; omega
  have hdl : (l.drop n).length = l.toArray.size - n := by simp
  have inv0 : HeadInv .any l.toArray n (Array.replicate l.toArray.size false) :=
    ⟨by simp, fun j oj _ hl => (by rw [getD_replicate_false] at hl; cases hl), fun t _ ht => getD_in (by simpa using ht) (getD_replicate_false _ _)⟩
  have H := wpAnyT_lex (md := .any) (g := l.toArray.size - n) hsel hs hc hn (l.take n) 0 _ a (fun j hj => by
    have hj' : j < n := by rw [htl] at hj; exact hj
    simp [hj']) (by simpa using htl) inv0 (by rw [htl]; exact hlex) h
  refine wp_region_any hm ?_
  have := wpAny_of_headT (Q' := Q) (g := l.toArray.size - n) (fun listed a' w' hw' hL => by
    have := wpAny_of_seq (md := .any) (Q' := Q) (l.drop n) n listed a' w' (fun j => by simp [List.getElem?_drop]) (by rw [hdl]; exact hL.1) (hL.2 w' hw')
    rwa [hdl] at this) _ _ _ _ hC H
  rw [htl, show n + (l.toArray.size - n) = l.toArray.size by omega] at this
  exact this

/-- The class of all worlds that have only grown since w; with a tail. -/
theorem wp_grow_tail {id : Nat} {Q : Exit → Act → World → Prop} {a : Act} {w : World} {l : List Oper} (n : Nat) (hm : P.follows .mixedOrders = true) (hB : Region.lexTailB .any l.toArray n = true)
    (h : wpQuiet P l.toArray (fun w' => ∃ X : GW w, w' = X.world) (fun a' => ∀ w', (∃ X : GW w, w' = X.world) → wpList P l.toArray Q (l.drop n) a' w') (l.take n) a) : (Code.region id l.toArray true).wp P Q a w :=
  wp_region_quiet_tail n hm hB ⟨⟨_, (Below.refl _ _).drew⟩, rfl⟩ h
theorem wp_grow_tail2 {id : Nat} {Q : Exit → Act → World → Prop} {a : Act} {w : World} {Y : GW w} {l : List Oper} (n : Nat) (hm : P.follows .mixedOrders = true) (hB : Region.lexTailB .any l.toArray n = true)
    (h : wpQuiet P l.toArray (fun w' => ∃ X : GW w, w' = X.world) (fun a' => ∀ w', (∃ X : GW w, w' = X.world) → wpList P l.toArray Q (l.drop n) a' w') (l.take n) a) : (Code.region id l.toArray true).wp P Q a Y.world :=
  wp_region_quiet_tail n hm hB ⟨⟨_, Y.grow.drew⟩, rfl⟩ h
theorem wp_grow2 {id : Nat} {Q : Exit → Act → World → Prop} {a : Act} {w : World} {Y : GW w} {l : List Oper} (hm : P.follows .mixedOrders = true) (hB : Region.lexB .any l.toArray = true)
    (h : wpQuiet P l.toArray (fun w' => ∃ X : GW w, w' = X.world) (fun a' => ∀ w', (∃ X : GW w, w' = X.world) → Q .normal a' w') l a) : (Code.region id l.toArray true).wp P Q a Y.world :=
  wp_region_quiet (C := fun w' => ∃ X : GW w, w' = X.world) hm hB ⟨⟨_, Y.grow.drew⟩, rfl⟩ (by simpa using h)
/-- The same, without a tail. -/
theorem wp_grow {id : Nat} {Q : Exit → Act → World → Prop} {a : Act} {w : World} {l : List Oper} (hm : P.follows .mixedOrders = true) (hB : Region.lexB .any l.toArray = true)
    (h : wpQuiet P l.toArray (fun w' => ∃ X : GW w, w' = X.world) (fun a' => ∀ w', (∃ X : GW w, w' = X.world) → Q .normal a' w') l a) : (Code.region id l.toArray true).wp P Q a w :=
  wp_region_quiet (C := fun w' => ∃ X : GW w, w' = X.world) hm hB ⟨⟨_, (Below.refl _ _).drew⟩, rfl⟩ (by simpa using h)
end

end Go.Proofs.Ytpkkfcfkhiaggaa
