/-
  Regions whose order is open: where two operations may come next. Condition: none.
-/
import Derived.Test.YteljecehppeamaaDoorRegion
import Derived.Test.YteljecehppeamaaDoorOwn
namespace Go.Fw
set_option linter.unusedVariables false
open Go.RowKit
section
variable {P : Program} {ops : Array Oper} {l : List Oper} {Q : Exit → Act → World → Prop} {S S' : World → Prop}
/-- number i or number j comes next -/
theorem any_two (i j : Nat) {o o' : Oper} {fuel : Nat} {listed : Array Bool} {a : Act} {w : World} (hr : Region.ready .any l.toArray listed = [i, j]) (ho : l[i]? = some o) (ho' : l[j]? = some o')
    (hg : Region.wanted o (yielded l.toArray a.tmps) = true) (hg' : Region.wanted o' (yielded l.toArray a.tmps) = true)
    (hc : ∀ K : Act → World → Prop, (∀ a' w', S w' → wpAnyH P .any l.toArray Q S fuel (listed.setIfInBounds i true) a' w' → K a' w') → Oper.wp P o a w K Q)
    (hc' : ∀ K : Act → World → Prop, (∀ a' w', S w' → wpAnyH P .any l.toArray Q S fuel (listed.setIfInBounds j true) a' w' → K a' w') → Oper.wp P o' a w K Q) : wpAnyH P .any l.toArray Q S (fuel + 1) listed a w := by
  refine wpAnyH_all hr (by simp) fun k hk => ?_
  have hor : k = i ∨ k = j := by simpa using hk
  unfold wpOp
  rcases hor with rfl | rfl
  · have h1 : l.toArray[k]? = some o := by simpa using ho
    simp only [h1]
    rw [if_pos hg]
    exact .inl (hc _ fun a' w' h1 h2 => ⟨h1, h2⟩)
  · have h1 : l.toArray[k]? = some o' := by simpa using ho'
    simp only [h1]
    rw [if_pos hg']
    exact .inl (hc' _ fun a' w' h1 h2 => ⟨h1, h2⟩)
end
/-- a new block behind all that came so far -/
theorem new_of {B : Nat} {w W : World} (h : Below B w W) (t : TypeId) (cs : Array Value) : Blk (W.alloc (.cells cs t)) W.heap.size t cs := Blk.new_at W t cs rfl
theorem new_then {B : Nat} {w W : World} {t : TypeId} {cs : Array Value} {R : World → Prop} (hS : Below B w W) (hB : B = w.heap.size) (h : ∀ WT, Below B w WT → Blk WT W.heap.size t cs → B ≤ W.heap.size → R WT) : R (W.alloc (.cells cs t)) := by
  subst hB
  exact h _ (sub_alloc hS _) (Blk.new_at W t cs rfl) hS.size
end Go.Fw
