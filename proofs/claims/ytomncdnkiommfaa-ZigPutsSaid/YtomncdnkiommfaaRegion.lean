/-
  Regions whose order is open, one operation at a time: the operations that change nothing first, then the next call. Condition: none.
-/
import Derived.Test.YtomncdnkiommfaaBase
import Derived.Deep.RegionHeld3
namespace Go.Fw
open Go.RowKit
set_option linter.unusedVariables false
set_option linter.unusedSimpArgs false

section
variable {P : Program} {ops : Array Oper} {l : List Oper} {Q : Exit → Act → World → Prop} {S S' : World → Prop}

/-- A narrower condition on the worlds to come serves as well. -/
theorem any_narrow (h : ∀ w, S' w → S w) : ∀ (fuel : Nat) (listed : Array Bool) (a : Act) (w : World), wpAnyH P .any ops Q S' fuel listed a w → wpAnyH P .any ops Q S fuel listed a w
  | 0, _, _, _, hh => hh
  | fuel + 1, _, _, _, hh => ⟨hh.1, fun i hi => wpOp_mono (fun a' w' h' => ⟨h _ h'.1, any_narrow h fuel _ a' w' h'.2⟩) (hh.2 i hi)⟩

theorem any_start {id : Nat} {a : Act} {w : World} (hm : P.follows .mixedOrders = true) (hS : S w.drew)
    (h : wpAnyH P .any ops Q S ops.size (Array.replicate ops.size false) a w.drew) : (Code.region id ops true).wp P Q a w :=
  wp_region_held_drew hm hS fun _ => h

theorem any_done {fuel : Nat} {listed : Array Bool} {a : Act} {w : World} (hr : Region.ready .any ops listed = []) (h : Q .normal a w) : wpAnyH P .any ops Q S fuel listed a w :=
  wpAnyH_done hr h fuel

/-- number i changes nothing, and yields v in every world that is to come -/
theorem any_pure (i : Nat) {o : Oper} {v : Value} {fuel : Nat} {listed : Array Bool} {a : Act} {w : World} (ho : l[i]? = some o)
    (hB : (Region.noSelect l.toArray && Region.free .any l.toArray listed i && (Region.ready .any l.toArray listed).contains i) = true)
    (hQ : ∀ c a w, Q (.panic c) (a.put o.dst v) w → Q (.panic c) a w) (hS : S w) (hg : Region.wanted o (yielded l.toArray a.tmps) = true)
    (hy : ∀ w, S w → (execOp a.eval o).run P w = .ok (.value v) w)
    (h : wpAnyH P .any l.toArray Q S fuel (listed.setIfInBounds i true) (a.put o.dst v) w) : wpAnyH P .any l.toArray Q S (fuel + 1) listed a w := by
  simp only [Bool.and_eq_true] at hB
  exact wpAnyH_take (by simpa using ho) hB.1.1 hB.1.2 hB.2 hQ (.inl ⟨hg, hy⟩) hS h

/-- number i is passed over: its guard says no -/
theorem any_skip (i : Nat) {o : Oper} {fuel : Nat} {listed : Array Bool} {a : Act} {w : World} (ho : l[i]? = some o)
    (hB : (Region.noSelect l.toArray && Region.free .any l.toArray listed i && (Region.ready .any l.toArray listed).contains i) = true)
    (hQ : ∀ c a w, Q (.panic c) (a.put o.dst undef) w → Q (.panic c) a w) (hS : S w) (hg : Region.wanted o (yielded l.toArray a.tmps) = false)
    (h : wpAnyH P .any l.toArray Q S fuel (listed.setIfInBounds i true) (a.put o.dst undef) w) : wpAnyH P .any l.toArray Q S (fuel + 1) listed a w := by
  simp only [Bool.and_eq_true] at hB
  exact wpAnyH_take (by simpa using ho) hB.1.1 hB.1.2 hB.2 hQ (.inr ⟨hg, rfl⟩) hS h

/-- number i is the one that may come next, whatever it is; what follows stands behind K -/
theorem any_one (i : Nat) {o : Oper} {fuel : Nat} {listed : Array Bool} {a : Act} {w : World} (hr : Region.ready .any l.toArray listed = [i]) (ho : l[i]? = some o)
    (hg : Region.wanted o (yielded l.toArray a.tmps) = true)
    (hc : ∀ K : Act → World → Prop, (∀ a' w', S w' → wpAnyH P .any l.toArray Q S fuel (listed.setIfInBounds i true) a' w' → K a' w') → Oper.wp P o a w K Q) : wpAnyH P .any l.toArray Q S (fuel + 1) listed a w := by
  refine wpAnyH_all hr (by simp) fun j hj => ?_
  obtain rfl : j = i := by simpa using hj
  unfold wpOp
  have ho' : l.toArray[j]? = some o := by simpa using ho
  simp only [ho']
  rw [if_pos hg]
  exact .inl (hc _ fun a' w' h1 h2 => ⟨h1, h2⟩)
end
end Go.Fw
