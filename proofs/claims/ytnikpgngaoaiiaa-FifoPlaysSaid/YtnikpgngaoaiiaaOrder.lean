/-
  Regions whose order is open, by every order: for those that write what they have read. Condition: none.
-/
import Derived.Test.YtnikpgngaoaiiaaRegion
import Derived.Deep.RegionWith
namespace Go.Fw
open Go.RowKit
section
variable {P : Program} {l : List Oper} {Q : Exit → Act → World → Prop}
theorem ord_start {id : Nat} {a : Act} {w : World} (hm : P.follows .mixedOrders = true)
    (h : wpAny P .any l.toArray Q l.toArray.size (Array.replicate l.toArray.size false) a w.drew) : (Code.region id l.toArray true).wp P Q a w := wp_region_any hm h
theorem ord_pure (i : Nat) {o : Oper} {v : Value} {fuel : Nat} {listed : Array Bool} {a : Act} {w : World} (ho : l[i]? = some o)
    (hB : (Region.noSelect l.toArray && Region.free .any l.toArray listed i && (Region.ready .any l.toArray listed).contains i) = true)
    (hQ : ∀ c a w, Q (.panic c) (a.put o.dst v) w → Q (.panic c) a w) (hg : Region.wanted o (yielded l.toArray a.tmps) = true)
    (hy : ∀ w, (execOp a.eval o).run P w = .ok (.value v) w)
    (h : wpAny P .any l.toArray Q fuel (listed.setIfInBounds i true) (a.put o.dst v) w) : wpAny P .any l.toArray Q (fuel + 1) listed a w := by
  simp only [Bool.and_eq_true] at hB
  exact wpAny_take (by simpa using ho) hB.1.1 hB.1.2 hB.2 hQ (.inl ⟨hg, hy⟩) h
theorem ord_skip (i : Nat) {o : Oper} {fuel : Nat} {listed : Array Bool} {a : Act} {w : World} (ho : l[i]? = some o)
    (hB : (Region.noSelect l.toArray && Region.free .any l.toArray listed i && (Region.ready .any l.toArray listed).contains i) = true)
    (hQ : ∀ c a w, Q (.panic c) (a.put o.dst undef) w → Q (.panic c) a w) (hg : Region.wanted o (yielded l.toArray a.tmps) = false)
    (h : wpAny P .any l.toArray Q fuel (listed.setIfInBounds i true) (a.put o.dst undef) w) : wpAny P .any l.toArray Q (fuel + 1) listed a w := by
  simp only [Bool.and_eq_true] at hB
  exact wpAny_take (by simpa using ho) hB.1.1 hB.1.2 hB.2 hQ (.inr ⟨hg, rfl⟩) h
theorem ord_ready {rs : List Nat} {fuel : Nat} {listed : Array Bool} {a : Act} {w : World} (hr : Region.ready .any l.toArray listed = rs) (hne : rs ≠ [])
    (h : AllReady P .any l.toArray Q fuel listed a w rs) : wpAny P .any l.toArray Q (fuel + 1) listed a w := wpAny_ready hr hne h
theorem ord_next {fuel : Nat} {listed : Array Bool} {a : Act} {w : World} {i : Nat} {o : Oper} {rs : List Nat} (ho : l[i]? = some o) (hg : Region.wanted o (yielded l.toArray a.tmps) = true)
    (h : ∀ K' : Act → World → Prop, (∀ a w, wpAny P .any l.toArray Q fuel (listed.setIfInBounds i true) a w → K' a w) → Oper.wp P o a w K' Q)
    (hs : AllReady P .any l.toArray Q fuel listed a w rs) : AllReady P .any l.toArray Q fuel listed a w (i :: rs) :=
  AllReady.cons (by simpa using ho) (fun K' hK => by rw [if_pos hg]; exact h K' hK) hs
theorem ord_done {listed : Array Bool} {a : Act} {w : World} {fuel : Nat} (hr : Region.ready .any l.toArray listed = []) (h : Q .normal a w) : wpAny P .any l.toArray Q fuel listed a w := wpAny_done hr h fuel
end
end Go.Fw
