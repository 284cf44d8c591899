/-
  A queue in memory: two rows, the one in front turned about. Condition: none.
-/
import Derived.Test.YtnikpgngaoaiiaaRegion
import Derived.Test.YtnikpgngaoaiiaaStill
import Derived.Test.YtnikpgngaoaiiaaOwnN
import Derived.Test.YtnikpgngaoaiiaaTail
import Derived.Test.YtnikpgngaoaiiaaKeep
namespace Go.Fw
open Go.RowKit
set_option linter.unusedVariables false
set_option linter.unusedSimpArgs false
structure QAt {α : Type} (cells : List α → List Value) (T e : TypeId) (w : World) (p B : Nat) (vf vb : Value) (f b : List α) : Prop where
  blk : Blk w p T #[vf, vb]
  front : w.ownsRow B e 1 vf f.length (cells f)
  back : w.ownsRow B e 1 vb b.length (cells b)
  apart : ∀ k, vf.ownBlock = some k → vb.ownBlock ≠ some k
/-- the blocks of a queue -/
def QBl (p : Nat) (vf vb : Value) (k : Nat) : Prop := k = p ∨ vf.ownBlock = some k ∨ vb.ownBlock = some k
section
variable {α : Type} {cells : List α → List Value} {T e : TypeId} {w w' : World} {p B : Nat} {vf vb : Value} {f b : List α}
theorem QAt.c0 (h : QAt cells T e w p B vf vb f b) : w.cell? ⟨p, 0, none⟩ = some vf := by rw [h.blk.cell]; rfl
theorem QAt.c1 (h : QAt cells T e w p B vf vb f b) : w.cell? ⟨p, 1, none⟩ = some vb := by rw [h.blk.cell]; rfl
theorem own_turn {n : Nat} {v : Value} {xs : List Value} (h : w.ownsRow B e 1 v n xs) (hk : ∀ k, v.ownBlock = some k → w'.heap[k]? = w.heap[k]?) : w'.ownsRow B e 1 v n xs := by
  refine ⟨h.1, ?_⟩
  rcases h.2 with h2 | ⟨g, cap, cur, rfl, hB, hh, h3⟩
  · exact .inl h2
  · exact .inr ⟨g, cap, cur, rfl, hB, (hk g rfl).trans hh, h3⟩
/-- what lies as it lay -/
theorem QAt.turn (h : QAt cells T e w p B vf vb f b) (hk : ∀ k, QBl p vf vb k → w'.heap[k]? = w.heap[k]?) : QAt cells T e w' p B vf vb f b :=
  ⟨(hk p (.inl rfl)).trans h.blk, own_turn h.front fun k e => hk k (.inr (.inl e)), own_turn h.back fun k e => hk k (.inr (.inr e)), h.apart⟩
theorem QAt.lt (h : QAt cells T e w p B vf vb f b) : ∀ k, QBl p vf vb k → k < w.heap.size := by
  rintro k (rfl | hk | hk)
  · exact h.blk.lt
  · exact (h.front.lt k hk).2
  · exact (h.back.lt k hk).2
theorem QAt.up (h : QAt cells T e w p B vf vb f b) (hb : Below w.heap.size w w') : QAt cells T e w' p B vf vb f b := h.turn fun k hk => hb.block k (h.lt k hk)
theorem QAt.keep {L : Nat → Prop} (h : QAt cells T e w p B vf vb f b) (hK : Keep L w w') (hL : ∀ k, QBl p vf vb k → ¬ L k) : QAt cells T e w' p B vf vb f b := h.turn fun k hk => hK.block k (h.lt k hk) (hL k hk)
theorem own_short {n m c : Nat} {g : Nat} {xs : List Value} (h : w.ownsRow B e 1 (.slice (some ⟨g, 0, none⟩) n c) n xs) (hm : m ≤ n) : w.ownsRow B e 1 (.slice (some ⟨g, 0, none⟩) m c) m (xs.take m) := by
  refine ⟨by have := h.1; simp; omega, ?_⟩
  rcases h.2 with ⟨h2, _⟩ | ⟨g', cap, cur, h1, hB, hh, hnc, hc, hs, ht⟩
  · cases h2
  · injection h1 with h1 _ h3
    injection h1 with h1
    injection h1 with h1
    subst h1 h3
    refine .inr ⟨g, c, cur, rfl, hB, hh, by omega, hc, hs, ?_⟩
    rw [← ht, List.take_take]
    congr 1
    omega
/-- a row that was written whole, and cut -/
theorem own_over {n m c : Nat} {g : Nat} {xs vs : List Value} (h : w.ownsRow B e 1 (.slice (some ⟨g, 0, none⟩) n c) n xs) (hv : vs.length = n) (hm : m ≤ n) : (w.setCells g 0 vs).ownsRow B e 1 (.slice (some ⟨g, 0, none⟩) m c) m (vs.take m) := by
  refine ⟨by simp; omega, ?_⟩
  rcases h.2 with ⟨h2, _⟩ | ⟨g', cap, cur, h1, hB, hh, hnc, hc, hs, ht⟩
  · cases h2
  · injection h1 with h1 _ h3
    injection h1 with h1
    injection h1 with h1
    subst h1 h3
    refine .inr ⟨g, c, setAll cur 0 vs, rfl, hB, Blk.setCells vs 0 hh, by omega, hc, by rw [setAll_size]; exact hs, ?_⟩
    refine List.ext_getElem? fun j => ?_
    rw [Nat.mul_one, List.getElem?_take, List.getElem?_take]
    split
    · have := setAll_in vs cur 0 j (by omega) (by omega)
      rw [Nat.zero_add] at this
      simpa using this
    · rfl
end
/-- a queue, whatever it is made of: S has its blocks, L what it holds -/
def QHas {α : Type} (cells : List α → List Value) (T e : TypeId) (w : World) (p B : Nat) (S : Nat → Prop) (L : List α) : Prop :=
  ∃ vf vb f b, QAt cells T e w p B vf vb f b ∧ L = f.reverse ++ b ∧ S = QBl p vf vb
/-- a queue that was turned into another: its blocks are the old ones, or new -/
def QNew {α : Type} (cells : List α → List Value) (T e : TypeId) (w w' : World) (p B : Nat) (S : Nat → Prop) (L : List α) : Prop :=
  ∃ S', QHas cells T e w' p B S' L ∧ Keep S w w' ∧ ∀ k, S' k → S k ∨ w.heap.size ≤ k
end Go.Fw
