/-
  Chapter 23's example. Condition: none.
-/
import Derived.Test.YtnikpgngaoaiiaaFifoF
namespace Go.Fw
open Go.RowKit
section
variable {α : Type} {cells : List α → List Value} {T e : TypeId} {w w' : World} {p B : Nat} {S : Nat → Prop} {L : List α}
theorem QHas.up (h : QHas cells T e w p B S L) (hb : Below w.heap.size w w') : QHas cells T e w' p B S L := by
  obtain ⟨vf, vb, f, b, h1, h2, h3⟩ := h
  exact ⟨vf, vb, f, b, h1.up hb, h2, h3⟩
theorem QHas.ge (h : QHas cells T e w p B S L) (hp : B ≤ p) : ∀ k, S k → B ≤ k := by
  obtain ⟨vf, vb, f, b, h1, _, rfl⟩ := h
  rintro k (rfl | e | e)
  · exact hp
  · exact (h1.front.lt k e).1
  · exact (h1.back.lt k e).1
theorem QHas.lt (h : QHas cells T e w p B S L) : ∀ k, S k → k < w.heap.size := by
  obtain ⟨vf, vb, f, b, h1, _, rfl⟩ := h
  exact h1.lt
theorem QNew.below (h : QNew cells T e w w' p B S L) (hB : B ≤ w.heap.size) (hg : ∀ k, S k → B ≤ k) : Below B w w' := by
  obtain ⟨S', _, hk, _⟩ := h
  exact hk.below hB hg
theorem QHas.new_ (w : World) (hc : cells [] = []) (hp : p = w.heap.size) : QHas cells T e (w.alloc (.cells #[.slice none 0 0, .slice none 0 0] T)) p p (QBl p (.slice none 0 0) (.slice none 0 0)) [] := by
  refine ⟨_, _, [], [], ⟨Blk.new_at _ _ _ hp, ?_, ?_, fun k e => by simp [Value.ownBlock] at e⟩, by simp, rfl⟩
  · rw [hc]; exact World.ownsRow_nil _ _ _ _
  · rw [hc]; exact World.ownsRow_nil _ _ _ _
end
end Go.Fw
namespace Go.Proofs.Ytnikpgngaoaiiaa
open Go.RowKit Go.Fw Go.Shelf
set_option maxHeartbeats 2000000
set_option maxRecDepth 4000
set_option linter.unusedVariables false
set_option linter.unusedSimpArgs false
theorem qawake_any (w : World) : Calls Try.prog 5 #[] w fun e w' => e = .returned (.bool true) ∧ Below w.heap.size w w' := by
  have hn : QIHas (w.alloc (.cells #[.slice none 0 0, .slice none 0 0] 26)) w.heap.size w.heap.size _ [] := QHas.new_ w rfl rfl
  have hb0 := sub_alloc (Below.refl w.heap.size w) (.cells #[.slice none 0 0, .slice none 0 0] 26)
  have HN := Lib.hid (And.intro hn hb0)
  clear hn hb0
  go_enter Try.func5, Try.ntmps5
  go_wp2_with fail
  refine (qiput_any w.heap.size w.heap.size _ [] 5 _ HN.out.1 HN.out.2.size (by simp)).mono ?_
  rintro e w1 ⟨rfl, hq⟩
  have b1 := HN.out.2.trans (hq.below HN.out.2.size (HN.out.1.ge (Nat.le_refl _)))
  obtain ⟨S1, q1, _, _⟩ := hq
  go_wp2_with fail
  refine (qiput_any w.heap.size w.heap.size S1 [5] 6 _ q1 b1.size (by simp)).mono ?_
  rintro e w2 ⟨rfl, hq⟩
  have b2 := b1.trans (hq.below b1.size (q1.ge (Nat.le_refl _)))
  obtain ⟨S2, q2, _, _⟩ := hq
  clear b1 q1 HN
  go_wp2_with fail
  refine (qiget_any w.heap.size w.heap.size S2 5 [6] _ q2 (by simp)).mono ?_
  rintro e w3 ⟨rfl, hq⟩
  have b3 := b2.trans (hq.below b2.size (q2.ge (Nat.le_refl _)))
  obtain ⟨S3, q3, _, _⟩ := hq
  clear b2 q2
  go_wp2_with fail
  refine (qifirst_any w.heap.size w.heap.size S3 [6] _ q3 (by simp)).mono ?_
  rintro e w4 ⟨rfl, b4⟩
  have b5 := sub_trans b3 b4
  have q4 := q3.up b4
  clear b3 q3 b4
  go_wp2_with fail
  refine (qidrop_miss w.heap.size w.heap.size S3 [6] 7 _ q4 (by simp) (by decide)).mono ?_
  rintro e w5 ⟨rfl, b6⟩
  have b7 := sub_trans b5 b6
  have q5 := q4.up b6
  clear b5 q4 b6
  go_wp2_with fail
  refine (qilen_any w.heap.size w.heap.size S3 [6] _ q5 (by simp)).mono ?_
  rintro e w6 ⟨rfl, rfl⟩
  have b8 := b7.drew
  clear b7 q5
  go_wp2
  go_ret
  exact ⟨by first | rfl | simp, b8⟩
end Go.Proofs.Ytnikpgngaoaiiaa
