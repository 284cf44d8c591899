/-
  Chapter 14's example. Condition: none.
-/
import Derived.Test.YtgmgddccdfmiiaaHisL
import Derived.Test.YtgmgddccdfmiiaaHighest
namespace Go.Proofs.Ytgmgddccdfmiiaa
open Go.RowKit Go.Fw
set_option maxHeartbeats 1000000
set_option maxRecDepth 4000
set_option linter.unusedVariables false
set_option linter.unusedSimpArgs false
theorem hnew_one (w : World) : Calls Try.prog 36 #[.int .i64 1] w fun e w' => ∃ q p, e = .returned (.pointer (some ⟨q, 0, none⟩)) ∧ HAt w' q p w.heap.size (.slice none 0 0) ⟨[], 0, 1⟩ ∧ Below w.heap.size w w' := hnew_yes 1 w (by decide) (by decide)
theorem highest_one (a : Adv) (tick hold : Int) (g : Nat) (w : World) (hg : g = w.heap.size) (ht : In64 tick) (hh : In64 hold) (ha : In64 a.tick ∧ In64 a.want) :
    Calls Try.prog 33 #[.slice (some ⟨g, 0, none⟩) 1 1, .int .i64 tick, .int .i64 hold] (w.alloc (.cells a.arr 53)) fun e w' => e = .returned (.tuple #[.int .i64 (highest [a] tick hold).1, .bool (highest [a] tick hold).2]) ∧ Below w.heap.size w w' := by
  subst hg
  have hr := reads_newS w 53 a.arr 5 1 w.heap.size _ rfl rfl rfl
  refine (highest_any [a] _ 1 1 tick hold _ (by simpa [advs, Adv.cells, Adv.arr] using hr) (by decide) ht hh ?_).mono ?_
  · intro k hk
    simp at hk
    subst hk
    exact ha
  · rintro e w' ⟨he, hb⟩
    exact ⟨he, sub_trans (sub_alloc (Below.refl _ w) _) hb⟩
theorem same14_one (a : Adv) (A : Option Addr) (c g : Nat) (w : World) (hg : g = w.heap.size) (hx : Reads w w.heap.size 5 A 1 (advs [a])) :
    Calls Try.prog 43 #[.slice A 1 c, .slice (some ⟨g, 0, none⟩) 1 1] (w.alloc (.cells a.arr 53)) fun e w' => e = .returned (.bool true) ∧ Below w.heap.size w w' := by
  subst hg
  have hr := reads_newS w 53 a.arr 5 1 w.heap.size (w.alloc (.cells a.arr 53)).heap.size rfl rfl (by simp)
  have h1 := hx.up (sub_alloc (Below.refl _ w) (.cells a.arr 53))
  refine (same14_any [a] _ _ _ _ _ _ _ _ h1 (by simpa [advs, Adv.cells, Adv.arr] using hr) (by decide)).mono ?_
  rintro e w' ⟨he, hb⟩
  exact ⟨he, sub_trans (sub_alloc (Below.refl _ w) _) hb⟩
theorem hawake_any (w : World) : Calls Try.prog 32 #[] w fun e w' => e = .returned (.bool true) ∧ Below w.heap.size w w' := by
  have q0 := fun q p B sl r w h hB => hadd_any q p B sl r ⟨5, 0, 7, 0, 0⟩ w h hB
  have q1 := fun q p B sl r w h hB => hadd_any q p B sl r ⟨6, 0, 0, 0, 0⟩ w h hB
  have q2 := fun g w hg => highest_one ⟨5, 0, 7, 0, 0⟩ 8 3 g w hg (by unfold In64; decide) (by unfold In64; decide) (by unfold In64; decide)
  have q3 := fun g w hg => highest_one ⟨5, 0, 7, 0, 0⟩ 8 4 g w hg (by unfold In64; decide) (by unfold In64; decide) (by unfold In64; decide)
  have q4 := fun A c g w hg hx => same14_one ⟨6, 0, 0, 0, 0⟩ A c g w hg hx
  unfold Adv.val at q0 q1
  unfold Adv.arr at q2 q3 q4
  simp only at q0 q1 q2 q3 q4
  have HQ := Lib.hid (And.intro q0 (And.intro q1 (And.intro q2 (And.intro q3 q4))))
  clear q0 q1 q2 q3 q4
  go_enter Try.func32, Try.ntmps32
  go_wp2_with fail
  refine (hnew_one w).mono ?_
  rintro e w1 ⟨q, p, rfl, h1, b1⟩
  have ba := Blk.new_at w1 53 (Adv.arr ⟨5, 0, 7, 0, 0⟩) rfl
  have h2 := h1.up (sub_alloc (Below.refl _ w1) (.cells (Adv.arr ⟨5, 0, 7, 0, 0⟩) 53))
  have b2 := sub_alloc b1 (.cells (Adv.arr ⟨5, 0, 7, 0, 0⟩) 53)
  have hqp : p < w1.heap.size := h1.rg.blk.lt
  clear h1 b1
  obtain ⟨g0, g1, g2, g3, g4⟩ := ba.five
  unfold Adv.arr at *
  simp only at *
  go_wp2_with fail
  refine (HQ.out.1 _ _ _ _ _ _ h2 b2.size).mono ?_
  rintro e w3 ⟨rfl, sl3, h3, hK3, hF3⟩
  have e3 : (Rg.mk ([] : List Adv) 0 1).push ⟨5, 0, 7, 0, 0⟩ = ⟨[⟨5, 0, 7, 0, 0⟩], 0, 1⟩ := rfl
  rw [e3] at h3
  have ba3 := hK3.blk ba (by rintro (e | e); omega; simp [Value.ownBlock] at e)
  have b3 := b2.trans ((h2.keepB hK3).below b2.size fun _ h => h)
  have hs3 : sl3.ownBlock ≠ some w1.heap.size := by
    intro e
    rcases hF3 with h | h
    · rw [e] at h; simp [Value.ownBlock] at h
    · have := h _ e; simp at this; omega
  clear hK3 hF3 h2 b2 ba g0 g1 g2 g3 g4
  go_wp2_with fail
  refine (HQ.out.2.1 _ _ _ _ _ _ h3 b3.size).mono ?_
  rintro e w4 ⟨rfl, sl4, h4, hK4, hF4⟩
  have e4 : (Rg.mk ([⟨5, 0, 7, 0, 0⟩] : List Adv) 0 1).push ⟨6, 0, 0, 0, 0⟩ = ⟨[⟨6, 0, 0, 0, 0⟩], 0, 1⟩ := rfl
  rw [e4] at h4
  have ba4 := hK4.blk ba3 (by rintro (e | e); omega; exact hs3 e)
  have b4 := b3.trans ((h3.keepB hK4).below b3.size fun _ h => h)
  clear hK4 hF4 h3 b3 ba3 hs3
  obtain ⟨g0, g1, g2, g3, g4⟩ := Blk.five (a := ⟨5, 0, 7, 0, 0⟩) ba4
  simp only at g0 g1 g2 g3 g4
  go_wp2_with fail
  refine (HQ.out.2.2.1 _ w4 rfl).mono ?_
  rintro e w5 ⟨rfl, b5⟩
  have v5 : highest [⟨5, 0, 7, 0, 0⟩] 8 3 = (0, false) := by rfl
  rw [v5]
  have ba5 := ba4.later b5
  have h5 := h4.up b5
  have b55 := b4.trans (b5.mono b4.size)
  clear g0 g1 g2 g3 g4 ba4 h4 b4 b5
  obtain ⟨g0, g1, g2, g3, g4⟩ := Blk.five (a := ⟨5, 0, 7, 0, 0⟩) ba5
  simp only at g0 g1 g2 g3 g4
  go_wp2_with fail
  refine (HQ.out.2.2.2.1 _ w5 rfl).mono ?_
  rintro e w6 ⟨rfl, b6⟩
  have v6 : highest [⟨5, 0, 7, 0, 0⟩] 8 4 = (7, true) := by rfl
  rw [v6]
  have h6 := h5.up b6
  have b66 := b55.trans (b6.mono b55.size)
  clear g0 g1 g2 g3 g4 ba5 h5 b55 b6
  go_wp2_with fail
  refine (hlist_any _ _ _ _ _ _ h6).mono ?_
  rintro e w7 ⟨v, rfl, hm⟩
  have e7 : (Rg.mk ([⟨6, 0, 0, 0, 0⟩] : List Adv) 0 1).list = [⟨6, 0, 0, 0, 0⟩] := rfl
  rw [e7] at hm
  obtain ⟨A7, c7, rfl, _, _, r7⟩ := hm.form
  have b7 := b66.trans (hm.below.mono b66.size)
  clear hm b66 h6
  go_wp2_with fail
  refine (HQ.out.2.2.2.2 A7 c7 _ w7 rfl r7).mono ?_
  rintro e w8 ⟨rfl, b8⟩
  have b9 := b7.trans (b8.mono b7.size)
  clear b7 b8 r7
  go_wp2
  go_ret
  exact ⟨rfl, b9⟩
end Go.Proofs.Ytgmgddccdfmiiaa
