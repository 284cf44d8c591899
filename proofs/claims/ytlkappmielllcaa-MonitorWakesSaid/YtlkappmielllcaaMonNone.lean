/-
  Chapter 26's example, and MonitorNone, walked. Condition: none.
-/
import Derived.Test.YtlkappmielllcaaMonAll
import Derived.Test.YtlkappmielllcaaRwNone
namespace Go.Proofs.Ytlkappmielllcaa
open Go.RowKit Go.Fw
set_option maxHeartbeats 1000000
set_option maxRecDepth 4000
set_option linter.unusedVariables false
set_option linter.unusedSimpArgs false
theorem mon_new (w : World) : MonAt (w.alloc (.cells #[.int .u32 0, .int .u32 0, .slice none 0 0, .slice none 0 0] 52)) w.heap.size w.heap.size (.slice none 0 0) (.slice none 0 0) ⟨0, 0, []⟩ [] :=
  ⟨⟨Blk.new_at _ _ _ rfl, TailRow.nil_ _ _ _ _⟩, TailRow.nil_ _ _ _ _⟩
theorem mawake_any (w : World) : Calls Try.prog 19 #[] w fun e w' => e = .returned (.bool true) ∧ Below w.heap.size w w' := by
  have h0 := mon_new w
  have b0 := sub_alloc (Below.refl _ w) (.cells #[.int .u32 0, .int .u32 0, .slice none 0 0, .slice none 0 0] 52)
  have o1 : Lk.ok ⟨0, 1, []⟩ := ⟨by decide, by decide, by simp⟩
  have o3 : Lk.ok ⟨0, 2, []⟩ := ⟨by decide, by decide, by simp⟩
  have o4 : Lk.ok ⟨0, 2, [(0, true)]⟩ := ⟨by decide, by decide, by simp⟩
  have O := Lib.hid (And.intro o1 (And.intro o3 o4))
  clear o1 o3 o4
  go_enter Try.func19, Try.ntmps19
  go_wp2_with fail
  refine (ask_any _ _ _ _ _ _ 0 true _ h0.1 emptyLk_ok (by decide) (by decide) b0.size (by decide)).mono ?_
  rintro e w1 ⟨rfl, sl1, h1, hK1⟩
  have e1 : askL ⟨0, 0, []⟩ 0 true = (⟨0, 1, []⟩, true, 0) := by kernel_rfl
  rw [e1] at h1 ⊢
  have m1 := h0.asked h1 hK1
  have b1 := b0.trans ((h0.1.askKeep (Nat.le_refl _) hK1).below b0.size fun _ h => h)
  clear hK1 h1 h0
  go_wp2_with fail
  refine (sleep_any _ _ _ _ _ _ 0 _ m1 O.out.1 (by decide) (by decide) b1.size (Nat.le_refl _) (by decide) (by kernel_rfl)).mono ?_
  rintro e w2 ⟨v, rfl, sl2, al2, m2, hK2⟩
  have e2 : dropL ⟨0, 1, []⟩ 0 = (⟨0, 0, []⟩, []) := by kernel_rfl
  rw [e2] at m2
  have b2 := b1.trans (hK2.below b1.size fun _ h => h)
  clear hK2 m1
  go_wp2_with fail
  refine (ask_any _ _ _ _ _ _ 1 true _ m2.1 emptyLk_ok (by decide) (by decide) b2.size (by decide)).mono ?_
  rintro e w3 ⟨rfl, sl3, h3, hK3⟩
  have e3 : askL ⟨0, 0, []⟩ 1 true = (⟨0, 2, []⟩, true, 0) := by kernel_rfl
  rw [e3] at h3 ⊢
  have m3 := m2.asked h3 hK3
  have b3 := b2.trans ((m2.1.askKeep (Nat.le_refl _) hK3).below b2.size fun _ h => h)
  clear hK3 h3 m2
  go_wp2_with fail
  refine (wake_any _ _ _ _ _ 0 [] _ m3 O.out.2.1 (by decide) (by decide) b3.size (by decide)).mono ?_
  rintro e w4 ⟨rfl, sl4, al4, m4, hK4, _⟩
  have e4 : askL ⟨0, 2, []⟩ 0 true = (⟨0, 2, [(0, true)]⟩, false, 0) := by kernel_rfl
  rw [e4] at m4 ⊢
  have b4 := b3.trans ((m3.1.askKeep (Nat.le_refl _) hK4).below b3.size fun _ h => h)
  clear hK4 m3
  go_wp2_with fail
  refine (drop_any _ _ _ _ _ _ 1 _ m4.1 O.out.2.2 (by decide) (by decide) (by decide) (by decide)).mono ?_
  rintro e w5 ⟨v5, rfl, hv5, sl5, h5, hK5⟩
  have e5 : dropL ⟨0, 2, [(0, true)]⟩ 1 = (⟨0, 1, []⟩, [0]) := by kernel_rfl
  rw [e5] at h5 hv5
  have b5 := b4.trans (hK5.below b4.size (fun k hk => by omega))
  obtain ⟨A5, c5, rfl, _, _⟩ := own_form hv5
  have r5 := Reads.of_own hv5
  clear hK5 hv5 m4
  go_wp2_with fail
  refine (same_with [0] [0] A5 c5 1 1 w5 #[.int .i64 0] r5 rfl rfl (by decide) (by decide) (small_of (by simp)) (small_of (by simp))).mono ?_
  rintro e w6 ⟨rfl, b6⟩
  have b7 := b5.trans (b6.mono b5.size)
  have h6 := h5.up b6
  have e6 : decide (([0] : List Int) = [0]) = true := rfl
  rw [e6]
  clear r5 b6
  go_wp2_with fail
  refine (held_any _ _ _ _ _ _ 0 _ h6 O.out.1 (by decide)).mono ?_
  rintro e w7 ⟨rfl, rfl⟩
  have e7 : heldN ⟨0, 1, []⟩ 0 = 2 := by kernel_rfl
  rw [e7]
  go_wp2
  go_ret
  exact ⟨rfl, b7⟩
theorem monitorNone_walk (t : Int) (w : World) (ht : -9223372036854775808 ≤ t ∧ t ≤ 9223372036854775807) :
    Calls Try.prog 7 #[.int .i64 t] w fun e w' => e = .returned (.bool true) ∧ Below w.heap.size w w' := by
  go_enter Try.func7, Try.ntmps7
  go_wp2_with fail
  refine (mawake_any w).mono ?_
  rintro e w1 ⟨rfl, hb⟩
  have HB := Lib.hid hb
  clear hb
  go_wp2_with fail
  refine (sleep_nil t w1).mono ?_
  rintro e w2 ⟨rfl, rfl⟩
  go_wp2_with fail
  refine (wake_nil w1).mono ?_
  rintro e w2 ⟨rfl, rfl⟩
  go_wp2_with fail
  refine (idle_nil w1).mono ?_
  rintro e w2 ⟨rfl, rfl⟩
  go_wp2_with fail
  refine (sleeping_nil w1).mono ?_
  rintro e w2 ⟨rfl, rfl⟩
  go_wp2_with fail
  refine (wakeAll_nil w1).mono ?_
  rintro e w2 ⟨rfl, rfl⟩
  go_wp2
  go_ret
  exact ⟨rfl, HB.out⟩
end Go.Proofs.Ytlkappmielllcaa
