/-
  Ahead; chapter 30's example. Condition: none.
-/
import Derived.Test.YtbjibpghbaemfaaRight
namespace Go.Proofs.Ytbjibpghbaemfaa
open Go.RowKit Go.Fw Go.Shelf
set_option maxHeartbeats 2000000
set_option maxRecDepth 4000
set_option linter.unusedVariables false
set_option linter.unusedSimpArgs false
def spanV (a b c : Int) : Value := .agg #[.int .i64 a, .int .i64 b, .int .i64 c]
theorem ahead_any (a1 a2 a3 b1 b2 b3 : Int) (w : World) : Calls Try.prog 13 #[spanV a1 a2 a3, spanV b1 b2 b3] w fun e w' => e = .returned (.bool (decide (0 ≤ a3) && (decide (0 ≤ b1) && decide (a3 < b1)))) ∧ Below w.heap.size w w' := by
  have hb : Below w.heap.size w ((w.alloc (.cells #[.int .i64 a1, .int .i64 a2, .int .i64 a3] 29)).alloc (.cells #[.int .i64 b1, .int .i64 b2, .int .i64 b3] 29)) := sub_alloc (sub_alloc (Below.refl _ _) _) _
  unfold spanV
  by_cases h1 : 0 ≤ a3
  · by_cases h2 : 0 ≤ b1
    · have e1 : decide (0 ≤ a3) = true := by simpa using h1
      have e2 : decide (0 ≤ b1) = true := by simpa using h2
      rw [e1, e2]
      clear e1 e2
      by_cases h3 : a3 < b1
      · go_enter Try.func13, Try.ntmps13
        go_wp2
        go_ret
        exact ⟨by simp [h3], hb⟩
      · go_enter Try.func13, Try.ntmps13
        go_wp2
        go_ret
        exact ⟨by simp [h3], hb⟩
    · have e1 : decide (0 ≤ a3) = true := by simpa using h1
      have e2 : decide (0 ≤ b1) = false := by simpa using h2
      rw [e1, e2]
      clear e1 e2
      have h2' : b1 < 0 := by omega
      go_enter Try.func13, Try.ntmps13
      go_wp2
      go_ret
      exact ⟨rfl, hb⟩
  · have e1 : decide (0 ≤ a3) = false := by simpa using h1
    rw [e1]
    clear e1
    have h1' : a3 < 0 := by omega
    go_enter Try.func13, Try.ntmps13
    go_wp2
    go_ret
    exact ⟨rfl, hb⟩
/-- an event of a kind, and nothing else -/
def evLit (k : Int) : Ev := ⟨#[.int .i64 k, .int .i64 0, .int .i64 0, .int .i64 0, .string ⟨#[]⟩, .int .i64 0, .int .i64 0, .int .i64 0, .int .i64 0, .int .i64 0, .int .i64 0, .int .i64 0, .int .i64 0, .int .i64 0, .int .i64 0, .int .i64 0, .int .i64 0, .int .i64 0, .int .i64 0, .int .i64 0, .int .i64 0, .int .i64 0, .int .i64 0, .int .i64 0, .int .i64 0, .int .i64 0, .int .i64 0, .int .u64 0, .int .u64 0, .int .i64 0, .int .i64 0, .int .i64 0, .int .i64 0, .int .i64 0], k, 0, 0, 0, 0⟩
theorem evLit_ok (k : Int) (hk : k = 1 ∨ k = 3) : EvOk (evLit k) := by
  rcases hk with rfl | rfl
  all_goals
    refine ⟨rfl, rfl, rfl, rfl, rfl, rfl, ?_, ?_, ?_, ?_, ?_, ?_, ?_, ?_⟩
    · unfold evLit; simp [Value.oneCell']
    · exact Option.isSome_iff_exists.1 (by kernel_rfl)
    · exact Option.isSome_iff_exists.1 (by kernel_rfl)
    all_goals exact ⟨by decide, by decide⟩
theorem right_lit (k : Int) (hk : k = 1 ∨ k = 3) (g : Nat) (w : World) (hg : g = w.heap.size) : Calls Try.prog 8 #[.slice (some ⟨g, 0, none⟩) 1 1] (w.alloc (.cells (evLit k).cs 58)) fun e w' => e = .returned (.bool (rightP [evLit k])) ∧ Below w.heap.size w w' := by
  subst hg
  have hr := reads_newS w 58 (evLit k).cs 34 1 w.heap.size (w.alloc (.cells (evLit k).cs 58)).heap.size rfl rfl (by simp)
  refine (right_any [evLit k] _ 1 1 _ (by simp; exact evLit_ok k hk) (by simpa [evs] using hr) (by decide)).mono ?_
  rintro e w' ⟨he, hb⟩
  exact ⟨he, sub_trans (sub_alloc (Below.refl _ w) _) hb⟩
theorem tawake_any (w : World) : Calls Try.prog 7 #[] w fun e w' => e = .returned (.bool true) ∧ Below w.heap.size w w' := by
  have q1 := right_lit 1 (.inl rfl) w.heap.size w rfl
  have q2 := fun W => right_lit 3 (.inr rfl) _ W rfl
  have q3 := fun W => ahead_any 0 0 1 2 0 0 W
  unfold evLit at q1 q2
  unfold spanV at q3
  simp only at q1 q2
  have HQ := Lib.hid (And.intro q1 (And.intro q2 q3))
  clear q1 q2 q3
  go_enter Try.func7, Try.ntmps7
  go_wp2_with fail
  refine HQ.out.1.mono ?_
  rintro e w1 ⟨rfl, b1⟩
  have v1 : rightP [evLit 1] = true := by rfl
  unfold evLit at v1
  simp only at v1
  rw [v1]
  go_wp2_with fail
  refine (HQ.out.2.1 w1).mono ?_
  rintro e w2 ⟨rfl, b2⟩
  have v2 : rightP [evLit 3] = false := by rfl
  unfold evLit at v2
  simp only at v2
  rw [v2]
  have b12 := sub_trans b1 b2
  clear v1 v2 b1 b2
  go_wp2_with fail
  refine (HQ.out.2.2 w2).mono ?_
  rintro e w3 ⟨rfl, b3⟩
  have b13 := sub_trans b12 b3
  clear b12 b3
  go_wp2
  go_ret
  exact ⟨rfl, b13⟩
end Go.Proofs.Ytbjibpghbaemfaa
