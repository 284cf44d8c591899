/-
  Which policies may be: Check, Has, Usual and the reference's Right, walked (chapter 12). Condition: none.
-/
import Derived.Test.YteljecehppeamaaDoorBase
import Derived.Test.YteljecehppeamaaDoorArgs
namespace Go.Fw
open Go.RowKit
set_option linter.unusedVariables false
/-- a policy that may be -/
def RightP (a b c d e f : Int) : Prop := 0 ≤ a ∧ 1 ≤ b ∧ b ≤ 1073741824 ∧ a ≤ b ∧ 1 ≤ c ∧ 0 ≤ d ∧ d ≤ 999 ∧ 1 ≤ e ∧ 0 ≤ f
instance (a b c d e f : Int) : Decidable (RightP a b c d e f) := by unfold RightP; infer_instance
def polV (a b c d e f : Int) : Value := .agg #[.int .i64 a, .int .i64 b, .int .i64 c, .int .i64 d, .int .i64 e, .int .i64 f]
/-- the first thing that is wrong -/
theorem wrongP {a b c d e f : Int} (h : ¬ RightP a b c d e f) : a < 0 ∨ (¬ a < 0 ∧ b < 1) ∨ (¬ a < 0 ∧ ¬ b < 1 ∧ b < a ∧ 1073741824 < b) ∨ (¬ a < 0 ∧ ¬ b < 1 ∧ b < a ∧ ¬ 1073741824 < b) ∨ (¬ a < 0 ∧ ¬ b < 1 ∧ ¬ b < a ∧ 1073741824 < b) ∨
    (¬ a < 0 ∧ ¬ b < 1 ∧ ¬ b < a ∧ ¬ 1073741824 < b ∧ c < 1) ∨ (¬ a < 0 ∧ ¬ b < 1 ∧ ¬ b < a ∧ ¬ 1073741824 < b ∧ ¬ c < 1 ∧ d < 0) ∨ (¬ a < 0 ∧ ¬ b < 1 ∧ ¬ b < a ∧ ¬ 1073741824 < b ∧ ¬ c < 1 ∧ ¬ d < 0 ∧ 999 < d) ∨
    (¬ a < 0 ∧ ¬ b < 1 ∧ ¬ b < a ∧ ¬ 1073741824 < b ∧ ¬ c < 1 ∧ ¬ d < 0 ∧ ¬ 999 < d ∧ e < 1) ∨ (¬ a < 0 ∧ ¬ b < 1 ∧ ¬ b < a ∧ ¬ 1073741824 < b ∧ ¬ c < 1 ∧ ¬ d < 0 ∧ ¬ 999 < d ∧ ¬ e < 1 ∧ f < 0) := by
  by_cases h1 : a < 0
  · exact .inl h1
  refine .inr ?_
  by_cases h2 : b < 1
  · exact .inl ⟨h1, h2⟩
  refine .inr ?_
  by_cases h3 : b < a
  · by_cases h4 : 1073741824 < b
    · exact .inl ⟨h1, h2, h3, h4⟩
    · exact .inr (.inl ⟨h1, h2, h3, h4⟩)
  refine .inr (.inr ?_)
  by_cases h4 : 1073741824 < b
  · exact .inl ⟨h1, h2, h3, h4⟩
  refine .inr ?_
  by_cases h5 : c < 1
  · exact .inl ⟨h1, h2, h3, h4, h5⟩
  refine .inr ?_
  by_cases h6 : d < 0
  · exact .inl ⟨h1, h2, h3, h4, h5, h6⟩
  refine .inr ?_
  by_cases h7 : 999 < d
  · exact .inl ⟨h1, h2, h3, h4, h5, h6, h7⟩
  refine .inr ?_
  by_cases h8 : e < 1
  · exact .inl ⟨h1, h2, h3, h4, h5, h6, h7, h8⟩
  refine .inr ?_
  by_cases h9 : f < 0
  · exact ⟨h1, h2, h3, h4, h5, h6, h7, h8, h9⟩
  exact absurd ⟨by omega, by omega, by omega, by omega, by omega, by omega, by omega, by omega, by omega⟩ h
end Go.Fw
namespace Go.Proofs.YteljecehppeamaaDoor
open Go.RowKit Go.Fw
set_option maxHeartbeats 1000000
set_option maxRecDepth 4000
set_option linter.unusedVariables false
set_option linter.unusedSimpArgs false
/-- what Check says -/
def errP (a b c d e f : Int) : Int := if RightP a b c d e f then 0 else 7
theorem check_ok (a b c d e f : Int) (w : World) (h : RightP a b c d e f) :
    Calls Tryd.prog 10 #[.agg #[.int .i64 a, .int .i64 b, .int .i64 c, .int .i64 d, .int .i64 e, .int .i64 f]] w fun x w' => x = .returned (.int .i64 0) ∧ Below w.heap.size w w' := by
  obtain ⟨h1, h2, h3, h4, h5, h6, h7, h8, h9⟩ := h
  go_enter Tryd.func10, Tryd.ntmps10
  go_wp2
  go_ret
  exact ⟨rfl, sub_alloc (Below.refl _ w) _⟩
theorem check_bad (a b c d e f : Int) (w : World) (h : ¬ RightP a b c d e f) :
    Calls Tryd.prog 10 #[.agg #[.int .i64 a, .int .i64 b, .int .i64 c, .int .i64 d, .int .i64 e, .int .i64 f]] w fun x w' => x = .returned (.int .i64 7) ∧ Below w.heap.size w w' := by
  have hor := wrongP h
  clear h
  rcases hor with h1 | ⟨h1, h2⟩ | ⟨h1, h2, h3, h4⟩ | ⟨h1, h2, h3, h4⟩ | ⟨h1, h2, h3, h4⟩ | ⟨h1, h2, h3, h4, h5⟩ | ⟨h1, h2, h3, h4, h5, h6⟩ | ⟨h1, h2, h3, h4, h5, h6, h7⟩ | ⟨h1, h2, h3, h4, h5, h6, h7, h8⟩ | ⟨h1, h2, h3, h4, h5, h6, h7, h8, h9⟩
  all_goals
    go_enter Tryd.func10, Tryd.ntmps10
    go_wp2
    go_ret
    exact ⟨rfl, sub_alloc (Below.refl _ w) _⟩
theorem right_ok (a b c d e f : Int) (w : World) (h : RightP a b c d e f) :
    Calls Tryd.prog 9 #[.agg #[.int .i64 a, .int .i64 b, .int .i64 c, .int .i64 d, .int .i64 e, .int .i64 f]] w fun x w' => x = .returned (.bool true) ∧ Below w.heap.size w w' := by
  obtain ⟨h1, h2, h3, h4, h5, h6, h7, h8, h9⟩ := h
  go_enter Tryd.func9, Tryd.ntmps9
  go_wp2
  go_ret
  exact ⟨by first | rfl | (simp; done) | (simp; omega), sub_alloc (Below.refl _ w) _⟩
theorem right_bad (a b c d e f : Int) (w : World) (h : ¬ RightP a b c d e f) :
    Calls Tryd.prog 9 #[.agg #[.int .i64 a, .int .i64 b, .int .i64 c, .int .i64 d, .int .i64 e, .int .i64 f]] w fun x w' => x = .returned (.bool false) ∧ Below w.heap.size w w' := by
  have hor := wrongP h
  clear h
  rcases hor with h1 | ⟨h1, h2⟩ | ⟨h1, h2, h3, h4⟩ | ⟨h1, h2, h3, h4⟩ | ⟨h1, h2, h3, h4⟩ | ⟨h1, h2, h3, h4, h5⟩ | ⟨h1, h2, h3, h4, h5, h6⟩ | ⟨h1, h2, h3, h4, h5, h6, h7⟩ | ⟨h1, h2, h3, h4, h5, h6, h7, h8⟩ | ⟨h1, h2, h3, h4, h5, h6, h7, h8, h9⟩
  all_goals
    go_enter Tryd.func9, Tryd.ntmps9
    go_wp2
    go_ret
    exact ⟨by first | rfl | (simp; done) | (simp; omega), sub_alloc (Below.refl _ w) _⟩
theorem check_any (a b c d e f : Int) (w : World) :
    Calls Tryd.prog 10 #[.agg #[.int .i64 a, .int .i64 b, .int .i64 c, .int .i64 d, .int .i64 e, .int .i64 f]] w fun x w' => x = .returned (.int .i64 (errP a b c d e f)) ∧ Below w.heap.size w w' := by
  unfold errP
  split
  · exact check_ok _ _ _ _ _ _ w (by assumption)
  · exact check_bad _ _ _ _ _ _ w (by assumption)
theorem right_any (a b c d e f : Int) (w : World) :
    Calls Tryd.prog 9 #[.agg #[.int .i64 a, .int .i64 b, .int .i64 c, .int .i64 d, .int .i64 e, .int .i64 f]] w fun x w' => x = .returned (.bool (decide (RightP a b c d e f))) ∧ Below w.heap.size w w' := by
  by_cases h : RightP a b c d e f
  · rw [decide_eq_true h]; exact right_ok _ _ _ _ _ _ w h
  · rw [decide_eq_false h]; exact right_bad _ _ _ _ _ _ w h
end Go.Proofs.YteljecehppeamaaDoor
