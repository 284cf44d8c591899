/-
  What is wrong with a shape: Check and the reference's Check, walked (chapter 54). Condition: none.
-/
import Derived.Test.YtcmnlnnhebdblaaDoorBase
import Derived.Test.YtcmnlnnhebdblaaDoorArgs
import Derived.Test.YtcmnlnnhebdblaaDoorShPlain
namespace Go.Proofs.YtcmnlnnhebdblaaDoor
open Go.RowKit Go.Fw
set_option maxHeartbeats 1000000
set_option maxRecDepth 4000
set_option linter.unusedVariables false
set_option linter.unusedSimpArgs false
theorem scheck_any (k lo hi p ph : Int) (w : World) :
    Calls Tryd.prog 15 #[.agg #[.int .i64 k, .int .i64 lo, .int .i64 hi, .int .i64 p, .int .i64 ph]] w fun x w' => x = .returned (.int .i64 (errS k lo hi p)) ∧ Below w.heap.size w w' := by
  rcases errS_cases k lo hi p with ⟨h1, he⟩ | ⟨h1, h2, he⟩ | ⟨h1, h2, h3, he⟩ | ⟨h1, h2, h3, h4, he⟩ | ⟨h1, h2, h3, h4, h5, he⟩ | ⟨h1, h2, h3, h4, h5, h6, he⟩ | ⟨h1, h2, h3, h4, h5, h6, he⟩
  all_goals
    rw [he]
    clear he
    go_enter Tryd.func15, Tryd.ntmps15
    go_wp2
    go_ret
    exact ⟨rfl, sub_alloc (Below.refl _ w) _⟩
theorem rcheck_any (k lo hi p ph : Int) (w : World) :
    Calls Tryd.prog 19 #[.agg #[.int .i64 k, .int .i64 lo, .int .i64 hi, .int .i64 p, .int .i64 ph]] w fun x w' => x = .returned (.int .i64 (errS k lo hi p)) ∧ Below w.heap.size w w' := by
  rcases errS_cases k lo hi p with ⟨h1, he⟩ | ⟨h1, h2, he⟩ | ⟨h1, h2, h3, he⟩ | ⟨h1, h2, h3, h4, he⟩ | ⟨h1, h2, h3, h4, h5, he⟩ | ⟨h1, h2, h3, h4, h5, h6, he⟩ | ⟨h1, h2, h3, h4, h5, h6, he⟩
  all_goals
    rw [he]
    clear he
    go_enter Tryd.func19, Tryd.ntmps19
    go_wp2
    go_ret
    exact ⟨rfl, sub_alloc (Below.refl _ w) _⟩
end Go.Proofs.YtcmnlnnhebdblaaDoor
