/-
  The walk of the reference's Add: sums that stop at the ends. Conditions: numbers of 64 bits.
-/
import Derived.Test.YtcmnlnnhebdblaaDoorSat
namespace Go.Proofs.YtcmnlnnhebdblaaDoor
open Go.RowKit Go.Fw
set_option maxHeartbeats 400000
set_option maxRecDepth 4000
set_option linter.unusedVariables false
set_option linter.unusedSimpArgs false

theorem radd_any (a b : Int) (w : World) (ha : In64 a) (hb : In64 b) :
    Calls Tryd.prog 11 #[.int .i64 a, .int .i64 b] w fun e w' => e = .returned (.int .i64 (sat (a + b))) ∧ w = w' := by
  obtain ⟨a0, a1⟩ := ha
  obtain ⟨b0, b1⟩ := hb
  by_cases h1 : 9223372036854775807 < a + b
  · have HS := Lib.hid (sat_hi _ h1)
    have hp : 0 < b := by omega
    have hq : 9223372036854775807 - b < a := by omega
    clear h1
    go_enter Tryd.func11, Tryd.ntmps11
    go_wp2
    go_ret
    exact ⟨ret_i HS.out.symm, rfl⟩
  · by_cases h2 : a + b < -9223372036854775808
    · have HS := Lib.hid (sat_lo _ h2)
      have hp : b < 0 := by omega
      have hp2 : ¬ 0 < b := by omega
      have hq : a < -9223372036854775808 - b := by omega
      clear h1 h2
      go_enter Tryd.func11, Tryd.ntmps11
      go_wp2
      go_ret
      exact ⟨ret_i HS.out.symm, rfl⟩
    · have HS := Lib.hid (sat_id (a + b) ⟨by omega, by omega⟩)
      by_cases hp : 0 < b
      · have hq : ¬ 9223372036854775807 - b < a := by omega
        have hr : ¬ b < 0 := by omega
        go_enter Tryd.func11, Tryd.ntmps11
        go_wp2
        go_ret
        exact ⟨ret_i HS.out.symm, rfl⟩
      · by_cases hn : b < 0
        · have hq : ¬ a < -9223372036854775808 - b := by omega
          go_enter Tryd.func11, Tryd.ntmps11
          go_wp2
          go_ret
          exact ⟨ret_i HS.out.symm, rfl⟩
        · go_enter Tryd.func11, Tryd.ntmps11
          go_wp2
          go_ret
          exact ⟨ret_i HS.out.symm, rfl⟩
end Go.Proofs.YtcmnlnnhebdblaaDoor
