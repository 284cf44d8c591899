/-
  The walk of the reference's Sub: differences that stop at the ends. Conditions: numbers of 64 bits.
-/
import Derived.Test.YtgmgddccdfmiiaaSatSub
namespace Go.Proofs.Ytgmgddccdfmiiaa
open Go.RowKit Go.Fw
set_option maxHeartbeats 400000
set_option maxRecDepth 4000
set_option linter.unusedVariables false
set_option linter.unusedSimpArgs false

theorem rsub_any (a b : Int) (w : World) (ha : In64 a) (hb : In64 b) :
    Calls Try.prog 50 #[.int .i64 a, .int .i64 b] w fun e w' => e = .returned (.int .i64 (sat (a - b))) ∧ w = w' := by
  obtain ⟨a0, a1⟩ := ha
  obtain ⟨b0, b1⟩ := hb
  by_cases h1 : a - b < -9223372036854775808
  · have HS := Lib.hid (sat_lo _ h1)
    have hp : 0 < b := by omega
    have hq : a < -9223372036854775808 + b := by omega
    clear h1
    go_enter Try.func50, Try.ntmps50
    go_wp2
    go_ret
    exact ⟨ret_i HS.out.symm, rfl⟩
  · by_cases h2 : 9223372036854775807 < a - b
    · have HS := Lib.hid (sat_hi _ h2)
      have hp : b < 0 := by omega
      have hp2 : ¬ 0 < b := by omega
      have hq : 9223372036854775807 + b < a := by omega
      clear h1 h2
      go_enter Try.func50, Try.ntmps50
      go_wp2
      go_ret
      exact ⟨ret_i HS.out.symm, rfl⟩
    · have HS := Lib.hid (sat_id (a - b) ⟨by omega, by omega⟩)
      by_cases hp : 0 < b
      · have hq : ¬ a < -9223372036854775808 + b := by omega
        have hr : ¬ b < 0 := by omega
        go_enter Try.func50, Try.ntmps50
        go_wp2
        go_ret
        exact ⟨ret_i HS.out.symm, rfl⟩
      · by_cases hn : b < 0
        · have hq : ¬ 9223372036854775807 + b < a := by omega
          go_enter Try.func50, Try.ntmps50
          go_wp2
          go_ret
          exact ⟨ret_i HS.out.symm, rfl⟩
        · go_enter Try.func50, Try.ntmps50
          go_wp2
          go_ret
          exact ⟨ret_i HS.out.symm, rfl⟩
end Go.Proofs.Ytgmgddccdfmiiaa
