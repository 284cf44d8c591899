/-
  The walk of sat.Add: sums that stop at the ends. Conditions: numbers of 64 bits.
-/
import Derived.Test.YtcmnlnnhebdblaaDoorStruct
namespace Go.Fw
/-- a number that stops at the ends -/
def sat (x : Int) : Int := if 9223372036854775807 < x then 9223372036854775807 else if x < -9223372036854775808 then -9223372036854775808 else x
theorem sat_in (x : Int) : In64 (sat x) := by unfold In64 sat; split <;> (try split) <;> omega
theorem sat_id (x : Int) (h : In64 x) : sat x = x := by unfold sat In64 at *; rw [if_neg (by omega), if_neg (by omega)]
theorem sat_hi (x : Int) (h : 9223372036854775807 < x) : sat x = 9223372036854775807 := if_pos h
theorem sat_lo (x : Int) (h : x < -9223372036854775808) : sat x = -9223372036854775808 := by unfold sat; rw [if_neg (by omega), if_pos h]
end Go.Fw
namespace Go.Proofs.YtcmnlnnhebdblaaDoor
open Go.RowKit Go.Fw
set_option maxHeartbeats 400000
set_option maxRecDepth 4000
set_option linter.unusedVariables false
set_option linter.unusedSimpArgs false

theorem add_any (a b : Int) (w : World) (ha : In64 a) (hb : In64 b) :
    Calls Tryd.prog 23 #[.int .i64 a, .int .i64 b] w fun e w' => e = .returned (.int .i64 (sat (a + b))) ∧ w = w' := by
  obtain ⟨a0, a1⟩ := ha
  obtain ⟨b0, b1⟩ := hb
  by_cases h1 : 9223372036854775807 < a + b
  · have HS := Lib.hid (sat_hi _ h1)
    have hw : wrap64 (a + b) = a + b - 18446744073709551616 := by unfold wrap64; omega
    have hc : a + b - 18446744073709551616 ≤ 0 := by omega
    have ha : 0 < a := by omega
    have hb : 0 < b := by omega
    have HW := Lib.hid hw
    have hc' : wrap64 (a + b) ≤ 0 := by rw [hw]; exact hc
    clear hw h1 hc
    go_enter Tryd.func23, Tryd.ntmps23
    go_wp2
    go_ret
    exact ⟨ret_i HS.out.symm, rfl⟩
  · by_cases h2 : a + b < -9223372036854775808
    · have HS := Lib.hid (sat_lo _ h2)
      have hw : wrap64 (a + b) = a + b + 18446744073709551616 := by unfold wrap64; omega
      have ha : a < 0 := by omega
      have hb : b < 0 := by omega
      have hc' : 0 ≤ wrap64 (a + b) := by rw [hw]; omega
      clear hw h1 h2
      go_enter Tryd.func23, Tryd.ntmps23
      go_wp2
      go_ret
      exact ⟨ret_i HS.out.symm, rfl⟩
    · have HS := Lib.hid (sat_id (a + b) ⟨by omega, by omega⟩)
      by_cases hp : 0 < a ∧ 0 < b
      · obtain ⟨hp1, hp2⟩ := hp
        have h3 : 0 < a + b := by omega
        go_enter Tryd.func23, Tryd.ntmps23
        go_wp2
        go_ret
        exact ⟨ret_i HS.out.symm, rfl⟩
      · by_cases hq : a < 0 ∧ b < 0
        · obtain ⟨hq1, hq2⟩ := hq
          have h3 : a + b < 0 := by omega
          go_enter Tryd.func23, Tryd.ntmps23
          go_wp2
          go_ret
          exact ⟨ret_i HS.out.symm, rfl⟩
        · by_cases ha : 0 < a
          · have hb : ¬ 0 < b := by omega
            have ha2 : ¬ a < 0 := by omega
            go_enter Tryd.func23, Tryd.ntmps23
            go_wp2
            go_ret
            exact ⟨ret_i HS.out.symm, rfl⟩
          · by_cases ha2 : a < 0
            · have hb : ¬ b < 0 := by omega
              go_enter Tryd.func23, Tryd.ntmps23
              go_wp2
              go_ret
              exact ⟨ret_i HS.out.symm, rfl⟩
            · go_enter Tryd.func23, Tryd.ntmps23
              go_wp2
              go_ret
              exact ⟨ret_i HS.out.symm, rfl⟩
end Go.Proofs.YtcmnlnnhebdblaaDoor
