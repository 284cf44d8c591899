/-
  The walks of sat.Sub and sat.bit: differences that stop at the ends. Conditions: numbers of 64 bits.
-/
import Derived.Test.YtgmgddccdfmiiaaSat
namespace Go.Proofs.Ytgmgddccdfmiiaa
open Go.RowKit Go.Fw
set_option maxHeartbeats 400000
set_option maxRecDepth 4000
set_option linter.unusedVariables false
set_option linter.unusedSimpArgs false

theorem bit_any (t : Bool) (w : World) : Calls Try.prog 61 #[.bool t] w fun e w' => e = .returned (.int .i64 (if t then 1 else 0)) ∧ w = w' := by
  cases t
  all_goals
    go_enter Try.func61, Try.ntmps61
    go_wp2
    go_ret
    exact ⟨rfl, rfl⟩

theorem sub_any (a b : Int) (w : World) (ha : In64 a) (hb : In64 b) :
    Calls Try.prog 49 #[.int .i64 a, .int .i64 b] w fun e w' => e = .returned (.int .i64 (sat (a - b))) ∧ w = w' := by
  obtain ⟨a0, a1⟩ := ha
  obtain ⟨b0, b1⟩ := hb
  by_cases hb : b = -9223372036854775808
  · have hbe : (b == -9223372036854775808) = true := by simpa using hb
    have i1 := sat_in (a + 9223372036854775807)
    by_cases h : a < 0
    · have e1 : sat (a + 9223372036854775807) = a + 9223372036854775807 := sat_id _ ⟨by omega, by omega⟩
      have e2 : sat (sat (a + 9223372036854775807) + (if true then 1 else 0)) = sat (a - b) := by rw [e1, hb]; simp; congr 1; omega
      have HE := Lib.hid e2
      clear e1 e2 hb
      go_enter Try.func49, Try.ntmps49
      go_wp2_with fail
      refine (add_any _ _ _ ⟨by omega, by omega⟩ ⟨by omega, by omega⟩).mono ?_
      rintro e w' ⟨rfl, rfl⟩
      go_wp2_with fail
      refine (bit_any _ _).mono ?_
      rintro e w' ⟨rfl, rfl⟩
      go_wp2_with fail
      refine (add_any _ _ _ i1 ⟨by decide, by decide⟩).mono ?_
      rintro e w' ⟨rfl, rfl⟩
      go_wp2
      go_ret
      exact ⟨ret_i HE.out, rfl⟩
    · have e2 : sat (sat (a + 9223372036854775807)) = sat (a - b) := by
        rw [hb, sat_hi (a - -9223372036854775808) (by omega)]
        by_cases h0 : a = 0
        · rw [h0]; decide
        · rw [sat_hi (a + 9223372036854775807) (by omega)]; decide
      have HE := Lib.hid e2
      clear e2 hb
      go_enter Try.func49, Try.ntmps49
      go_wp2_with fail
      refine (add_any _ _ _ ⟨by omega, by omega⟩ ⟨by omega, by omega⟩).mono ?_
      rintro e w' ⟨rfl, rfl⟩
      go_wp2_with fail
      refine (bit_any _ _).mono ?_
      rintro e w' ⟨rfl, rfl⟩
      go_wp2_with fail
      refine (add_any _ _ _ i1 ⟨by decide, by decide⟩).mono ?_
      rintro e w' ⟨rfl, rfl⟩
      go_wp2
      go_ret
      exact ⟨ret_i HE.out, rfl⟩
  · have hbe : (b == -9223372036854775808) = false := by simpa using hb
    have hb2 : -9223372036854775808 < b := by omega
    clear hb
    go_enter Try.func49, Try.ntmps49
    go_wp2_with fail
    refine (add_any _ _ _ ⟨by omega, by omega⟩ ⟨by omega, by omega⟩).mono ?_
    rintro e w' ⟨rfl, rfl⟩
    go_wp2
    go_ret
    exact ⟨ret_i (by rw [Int.sub_eq_add_neg]), rfl⟩

end Go.Proofs.Ytgmgddccdfmiiaa
