/-
  Whose turn a pick is: First of the program and of the reference (chapter 27). Condition: none.
-/
import Derived.Test.YtenjhklkljeijaaDoorArgs
import Derived.Test.YtenjhklkljeijaaDoorOwn
import Derived.Test.YtenjhklkljeijaaDoorRegion
namespace Go.Fw
set_option linter.unusedVariables false
def firstN (pick n : Int) : Int := if n < 1 then -1 else pick % n
theorem firstN_in {p n : Int} (hp : In64 p) (hn : In64 n) : In64 (firstN p n) := by
  unfold In64 at *
  unfold firstN
  split
  · omega
  · have h1 := Int.emod_nonneg p (show n ≠ 0 by omega)
    have h2 := Int.emod_lt_of_pos p (show 0 < n by omega)
    omega
theorem firstN_at {p n : Int} (hn : 1 ≤ n) : 0 ≤ firstN p n ∧ firstN p n < n := by
  unfold firstN
  rw [if_neg (by omega)]
  exact ⟨Int.emod_nonneg _ (by omega), Int.emod_lt_of_pos _ (by omega)⟩
theorem firstN_self {p n : Int} (h0 : 0 ≤ p) (h1 : p < n) : firstN p n = p := by
  unfold firstN
  rw [if_neg (by omega), Int.emod_eq_of_lt h0 h1]
end Go.Fw
namespace Go.Proofs.YtenjhklkljeijaaDoor
open Go.RowKit Go.Fw
set_option maxHeartbeats 1000000
set_option maxRecDepth 4000
set_option linter.unusedVariables false
set_option linter.unusedSimpArgs false

theorem first_any (pick n : Int) (w : World) (hp : In64 pick) (hn : In64 n) :
    Calls Tryd.prog 20 #[.int .i64 pick, .int .i64 n] w fun e w' => e = .returned (.int .i64 (firstN pick n)) ∧ w = w' := by
  obtain ⟨hp0, hp1⟩ := hp
  obtain ⟨hn0, hn1⟩ := hn
  by_cases h1 : n < 1
  · have HF : Hid (firstN pick n = -1) := by show _ = _; unfold firstN; rw [if_pos h1]
    go_enter Tryd.func20, Tryd.ntmps20
    go_wp2
    go_ret
    exact ⟨ret_i HF.out.symm, rfl⟩
  · have HF : Hid (firstN pick n = pick % n) := by show _ = _; unfold firstN; rw [if_neg h1]
    have hm0 : 0 ≤ pick % n := Int.emod_nonneg _ (by omega)
    have hm1 : pick % n < n := Int.emod_lt_of_pos _ (by omega)
    have hnz : (n == 0) = false := by simp; omega
    by_cases h2 : 0 ≤ pick
    · have ht : pick.tmod n = pick % n := Int.tmod_eq_emod_of_nonneg h2
      have hlt : ¬ pick.tmod n < 0 := by rw [ht]; omega
      have hlt2 : ¬ pick % n < 0 := by omega
      have HT := Lib.hid ht
      clear ht
      go_enter Tryd.func20, Tryd.ntmps20
      go_wp2
      go_ret
      exact ⟨ret_i HF.out.symm, rfl⟩
    · have ht := Int.tmod_eq_emod (a := pick) (b := n)
      by_cases hd : n ∣ pick
      · rw [if_pos (.inr hd), Int.emod_eq_zero_of_dvd hd] at ht
        have HZ : Hid ((0 : Int) = firstN pick n) := by show _ = _; rw [HF.out, Int.emod_eq_zero_of_dvd hd]
        have ht0 : pick.tmod n = 0 := by rw [ht]; rfl
        clear ht hm0 hm1 hd
        go_enter Tryd.func20, Tryd.ntmps20
        go_wp2
        go_ret
        exact ⟨ret_i HZ.out, rfl⟩
      · have hna : ((n.natAbs : Nat) : Int) = n := by omega
        rw [if_neg (by intro h; rcases h with h | h; exact h2 h; exact hd h), hna] at ht
        have hlt : pick.tmod n < 0 := by omega
        have hge : -n ≤ pick.tmod n := by omega
        have HT : Hid (pick.tmod n + n = firstN pick n) := by show _ = _; rw [HF.out]; omega
        clear ht hm0 hm1 hd
        go_enter Tryd.func20, Tryd.ntmps20
        go_wp2
        go_ret
        exact ⟨ret_i HT.out, rfl⟩

theorem rfirst_any (pick n : Int) (w : World) (hp : In64 pick) (hn : In64 n) :
    Calls Tryd.prog 21 #[.int .i64 pick, .int .i64 n] w fun e w' => e = .returned (.int .i64 (firstN pick n)) ∧ w = w' := by
  obtain ⟨hp0, hp1⟩ := hp
  obtain ⟨hn0, hn1⟩ := hn
  by_cases h1 : n < 1
  · have HF : Hid (firstN pick n = -1) := by show _ = _; unfold firstN; rw [if_pos h1]
    go_enter Tryd.func21, Tryd.ntmps21
    go_wp2
    go_ret
    exact ⟨ret_i HF.out.symm, rfl⟩
  · have HF : Hid (firstN pick n = pick % n) := by show _ = _; unfold firstN; rw [if_neg h1]
    have hm0 : 0 ≤ pick % n := Int.emod_nonneg _ (by omega)
    have hm1 : pick % n < n := Int.emod_lt_of_pos _ (by omega)
    have hnz : (n == 0) = false := by simp; omega
    by_cases h2 : 0 ≤ pick
    · have ht : pick.tmod n = pick % n := Int.tmod_eq_emod_of_nonneg h2
      have hlt : ¬ pick.tmod n < 0 := by rw [ht]; omega
      have hlt2 : ¬ pick % n < 0 := by omega
      have HT := Lib.hid ht
      clear ht
      go_enter Tryd.func21, Tryd.ntmps21
      go_wp2
      go_ret
      exact ⟨ret_i HF.out.symm, rfl⟩
    · have ht := Int.tmod_eq_emod (a := pick) (b := n)
      by_cases hd : n ∣ pick
      · rw [if_pos (.inr hd), Int.emod_eq_zero_of_dvd hd] at ht
        have HZ : Hid ((0 : Int) = firstN pick n) := by show _ = _; rw [HF.out, Int.emod_eq_zero_of_dvd hd]
        have ht0 : pick.tmod n = 0 := by rw [ht]; rfl
        clear ht hm0 hm1 hd
        go_enter Tryd.func21, Tryd.ntmps21
        go_wp2
        go_ret
        exact ⟨ret_i HZ.out, rfl⟩
      · have hna : ((n.natAbs : Nat) : Int) = n := by omega
        rw [if_neg (by intro h; rcases h with h | h; exact h2 h; exact hd h), hna] at ht
        have hlt : pick.tmod n < 0 := by omega
        have hge : -n ≤ pick.tmod n := by omega
        have HT : Hid (pick.tmod n + n = firstN pick n) := by show _ = _; rw [HF.out]; omega
        clear ht hm0 hm1 hd
        go_enter Tryd.func21, Tryd.ntmps21
        go_wp2
        go_ret
        exact ⟨ret_i HT.out, rfl⟩

end Go.Proofs.YtenjhklkljeijaaDoor
