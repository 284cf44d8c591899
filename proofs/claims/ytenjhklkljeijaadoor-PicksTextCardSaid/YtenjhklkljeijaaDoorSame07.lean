/-
  The walk of the reference's Same on lists of numbers (chapter 7). Conditions: at most a million numbers.
-/
import Derived.Test.YtenjhklkljeijaaDoorBase
namespace Go.Proofs.YtenjhklkljeijaaDoor
open Go.RowKit Go.Fw
set_option maxHeartbeats 1000000
set_option maxRecDepth 4000
set_option linter.unusedVariables false
set_option linter.unusedSimpArgs false
theorem drop_eq_iff7 {xs ys : List Int} (hl : xs.length = ys.length) (k : Nat) (hk : k < xs.length) : decide (xs.drop k = ys.drop k) = (decide (xs[k] = ys[k]) && decide (xs.drop (k + 1) = ys.drop (k + 1))) := by
  rw [List.drop_eq_getElem_cons hk, List.drop_eq_getElem_cons (show k < ys.length by omega), Bool.eq_iff_iff]
  simp only [decide_eq_true_eq, Bool.and_eq_true, List.cons.injEq]
theorem same7_any (xs ys : List Int) (A A2 : Option Addr) (c c2 n m B : Nat) (w : World) (hx : Reads w B 1 A n (i64s xs)) (hy : Reads w B 1 A2 m (i64s ys)) (hn : n ≤ 1000000) (hm : m ≤ 1000000) (sx : Small xs) (sy : Small ys) :
    Calls Tryd.prog 8 #[.slice A n c, .slice A2 m c2] w fun e w' => e = .returned (.bool (decide (xs = ys))) ∧ Below w.heap.size w w' := by
  have ex : n = xs.length := by have := hx.len; rwa [i64s_length] at this
  have ey : m = ys.length := by have := hy.len; rwa [i64s_length] at this
  by_cases hnm : n = m
  · have h1 : ((n : Int) != (m : Int)) = false := by simp; omega
    have hl : xs.length = ys.length := by omega
    have EX := Lib.hid ex
    have EY := Lib.hid ey
    have HL := Lib.hid hl
    subst hnm
    clear ex ey hl
    go_enter Tryd.func8, Tryd.ntmps8
    go_wp2
    go_loopw [5] (fun i wr => ∃ (k : Nat), k ≤ n ∧ i = .int .i64 k ∧ Hid (decide (xs = ys) = decide (xs.drop k = ys.drop k)) ∧ Hid (∃ nq, wr = w.drewN nq)) (fun i _ => n - (intOf i).toNat)
    case atStart => exact ⟨0, by omega, rfl, Lib.hid rfl, Lib.hid ⟨0, rfl⟩⟩
    case round =>
      obtain ⟨k, hk, rfl, HD, HW⟩ := hrel
      obtain ⟨nq, rfl⟩ := HW.out
      clear HW
      by_cases hlt : k < n
      · obtain ⟨ad, u, rfl, _, hux, hc⟩ := hx.at_ hlt
        obtain ⟨ad2, u2, rfl, _, huy, hc2⟩ := hy.at_ hlt
        have hkx : k < xs.length := by have := EX.out; omega
        have hky : k < ys.length := by have := EY.out; omega
        obtain rfl := i64s_get hux hkx
        obtain rfl := i64s_get huy hky
        have hde := drop_eq_iff7 HL.out k hkx
        have hbx := sx k hkx
        have hby := sy k hky
        generalize xs[k] = x at *
        generalize ys[k] = y at *
        have hlen : (k : Int) < (n : Int) := by omega
        by_cases hxy : x = y
        · have h2 : (x != y) = false := by simp [hxy]
          have HE : Hid (decide (xs.drop k = ys.drop k) = decide (xs.drop (k + 1) = ys.drop (k + 1))) := by rw [hde, hxy]; exact Lib.hid (by simp)
          clear hde hxy hux huy
          go_wp2
          go_quiet (fail)
          go_wp2
          go_roundw
          case rel => exact ⟨k + 1, by omega, by go_num, Lib.hid (by rw [HD.out, HE.out]), Lib.hid ⟨_, rfl⟩⟩
          case measure => simp [intOf]; omega
        · have h2 : (x != y) = true := by simp [hxy]
          have HE : Hid (decide (xs.drop k = ys.drop k) = false) := by rw [hde]; exact Lib.hid (by simp [hxy])
          clear hde hxy hux huy
          go_wp2
          go_quiet (fail)
          go_wp2
          go_ret
          exact ⟨ret_b (by rw [HD.out, HE.out]), by repeat (first | exact Below.refl _ _ | apply sub_drewN)⟩
      · have HE : Hid (decide (xs = ys) = true) := by
          rw [HD.out, List.drop_eq_nil_of_le (by have := EX.out; omega), List.drop_eq_nil_of_le (by have := EY.out; omega)]
          exact Lib.hid (by simp)
        go_wp2
        go_ret
        exact ⟨ret_b (by rw [HE.out]), by repeat (first | exact Below.refl _ _ | apply sub_drewN)⟩
  · have h1 : ((n : Int) != (m : Int)) = true := by simp; omega
    have HE : Hid (decide (xs = ys) = false) := by
      show _ = _
      rw [decide_eq_false_iff_not]
      intro h
      subst h
      omega
    clear ex ey hnm
    go_enter Tryd.func8, Tryd.ntmps8
    go_wp2
    go_ret
    exact ⟨ret_b (by rw [HE.out]), Below.refl _ _⟩
end Go.Proofs.YtenjhklkljeijaaDoor
