/-
  Chapter 28's simple functions, walked: Round, Gap, Named, Counts and the reference's. Conditions: few picks.
-/
import Derived.Test.YtenjhklkljeijaaDoorPickPlain
import Derived.Test.YtenjhklkljeijaaDoorOwnN
namespace Go.Fw
open Go.RowKit
theorem sz_of {s : Nat} {w0 w : World} {e : TypeId} {v : Value} {n : Nat} {xs : List Value} (h : MineS s w0 w e v n xs) : w0.heap.size ≤ w.heap.size := h.below.size
end Go.Fw
namespace Go.Proofs.YtenjhklkljeijaaDoor
open Go.RowKit Go.Fw
set_option maxHeartbeats 1000000
set_option maxRecDepth 4000
set_option linter.unusedVariables false
set_option linter.unusedSimpArgs false
theorem elemIntP : ElemS Tryd.prog 22 3 (.int .i64 0) 1 8 := ⟨Tryd.underlying22, by kernel_rfl, rfl⟩
theorem round_any (n long : Int) (w : World) (hn : In64 n) (hl : long ≤ 100000) :
    Calls Tryd.prog 9 #[.int .i64 n, .int .i64 long] w fun e w' => ∃ v, e = .returned v ∧ MineS 1 w w' 3 v long.toNat (i64s (roundN n long.toNat)) := by
  have h0 : ¬ 1048576 < long := by omega
  go_enter Tryd.func9, Tryd.ntmps9
  go_wp2
  go_loopw [5, 9] (fun v i wr => ∃ j : Nat, j ≤ long.toNat ∧ i = .int .i64 j ∧ MineS 1 w wr 3 v j (i64s (roundN n j))) (fun _ i _ => long.toNat - (intOf i).toNat)
  case atStart => exact ⟨0, Nat.zero_le _, rfl, World.ownsRow_nil _ _ _ _, Below.refl _ _⟩
  case round =>
    obtain ⟨j, hj, rfl, hm⟩ := hrel
    by_cases hlt : (j : Int) < long
    · have hjI : In64 (j : Int) := by unfold In64; omega
      have hs := roundN_snoc n j
      have HS := Lib.hid hs
      have HM := Lib.hid hm
      obtain ⟨A, c, rfl, _, _⟩ := own_form hm.own
      have hown := hm.own
      have hsz := hm.below.size
      clear hm hs
      generalize hf : firstN (j : Int) n = x at *
      have HF := Lib.hid hf
      clear hf
      go_wp2_with fail
      refine (first_any (j : Int) n _ hjI hn).mono ?_
      rintro e w' ⟨rfl, rfl⟩
      rw [HF.out]
      go_wp2_with (at_builtin; go_must (refine wpList_append_oneN (w := wr) (n := j) (xs := i64s (roundN n j)) elemIntP (by decide) rfl (.tmp 12) (.tmp 16) rfl rfl hown hsz rfl rfl rfl (by simp [Value.oneCell']) (by omega) (by unfold maxLen; omega) ?_); intro v2 w2 hm2 hg2 _)
      have H2 := Lib.hid (HM.out.app hg2 hm2)
      clear hm2 hg2
      go_roundw
      case rel => exact ⟨j + 1, by omega, by go_num, by have := H2.out; rw [← HS.out]; simpa [i64s] using this⟩
      case measure => simp [intOf]; omega
    · go_wp2
      go_ret
      have : j = long.toNat := by omega
      exact ⟨_, rfl, by rw [← this]; exact hm⟩
theorem rround_any (n long : Int) (w : World) (hn : In64 n) (hl : long ≤ 100000) :
    Calls Tryd.prog 10 #[.int .i64 n, .int .i64 long] w fun e w' => ∃ v, e = .returned v ∧ MineS 1 w w' 3 v long.toNat (i64s (roundN n long.toNat)) := by
  go_enter Tryd.func10, Tryd.ntmps10
  go_wp2
  go_loopw [5, 6] (fun v i wr => ∃ j : Nat, j ≤ long.toNat ∧ i = .int .i64 j ∧ MineS 1 w wr 3 v j (i64s (roundN n j))) (fun _ i _ => long.toNat - (intOf i).toNat)
  case atStart => exact ⟨0, Nat.zero_le _, rfl, World.ownsRow_nil _ _ _ _, Below.refl _ _⟩
  case round =>
    obtain ⟨j, hj, rfl, hm⟩ := hrel
    by_cases hlt : (j : Int) < long
    · have hjI : In64 (j : Int) := by unfold In64; omega
      have hs := roundN_snoc n j
      have HS := Lib.hid hs
      have HM := Lib.hid hm
      obtain ⟨A, c, rfl, _, _⟩ := own_form hm.own
      have hown := hm.own
      have hsz := hm.below.size
      clear hm hs
      generalize hf : firstN (j : Int) n = x at *
      have HF := Lib.hid hf
      clear hf
      go_wp2_with fail
      refine (rfirst_any (j : Int) n _ hjI hn).mono ?_
      rintro e w' ⟨rfl, rfl⟩
      rw [HF.out]
      go_wp2_with (at_builtin; go_must (refine wpList_append_oneN (w := wr) (n := j) (xs := i64s (roundN n j)) elemIntP (by decide) rfl _ _ rfl rfl hown hsz rfl rfl rfl (by simp [Value.oneCell']) (by omega) (by unfold maxLen; omega) ?_); intro v2 w2 hm2 hg2 _)
      have H2 := Lib.hid (HM.out.app hg2 hm2)
      clear hm2 hg2
      go_roundw
      case rel => exact ⟨j + 1, by omega, by go_num, by have := H2.out; rw [← HS.out]; simpa [i64s] using this⟩
      case measure => simp [intOf]; omega
    · go_wp2
      go_ret
      have : j = long.toNat := by omega
      exact ⟨_, rfl, by rw [← this]; exact hm⟩
theorem named_any (n t : Int) (l : List Int) (A : Option Addr) (c : Nat) (w : World) (hr : Reads w w.heap.size 1 A l.length (i64s l)) (hin : ∀ x ∈ l, In64 x) (hn : In64 n) (hl : l.length ≤ 100000) :
    Calls Tryd.prog 16 #[.slice A l.length c, .int .i64 n, .int .i64 t] w fun e w' => e = .returned (.int .i64 (namedN l n t : Int)) ∧ w = w' := by
  have HIN := Lib.hid hin
  clear hin
  go_enter Tryd.func16, Tryd.ntmps16
  generalize hnl : l.length = N at *
  have HN := Lib.hid hnl
  clear hnl
  go_wp2
  go_loop [7, 8] (fun k i => ∃ j : Nat, j ≤ N ∧ i = .int .i64 j ∧ k = .int .i64 (namedN (l.take j) n t : Int)) (fun _ i => N - (intOf i).toNat)
  case atStart => exact ⟨0, Nat.zero_le _, rfl, rfl⟩
  case round =>
    obtain ⟨j, hj, rfl, rfl⟩ := hrel
    by_cases hlt : j < N
    · have hjl : j < l.length := by have := HN.out; omega
      obtain ⟨ad, u, rfl, _, hux, hc⟩ := hr.at_ hlt
      obtain rfl := i64s_get hux hjl
      have hx := HIN.out l[j] (List.getElem_mem hjl)
      have hs := namedN_snoc (l.take j) n t l[j]
      rw [← List.take_succ_eq_append_getElem hjl] at hs
      have HS := Lib.hid hs
      have hle := namedN_le (l.take j) n t
      have hle2 : namedN (l.take j) n t ≤ 100000 := by simp at hle; omega
      generalize namedN (l.take j) n t = q at *
      clear hs hux hle
      generalize l[j] = x at *
      generalize hf : firstN x n = y at *
      have HF := Lib.hid hf
      clear hf
      by_cases hy : y = t
      · subst hy
        go_wp2_with fail
        refine (rfirst_any x n _ hx hn).mono ?_
        rintro e w' ⟨rfl, rfl⟩
        rw [HF.out]
        go_wp2
        go_round
        case rel => exact ⟨j + 1, by omega, by go_num, by rw [HS.out]; simp⟩
        case measure => simp [intOf]; omega
      · have hyb : (y == t) = false := by simpa using hy
        have HY := Lib.hid hy
        clear hy
        go_wp2_with fail
        refine (rfirst_any x n _ hx hn).mono ?_
        rintro e w' ⟨rfl, rfl⟩
        rw [HF.out]
        go_wp2
        go_round
        case rel => exact ⟨j + 1, by omega, by go_num, by rw [HS.out, if_neg HY.out]; simp⟩
        case measure => simp [intOf]; omega
    · rw [List.take_of_length_le (by have := HN.out; omega)]
      go_wp2
      go_ret
      exact ⟨rfl, rfl⟩
theorem gap_any (n t : Int) (l : List Int) (A : Option Addr) (c : Nat) (w : World) (hr : Reads w w.heap.size 1 A l.length (i64s l)) (hin : ∀ x ∈ l, In64 x) (hn : In64 n) (hl : l.length ≤ 100000) :
    Calls Tryd.prog 14 #[.slice A l.length c, .int .i64 n, .int .i64 t] w fun e w' => e = .returned (.int .i64 (max (gapN n t l).1 ((gapN n t l).2 + 1) : Nat)) ∧ w = w' := by
  have HIN := Lib.hid hin
  clear hin
  go_enter Tryd.func14, Tryd.ntmps14
  generalize hnl : l.length = N at *
  have HN := Lib.hid hnl
  clear hnl
  go_wp2
  go_loop [7, 8, 13] (fun b k i => ∃ j : Nat, j ≤ N ∧ i = .int .i64 j ∧ b = .int .i64 ((gapN n t (l.take j)).1 : Int) ∧ k = .int .i64 ((gapN n t (l.take j)).2 : Int)) (fun _ _ i => N - (intOf i).toNat)
  case atStart => exact ⟨0, Nat.zero_le _, rfl, rfl, rfl⟩
  case round =>
    obtain ⟨j, hj, rfl, rfl, rfl⟩ := hrel
    obtain ⟨hg1, hg2⟩ := gapN_le n t (l.take j)
    rw [List.length_take] at hg1 hg2
    by_cases hlt : j < N
    · have hjl : j < l.length := by have := HN.out; omega
      obtain ⟨ad, u, rfl, _, hux, hc⟩ := hr.at_ hlt
      obtain rfl := i64s_get hux hjl
      have hx := HIN.out l[j] (List.getElem_mem hjl)
      have hs := gapN_snoc n t (l.take j) l[j]
      rw [← List.take_succ_eq_append_getElem hjl] at hs
      generalize gapN n t (l.take j) = q at *
      obtain ⟨q1, q2⟩ := q
      simp only at *
      have HS := Lib.hid hs
      have b1 : q1 ≤ 100000 := by omega
      have b2 : q2 ≤ 100000 := by omega
      clear hs hux hg1 hg2
      generalize l[j] = x at *
      generalize hf : firstN x n = y at *
      have HF := Lib.hid hf
      clear hf
      by_cases hy : y = t
      · subst hy
        by_cases hb : q1 < q2 + 1
        · have hbI : (q1 : Int) < (q2 : Int) + 1 := by omega
          go_wp2_with fail
          refine (first_any x n _ hx hn).mono ?_
          rintro e w' ⟨rfl, rfl⟩
          rw [HF.out]
          go_wp2
          go_round
          case rel => exact ⟨j + 1, by omega, by go_num, by rw [HS.out, if_pos trivial]; simp; omega, by rw [HS.out, if_pos trivial]; rfl⟩
          case measure => simp [intOf]; omega
        · have hbI : ¬ (q1 : Int) < (q2 : Int) + 1 := by omega
          go_wp2_with fail
          refine (first_any x n _ hx hn).mono ?_
          rintro e w' ⟨rfl, rfl⟩
          rw [HF.out]
          go_wp2
          go_round
          case rel => exact ⟨j + 1, by omega, by go_num, by rw [HS.out, if_pos trivial]; simp; omega, by rw [HS.out, if_pos trivial]; rfl⟩
          case measure => simp [intOf]; omega
      · have hyb : (y == t) = false := by simpa using hy
        have HY := Lib.hid hy
        clear hy
        go_wp2_with fail
        refine (first_any x n _ hx hn).mono ?_
        rintro e w' ⟨rfl, rfl⟩
        rw [HF.out]
        go_wp2
        go_round
        case rel => exact ⟨j + 1, by omega, by go_num, by rw [HS.out, if_neg HY.out], by rw [HS.out, if_neg HY.out]; simp⟩
        case measure => simp [intOf]; omega
    · rw [List.take_of_length_le (by have := HN.out; omega)]
      rw [List.take_of_length_le (by have := HN.out; omega)] at hg1 hg2
      obtain ⟨q1, q2, hq⟩ : ∃ q1 q2, gapN n t l = (q1, q2) := ⟨_, _, rfl⟩
      rw [hq] at hg1 hg2 ⊢
      simp only at *
      have b1 : q1 ≤ 100000 := by omega
      have b2 : q2 ≤ 100000 := by omega
      have HQ := Lib.hid hq
      clear hq hg1 hg2
      by_cases hb : q1 < q2 + 1
      · have hbI : (q1 : Int) < (q2 : Int) + 1 := by omega
        go_wp2
        go_ret
        exact ⟨ret_i (by rw [HQ.out]; simp; omega), rfl⟩
      · have hbI : ¬ (q1 : Int) < (q2 : Int) + 1 := by omega
        go_wp2
        go_ret
        exact ⟨ret_i (by rw [HQ.out]; simp; omega), rfl⟩
theorem rgap_any (n t : Int) (l : List Int) (A : Option Addr) (c : Nat) (w : World) (hr : Reads w w.heap.size 1 A l.length (i64s l)) (hin : ∀ x ∈ l, In64 x) (hn : In64 n) (hl : l.length ≤ 100000) :
    Calls Tryd.prog 15 #[.slice A l.length c, .int .i64 n, .int .i64 t] w fun e w' => e = .returned (.int .i64 (max (gapN n t l).1 ((gapN n t l).2 + 1) : Nat)) ∧ w = w' := by
  have HIN := Lib.hid hin
  clear hin
  go_enter Tryd.func15, Tryd.ntmps15
  generalize hnl : l.length = N at *
  have HN := Lib.hid hnl
  clear hnl
  go_wp2
  go_loop [7, 8, 9] (fun b k i => ∃ j : Nat, j ≤ N ∧ i = .int .i64 j ∧ b = .int .i64 ((gapN n t (l.take j)).1 : Int) ∧ k = .int .i64 ((gapN n t (l.take j)).2 : Int)) (fun _ _ i => N - (intOf i).toNat)
  case atStart => exact ⟨0, Nat.zero_le _, rfl, rfl, rfl⟩
  case round =>
    obtain ⟨j, hj, rfl, rfl, rfl⟩ := hrel
    obtain ⟨hg1, hg2⟩ := gapN_le n t (l.take j)
    rw [List.length_take] at hg1 hg2
    by_cases hlt : j < N
    · have hjl : j < l.length := by have := HN.out; omega
      obtain ⟨ad, u, rfl, _, hux, hc⟩ := hr.at_ hlt
      obtain rfl := i64s_get hux hjl
      have hx := HIN.out l[j] (List.getElem_mem hjl)
      have hs := gapN_snoc n t (l.take j) l[j]
      rw [← List.take_succ_eq_append_getElem hjl] at hs
      generalize gapN n t (l.take j) = q at *
      obtain ⟨q1, q2⟩ := q
      simp only at *
      have HS := Lib.hid hs
      have b1 : q1 ≤ 100000 := by omega
      have b2 : q2 ≤ 100000 := by omega
      clear hs hux hg1 hg2
      generalize l[j] = x at *
      generalize hf : firstN x n = y at *
      have HF := Lib.hid hf
      clear hf
      by_cases hy : y = t
      · subst hy
        by_cases hb : q1 < q2 + 1
        · have hbI : (q1 : Int) < (q2 : Int) + 1 := by omega
          go_wp2_with fail
          refine (rfirst_any x n _ hx hn).mono ?_
          rintro e w' ⟨rfl, rfl⟩
          rw [HF.out]
          go_wp2
          go_round
          case rel => exact ⟨j + 1, by omega, by go_num, by rw [HS.out, if_pos trivial]; simp; omega, by rw [HS.out, if_pos trivial]; rfl⟩
          case measure => simp [intOf]; omega
        · have hbI : ¬ (q1 : Int) < (q2 : Int) + 1 := by omega
          go_wp2_with fail
          refine (rfirst_any x n _ hx hn).mono ?_
          rintro e w' ⟨rfl, rfl⟩
          rw [HF.out]
          go_wp2
          go_round
          case rel => exact ⟨j + 1, by omega, by go_num, by rw [HS.out, if_pos trivial]; simp; omega, by rw [HS.out, if_pos trivial]; rfl⟩
          case measure => simp [intOf]; omega
      · have hyb : (y == t) = false := by simpa using hy
        have HY := Lib.hid hy
        clear hy
        go_wp2_with fail
        refine (rfirst_any x n _ hx hn).mono ?_
        rintro e w' ⟨rfl, rfl⟩
        rw [HF.out]
        go_wp2
        go_round
        case rel => exact ⟨j + 1, by omega, by go_num, by rw [HS.out, if_neg HY.out], by rw [HS.out, if_neg HY.out]; simp⟩
        case measure => simp [intOf]; omega
    · rw [List.take_of_length_le (by have := HN.out; omega)]
      rw [List.take_of_length_le (by have := HN.out; omega)] at hg1 hg2
      obtain ⟨q1, q2, hq⟩ : ∃ q1 q2, gapN n t l = (q1, q2) := ⟨_, _, rfl⟩
      rw [hq] at hg1 hg2 ⊢
      simp only at *
      have b1 : q1 ≤ 100000 := by omega
      have b2 : q2 ≤ 100000 := by omega
      have HQ := Lib.hid hq
      clear hq hg1 hg2
      by_cases hb : q1 < q2 + 1
      · have hbI : (q1 : Int) < (q2 : Int) + 1 := by omega
        go_wp2
        go_ret
        exact ⟨ret_i (by rw [HQ.out]; simp; omega), rfl⟩
      · have hbI : ¬ (q1 : Int) < (q2 : Int) + 1 := by omega
        go_wp2
        go_ret
        exact ⟨ret_i (by rw [HQ.out]; simp; omega), rfl⟩
end Go.Proofs.YtenjhklkljeijaaDoor
