/-
  PicksEven walked. Condition: strconv's table and errors lie in memory.
-/
import Derived.Test.YtenjhklkljeijaaDoorPicksMake
namespace Go.Fw
open Go.RowKit
set_option linter.unusedVariables false
theorem sum_set_one : ∀ (l : List Int) (a : Nat) (h : a < l.length), (l.set a (l[a] + 1)).sum = l.sum + 1
  | [], a, h => by simp at h
  | x :: r, 0, h => by simp; omega
  | x :: r, a + 1, h => by
    have := sum_set_one r a (by simpa using h)
    simp only [List.set_cons_succ, List.getElem_cons_succ, List.sum_cons, this]
    omega
theorem counts_sum {n : Nat} (hn : 1 ≤ n) (l : List Int) (k : Nat) (hk : k ≤ l.length) : (countsN (l.take k) n).sum = (k : Int) := by
  induction k with
  | zero =>
    rw [List.take_zero, countsN_nil]
    simp
  | succ k ih =>
    have hkl : k < l.length := by omega
    have hf := firstN_at (p := l[k]) (n := (n : Int)) (by omega)
    obtain ⟨a, ha⟩ : ∃ a : Nat, (a : Int) = firstN l[k] (n : Int) := ⟨(firstN l[k] (n : Int)).toNat, by omega⟩
    have han : a < n := by omega
    have hs := countsN_snoc (l.take k) l[k] ha han
    rw [← List.take_succ_eq_append_getElem hkl] at hs
    have hal : a < (countsN (l.take k) n).length := by rw [countsN_length]; exact han
    have hg := countsN_get (l := l.take k) han
    rw [← hs, ← hg, sum_set_one _ _ hal, ih (by omega)]
    simp
theorem sum_take_succ {l : List Int} {k : Nat} (h : k < l.length) : (l.take (k + 1)).sum = (l.take k).sum + l[k] := by
  rw [List.take_succ_eq_append_getElem h, List.sum_append]
  simp
end Go.Fw
namespace Go.Proofs.YtenjhklkljeijaaDoor
open Go.RowKit Go.Fw Go.Shelf
set_option maxHeartbeats 2000000
set_option maxRecDepth 100000
set_option linter.unusedVariables false
set_option linter.unusedSimpArgs false
theorem peven_early (n long : Int) (raw : List Int) (A : Option Addr) (c : Nat) (w : World) (hT : Tabs Tryd.prog w) (hl : raw.length ≤ maxLen) (h : 200 < long ∨ 100 < raw.length ∨ n < 1 ∨ 32 < n) :
    Calls Tryd.prog 4 #[.int .i64 n, .int .i64 long, .slice A raw.length c] w fun e w' => e = .returned (.bool true) ∧ Below w.heap.size w w' := by
  unfold maxLen at hl
  have hor : 200 < long ∨ (¬ 200 < long ∧ (100 : Int) < (raw.length : Int)) ∨ (¬ 200 < long ∧ ¬ (100 : Int) < (raw.length : Int) ∧ n < 1) ∨ (¬ 200 < long ∧ ¬ (100 : Int) < (raw.length : Int) ∧ ¬ n < 1 ∧ 32 < n) := by omega
  clear h
  rcases hor with h1 | ⟨h1, h2⟩ | ⟨h1, h2, h3⟩ | ⟨h1, h2, h3, h4⟩
  all_goals
    go_enter Tryd.func4, Tryd.ntmps4
    go_wp2_with fail
    refine (pawake_any w hT).mono ?_
    rintro e w1 ⟨rfl, hb⟩
    go_wp2
    go_ret
    exact ⟨rfl, hb⟩
theorem peven_late (n : Nat) (long : Int) (raw : List Int) (A : Option Addr) (c : Nat) (w : World) (hT : Tabs Tryd.prog w) (hr : Reads w w.heap.size 1 A raw.length (i64s raw)) (hin : ∀ x ∈ raw, In64 x) (hlong : long ≤ 200) (hl : raw.length ≤ 100) (hn1 : 1 ≤ n) (hn2 : n ≤ 32) :
    Calls Tryd.prog 4 #[.int .i64 (n : Int), .int .i64 long, .slice A raw.length c] w fun e w' => e = .returned (.bool true) ∧ Below w.heap.size w w' := by
  have h1 : ¬ 200 < long := by omega
  have h2 : ¬ (100 : Int) < (raw.length : Int) := by omega
  have h3 : ¬ (n : Int) < 1 := by omega
  have h4 : ¬ 32 < (n : Int) := by omega
  have hnn : ((n : Int) != (n : Int)) = false := by simp
  have HIN := Lib.hid hin
  have hwl := weaveN_length n raw long.toNat
  have HWI := Lib.hid (weaveN_in n hn1 raw long.toNat)
  obtain ⟨r, hmost⟩ := weaveN_most n hn1 raw long.toNat
  obtain ⟨out, hout⟩ : ∃ out, (weaveN n raw long.toNat).1 = out := ⟨_, rfl⟩
  have HWV := fun (w : World) (hr : Reads w w.heap.size 1 A raw.length (i64s raw)) => weave_any n long raw A c w hr hin hn1 hn2 (by omega) (by omega)
  rw [hout] at hwl HWI hmost HWV
  have hin64 : ∀ x ∈ out, In64 x := fun x hx => by have := HWI.out x hx; unfold In64; omega
  have hcv : ∀ (j : Nat) (hj : j < (countsN out n).length), (r : Int) - 1 ≤ (countsN out n)[j] ∧ (countsN out n)[j] ≤ (r : Int) ∧ 0 ≤ (countsN out n)[j] ∧ (countsN out n)[j] ≤ 200 := fun j hj => by
    rw [countsN_length] at hj
    rw [countsN_get hj]
    have hc := namedN_count HWI.out (j : Int)
    have hm := hmost (j : Int) (by omega) (by omega)
    have hle := namedN_le out (n : Int) (j : Int)
    omega
  have hsum := counts_sum hn1 out out.length (Nat.le_refl _)
  rw [List.take_of_length_le (Nat.le_refl _)] at hsum
  have hcl := countsN_length out n
  have HC := Lib.hid (And.intro hin64 (And.intro hwl HWV))
  obtain ⟨cl, hcl2⟩ : ∃ cl, countsN out n = cl := ⟨_, rfl⟩
  have hcnt := fun (w : World) (A : Option Addr) (c : Nat) (hr : Reads w w.heap.size 1 A out.length (i64s out)) => counts_any n out A c w hr hin64 hn1 hn2 (by omega)
  rw [hcl2] at hcv hsum hcl hcnt
  have HN := Lib.hid (And.intro hcv (And.intro hsum (And.intro hcl hcnt)))
  clear hin hwl hmost hout HWV hin64 hcv hsum hcl hcnt hcl2
  go_enter Tryd.func4, Tryd.ntmps4
  go_wp2_with fail
  refine (pawake_any w hT).mono ?_
  rintro e w1 ⟨rfl, hb⟩
  have HR1 := Lib.hid (hr.up hb)
  clear hr
  go_wp2_with fail
  refine (HC.out.2.2 w1 HR1.out).mono ?_
  rintro e w2 ⟨v2, rfl, hm2⟩
  obtain ⟨A2, c2, rfl, r2⟩ := mine_form hm2 HC.out.2.1
  have b2 := sub_trans hb hm2.below
  rw [← HC.out.2.1] at r2
  have HL := Lib.hid HC.out.2.1
  have HR2 := Lib.hid r2
  rw [← HL.out]
  clear hm2 hb HR1 r2
  go_wp2_with fail
  refine (HN.out.2.2.2 w2 A2 c2 HR2.out).mono ?_
  rintro e w3 ⟨rfl, hB, hb3⟩
  have b3 := sub_trans b2 hb3
  have HB := Lib.hid hB
  have hget : ∀ j, j < n → ∃ x : Int, cl.getD j 0 = x ∧ w3.cell? ⟨w2.heap.size, j, none⟩ = some (.int .i64 x) ∧ (r : Int) - 1 ≤ x ∧ x ≤ (r : Int) ∧ 0 ≤ x ∧ x ≤ 200 := fun j hj => by
    have hj2 : j < cl.length := by have := HN.out.2.2.1; omega
    have hc := HB.out.cell j
    rw [iarr_get hj2] at hc
    exact ⟨cl[j], by rw [List.getD_eq_getElem?_getD, List.getElem?_eq_getElem hj2]; rfl, hc, HN.out.1 j hj2⟩
  have HG := Lib.hid hget
  obtain ⟨x0, _, hc0, hx0⟩ := hget 0 (by omega)
  have HX0 := Lib.hid hx0
  clear hget hb3 b2 hB HR2 hx0
  have hn0 : 0 < n := hn1
  have hn0I : 0 < (n : Int) := by omega
  go_wp2
  refine still_all (by kernel_rfl) (by kernel_rfl) ?_
  repeat still_step
  refine wpStill_nil ?_
  go_wp2
  go_loop [8, 9, 10, 48] (fun lo hi al i => ∃ (j : Nat) (a b s : Int), j ≤ n ∧ i = .int .i64 j ∧ lo = .int .i64 a ∧ hi = .int .i64 b ∧ al = .int .i64 s ∧ Hid (s = (cl.take j).sum) ∧ ((r : Int) - 1 ≤ a ∧ a ≤ (r : Int)) ∧ ((r : Int) - 1 ≤ b ∧ b ≤ (r : Int)) ∧ (0 ≤ a ∧ a ≤ 200) ∧ (0 ≤ b ∧ b ≤ 200) ∧ (0 ≤ s ∧ s ≤ 200 * (j : Int))) (fun _ _ _ i => n - (intOf i).toNat)
  case atStart => exact ⟨0, x0, x0, 0, Nat.zero_le _, rfl, rfl, rfl, rfl, Lib.hid (by simp), ⟨HX0.out.1, HX0.out.2.1⟩, ⟨HX0.out.1, HX0.out.2.1⟩, ⟨HX0.out.2.2.1, HX0.out.2.2.2⟩, ⟨HX0.out.2.2.1, HX0.out.2.2.2⟩, by omega, by omega⟩
  case round =>
    obtain ⟨j, a, b, s, hj, rfl, rfl, rfl, rfl, HS, ⟨ha1, ha2⟩, ⟨hb1, hb2⟩, ⟨ha3, ha4⟩, ⟨hb4, hb5⟩, hs1, hs2⟩ := hrel
    clear hc0
    by_cases hlt : j < n
    · obtain ⟨x, hxe, hc, q1, q2, q3, q4⟩ := HG.out j hlt
      have hj2 : j < cl.length := by have := HN.out.2.2.1; omega
      have hst := sum_take_succ hj2
      have hxx : cl[j] = x := by rw [← hxe, List.getD_eq_getElem?_getD, List.getElem?_eq_getElem hj2]; rfl
      rw [hxx, ← HS.out] at hst
      have HST := Lib.hid hst
      have hjn : (j : Int) ≤ 32 := by omega
      clear hst hxx hxe hj2
      by_cases hlo : x < a <;> by_cases hhi : b < x
      all_goals
        go_wp2
        go_round
        case rel => first
          | exact ⟨j + 1, _, _, s + x, by omega, by go_num, rfl, rfl, by go_num, Lib.hid HST.out.symm, ⟨by omega, by omega⟩, ⟨by omega, by omega⟩, ⟨by omega, by omega⟩, ⟨by omega, by omega⟩, by omega, by omega⟩
        case measure => simp [intOf]; omega
    · have hje : j = n := by omega
      have hall : s = (long.toNat : Int) := by
        have h5 := HS.out
        rw [List.take_of_length_le (by have := HN.out.2.2.1; omega), HN.out.2.1, HL.out] at h5
        exact h5
      have hd : IntKind.i64.wrap (b - a) = b - a := IntWalk.i64_in _ ⟨by omega, by omega⟩
      have hd1 : b - a ≤ 1 := by omega
      by_cases hl0 : long < 0
      · have hs0 : s = 0 := by omega
        subst hs0
        clear hall
        go_wp2
        go_ret
        exact ⟨by first | rfl | (simp; done) | (simp; omega), b3.drew⟩
      · have hs0 : s = long := by omega
        subst hs0
        clear hall
        go_wp2
        go_ret
        exact ⟨by first | rfl | (simp; done) | (simp; omega), b3.drew⟩
theorem picksEven_walk (n long : Int) (raw : List Int) (A : Option Addr) (c : Nat) (w : World) (hT : Tabs Tryd.prog w) (hn : In64 n) (hlong : In64 long) (hr : Reads w w.heap.size 1 A raw.length (i64s raw)) (hin : Small raw) (hl : raw.length ≤ maxLen ∧ raw.length ≤ c) :
    Calls Tryd.prog 4 #[.int .i64 n, .int .i64 long, .slice A raw.length c] w fun e w' => e = .returned (.bool true) ∧ Below w.heap.size w w' := by
  by_cases h : 200 < long ∨ 100 < raw.length ∨ n < 1 ∨ 32 < n
  · exact peven_early n long raw A c w hT hl.1 h
  · obtain ⟨k, rfl⟩ : ∃ k : Nat, n = (k : Int) := ⟨n.toNat, by omega⟩
    exact peven_late k long raw A c w hT hr (small_in hin) (by omega) (by omega) (by omega) (by omega)
end Go.Proofs.YtenjhklkljeijaaDoor
