/-
  PicksTell walked. Condition: strconv's table and errors lie in memory.
-/
import Derived.Test.YtenjhklkljeijaaDoorPicksMake
namespace Go.Proofs.YtenjhklkljeijaaDoor
open Go.RowKit Go.Fw Go.Shelf
set_option maxHeartbeats 2000000
set_option maxRecDepth 100000
set_option linter.unusedVariables false
set_option linter.unusedSimpArgs false
theorem ptell_early (l : List Int) (A : Option Addr) (c : Nat) (n t : Int) (w : World) (hT : Tabs Tryd.prog w) (hl : l.length ≤ maxLen) (h : 100 < l.length) :
    Calls Tryd.prog 5 #[.slice A l.length c, .int .i64 n, .int .i64 t] w fun e w' => e = .returned (.bool true) ∧ Below w.heap.size w w' := by
  unfold maxLen at hl
  go_enter Tryd.func5, Tryd.ntmps5
  go_wp2_with fail
  refine (pawake_any w hT).mono ?_
  rintro e w1 ⟨rfl, hb⟩
  go_wp2
  go_ret
  exact ⟨rfl, hb⟩
theorem ptell_none (l : List Int) (A : Option Addr) (c : Nat) (n t : Int) (w : World) (hT : Tabs Tryd.prog w) (hr : Reads w w.heap.size 1 A l.length (i64s l)) (hin : ∀ x ∈ l, In64 x) (hn : In64 n) (hl : l.length ≤ 100) (h : n < 1 ∨ 32 < n) :
    Calls Tryd.prog 5 #[.slice A l.length c, .int .i64 n, .int .i64 t] w fun e w' => e = .returned (.bool true) ∧ Below w.heap.size w w' := by
  have HOR := Lib.hid h
  have HIN := Lib.hid hin
  have hor : n < 1 ∨ (¬ n < 1 ∧ 32 < n) := by omega
  have h100 : ¬ (100 : Int) < (l.length : Int) := by omega
  clear h hin
  obtain ⟨g, hg⟩ : ∃ g : Int, ((max (gapN n t l).1 ((gapN n t l).2 + 1) : Nat) : Int) = g := ⟨_, rfl⟩
  have HG := Lib.hid hg
  clear hg
  rcases hor with h1 | ⟨h1, h2⟩
  all_goals
    go_enter Tryd.func5, Tryd.ntmps5
    go_wp2_with fail
    refine (pawake_any w hT).mono ?_
    rintro e w1 ⟨rfl, hb⟩
    have hr1 := hr.up hb
    go_wp2_with fail
    refine (counts_no n l A c _ (by omega) HOR.out).mono ?_
    rintro e w2 ⟨rfl, rfl⟩
    go_wp2_with fail
    refine (gap_any n t l A c _ hr1 HIN.out hn (by omega)).mono ?_
    rintro e w2 ⟨rfl, rfl⟩
    rw [HG.out]
    go_wp2_with fail
    refine (rgap_any n t l A c _ hr1 HIN.out hn (by omega)).mono ?_
    rintro e w2 ⟨rfl, rfl⟩
    rw [HG.out]
    go_wp2
    go_ret
    exact ⟨by first | rfl | simp, hb⟩
theorem ptell_some (l : List Int) (A : Option Addr) (c : Nat) (n : Nat) (t : Int) (w : World) (hT : Tabs Tryd.prog w) (hr : Reads w w.heap.size 1 A l.length (i64s l)) (hin : ∀ x ∈ l, In64 x) (hl : l.length ≤ 100) (hn1 : 1 ≤ n) (hn2 : n ≤ 32) :
    Calls Tryd.prog 5 #[.slice A l.length c, .int .i64 (n : Int), .int .i64 t] w fun e w' => e = .returned (.bool true) ∧ Below w.heap.size w w' := by
  have HIN := Lib.hid hin
  have h100 : ¬ (100 : Int) < (l.length : Int) := by omega
  have h1 : ¬ (n : Int) < 1 := by omega
  have h2 : ¬ 32 < (n : Int) := by omega
  have hn : In64 (n : Int) := by unfold In64; omega
  have hnn : ((n : Int) != (n : Int)) = false := by simp
  clear hin
  obtain ⟨g, hg⟩ : ∃ g : Int, ((max (gapN (n : Int) t l).1 ((gapN (n : Int) t l).2 + 1) : Nat) : Int) = g := ⟨_, rfl⟩
  have HG := Lib.hid hg
  clear hg
  go_enter Tryd.func5, Tryd.ntmps5
  go_wp2_with fail
  refine (pawake_any w hT).mono ?_
  rintro e w1 ⟨rfl, hb⟩
  have HR1 := Lib.hid (hr.up hb)
  clear hr
  go_wp2_with fail
  refine (counts_any n l A c _ HR1.out HIN.out hn1 hn2 (by omega)).mono ?_
  rintro e w2 ⟨rfl, hB, hb2⟩
  have HR2 := Lib.hid (HR1.out.up hb2)
  have HB := Lib.hid hB
  have hb3 := sub_trans hb hb2
  clear hb hb2 hB HR1
  go_wp2
  go_loop [44] (fun i => ∃ j : Nat, j ≤ n ∧ i = .int .i64 j) (fun i => n - (intOf i).toNat)
  case atStart => exact ⟨0, Nat.zero_le _, rfl⟩
  case round =>
    obtain ⟨j, hj, rfl⟩ := hrel
    by_cases hlt : j < n
    · have c0 := HB.out.cell j
      rw [iarr_get (by rw [countsN_length]; exact hlt), countsN_get hlt] at c0
      have hxx : ((namedN l (n : Int) (j : Int) : Int) != (namedN l (n : Int) (j : Int) : Int)) = false := by simp
      have HQ := Lib.hid (named_any (n : Int) (j : Int) l A c w2 HR2.out HIN.out hn (by omega))
      generalize namedN l (n : Int) (j : Int) = q at *
      go_wp2_with fail
      refine HQ.out.mono ?_
      rintro e w3 ⟨rfl, rfl⟩
      go_wp2
      go_round
      case rel => exact ⟨j + 1, by omega, by go_num⟩
      case measure => simp [intOf]; omega
    · go_wp2_with fail
      refine (gap_any (n : Int) t l A c _ HR2.out HIN.out hn (by omega)).mono ?_
      rintro e w3 ⟨rfl, rfl⟩
      rw [HG.out]
      go_wp2_with fail
      refine (rgap_any (n : Int) t l A c _ HR2.out HIN.out hn (by omega)).mono ?_
      rintro e w3 ⟨rfl, rfl⟩
      rw [HG.out]
      go_wp2
      go_ret
      exact ⟨by first | rfl | simp, hb3⟩
theorem picksTell_walk (l : List Int) (A : Option Addr) (c : Nat) (n t : Int) (w : World) (hT : Tabs Tryd.prog w) (hr : Reads w w.heap.size 1 A l.length (i64s l)) (hin : Small l) (hl : l.length ≤ maxLen ∧ l.length ≤ c) (hn : In64 n) (ht : In64 t) :
    Calls Tryd.prog 5 #[.slice A l.length c, .int .i64 n, .int .i64 t] w fun e w' => e = .returned (.bool true) ∧ Below w.heap.size w w' := by
  by_cases h : 100 < l.length
  · exact ptell_early l A c n t w hT hl.1 h
  · by_cases hnn : 1 ≤ n ∧ n ≤ 32
    · obtain ⟨k, rfl⟩ : ∃ k : Nat, n = (k : Int) := ⟨n.toNat, by omega⟩
      exact ptell_some l A c k t w hT hr (small_in hin) (by omega) (by omega) (by omega)
    · exact ptell_none l A c n t w hT hr (small_in hin) hn (by omega) (by omega)
end Go.Proofs.YtenjhklkljeijaaDoor
