/-
  PicksMake walked. Condition: strconv's table and errors lie in memory.
-/
import Derived.Test.YtenjhklkljeijaaDoorPickAwake
namespace Go.Proofs.YtenjhklkljeijaaDoor
open Go.RowKit Go.Fw Go.Shelf
set_option maxHeartbeats 2000000
set_option maxRecDepth 100000
set_option linter.unusedVariables false
set_option linter.unusedSimpArgs false
theorem mine_form {w w' : World} {v : Value} {n : Nat} {l : List Int} (h : MineS 1 w w' 3 v n (i64s l)) (hl : l.length = n) : ∃ A c, v = .slice A n c ∧ Reads w' w'.heap.size 1 A n (i64s l) := by
  obtain ⟨A, c, rfl, _, _⟩ := own_form h.own
  exact ⟨A, c, rfl, Reads.of_own h.own⟩
theorem pmake_early (n long : Int) (raw : List Int) (A : Option Addr) (c : Nat) (w : World) (hT : Tabs Tryd.prog w) (hl : raw.length ≤ maxLen) (h : 200 < long ∨ 100 < raw.length) :
    Calls Tryd.prog 3 #[.int .i64 n, .int .i64 long, .slice A raw.length c] w fun e w' => e = .returned (.bool true) ∧ Below w.heap.size w w' := by
  unfold maxLen at hl
  have hor : 200 < long ∨ (¬ 200 < long ∧ (100 : Int) < (raw.length : Int)) := by omega
  clear h
  rcases hor with h1 | ⟨h1, h2⟩
  all_goals
    go_enter Tryd.func3, Tryd.ntmps3
    go_wp2_with fail
    refine (pawake_any w hT).mono ?_
    rintro e w1 ⟨rfl, hb⟩
    go_wp2
    go_ret
    exact ⟨rfl, hb⟩
theorem pmake_late (n long : Int) (raw : List Int) (A : Option Addr) (c : Nat) (w : World) (hT : Tabs Tryd.prog w) (hr : Reads w w.heap.size 1 A raw.length (i64s raw)) (hin : ∀ x ∈ raw, In64 x) (hn : In64 n) (hlong : long ≤ 200) (hl : raw.length ≤ 100) :
    Calls Tryd.prog 3 #[.int .i64 n, .int .i64 long, .slice A raw.length c] w fun e w' => e = .returned (.bool true) ∧ Below w.heap.size w w' := by
  have h1 : ¬ 200 < long := by omega
  have h2 : ¬ (100 : Int) < (raw.length : Int) := by omega
  have hK : long.toNat ≤ 200 := by omega
  have HIN := Lib.hid hin
  have HRD := Lib.hid (roundN_in (n := n) (k := long.toNat) hn (by omega))
  have hlr := roundN_length n long.toNat
  have HLR := Lib.hid hlr
  clear hin hlr
  go_enter Tryd.func3, Tryd.ntmps3
  go_wp2_with fail
  refine (pawake_any w hT).mono ?_
  rintro e w1 ⟨rfl, b1⟩
  have HR1 := Lib.hid (hr.up b1)
  clear hr
  go_wp2_with fail
  refine (round_any n long _ hn (by omega)).mono ?_
  rintro e w2 ⟨v2, rfl, hm2⟩
  obtain ⟨A2, c2, rfl, r2⟩ := mine_form hm2 HLR.out
  have b2 := sub_trans b1 hm2.below
  have HR2 := Lib.hid (HR1.out.up hm2.below)
  clear hm2 b1 HR1
  go_wp2_with fail
  refine (rround_any n long _ hn (by omega)).mono ?_
  rintro e w3 ⟨v3, rfl, hm3⟩
  obtain ⟨A3, c3, rfl, r3⟩ := mine_form hm3 HLR.out
  have b3 := sub_trans b2 hm3.below
  have HR3 := Lib.hid (HR2.out.up hm3.below)
  have HS := Lib.hid (And.intro (r2.up hm3.below) r3)
  clear hm3 b2 HR2 r2 r3
  go_wp2_with fail
  refine (same7_any (roundN n long.toNat) (roundN n long.toNat) _ _ _ _ _ _ _ _ HS.out.1 HS.out.2 (by omega) (by omega) (smallN HRD.out) (smallN HRD.out)).mono ?_
  rintro e w4 ⟨rfl, b4⟩
  rw [show decide (roundN n long.toNat = roundN n long.toNat) = true by simp]
  have b5 := sub_trans b3 b4
  have HR4 := Lib.hid (HR3.out.up b4)
  clear b3 b4 HR3 HS
  by_cases hnn : 1 ≤ n ∧ n ≤ 32
  · obtain ⟨k, rfl⟩ : ∃ k : Nat, n = (k : Int) := ⟨n.toNat, by omega⟩
    have hk1 : 1 ≤ k := by omega
    have hk2 : k ≤ 32 := by omega
    have hwl := weaveN_length k raw long.toNat
    have HWL := Lib.hid hwl
    have HWI : Hid (∀ x ∈ (weaveN k raw long.toNat).1, In64 x) := Lib.hid (fun x hx => by have := weaveN_in k hk1 raw long.toNat x hx; unfold In64; omega)
    clear hwl
    go_wp2_with fail
    refine (weave_any k long raw A c _ HR4.out HIN.out hk1 hk2 (by omega) (by omega)).mono ?_
    rintro e w5 ⟨v5, rfl, hm5⟩
    obtain ⟨A5, c5, rfl, r5⟩ := mine_form hm5 HWL.out
    have b6 := sub_trans b5 hm5.below
    have HR5 := Lib.hid (HR4.out.up hm5.below)
    clear hm5 b5 HR4
    go_wp2_with fail
    refine (rweave_any k long raw A c _ HR5.out HIN.out hk1 hk2 (by omega) (by omega)).mono ?_
    rintro e w6 ⟨v6, rfl, hm6⟩
    obtain ⟨A6, c6, rfl, r6⟩ := mine_form hm6 HWL.out
    have b7 := sub_trans b6 hm6.below
    have HS := Lib.hid (And.intro (r5.up hm6.below) r6)
    clear hm6 b6 HR5 r5 r6
    go_wp2_with fail
    refine (same7_any (weaveN k raw long.toNat).1 (weaveN k raw long.toNat).1 _ _ _ _ _ _ _ _ HS.out.1 HS.out.2 (by omega) (by omega) (smallN HWI.out) (smallN HWI.out)).mono ?_
    rintro e w7 ⟨rfl, b8⟩
    rw [show decide ((weaveN k raw long.toNat).1 = (weaveN k raw long.toNat).1) = true by simp]
    have b9 := sub_trans b7 b8
    clear b7 b8 HS
    go_wp2
    go_ret
    exact ⟨by first | rfl | simp, b9⟩
  · have hor : n < 1 ∨ 32 < n := by omega
    have hs0 : Small [] := smallN (fun x hx => by cases hx)
    have HOR := Lib.hid (And.intro hor hs0)
    clear hnn hor hs0
    go_wp2_with fail
    refine (weave_no n long raw A c _ (by omega) HOR.out.1).mono ?_
    rintro e w5 ⟨rfl, rfl⟩
    go_wp2_with fail
    refine (rweave_no n long raw A c _ (by omega) HOR.out.1).mono ?_
    rintro e w6 ⟨rfl, rfl⟩
    go_wp2_with fail
    refine (same7_any [] [] none none 0 0 0 0 0 _ Reads.none_ Reads.none_ (by decide) (by decide) HOR.out.2 HOR.out.2).mono ?_
    rintro e w7 ⟨rfl, b8⟩
    rw [show decide (([] : List Int) = []) = true by simp]
    have b9 := sub_trans b5 b8
    clear b8
    go_wp2
    go_ret
    exact ⟨by first | rfl | simp, b9⟩
theorem small_in {l : List Int} (h : Small l) : ∀ x ∈ l, In64 x := fun x hx => by
  obtain ⟨k, hk, rfl⟩ := List.getElem_of_mem hx
  exact h k hk
theorem picksMake_walk (n long : Int) (raw : List Int) (A : Option Addr) (c : Nat) (w : World) (hT : Tabs Tryd.prog w) (hn : In64 n) (hlong : In64 long) (hr : Reads w w.heap.size 1 A raw.length (i64s raw)) (hin : Small raw) (hl : raw.length ≤ maxLen ∧ raw.length ≤ c) :
    Calls Tryd.prog 3 #[.int .i64 n, .int .i64 long, .slice A raw.length c] w fun e w' => e = .returned (.bool true) ∧ Below w.heap.size w w' := by
  by_cases h : 200 < long ∨ 100 < raw.length
  · exact pmake_early n long raw A c w hT hl.1 h
  · exact pmake_late n long raw A c w hT hr (small_in hin) hn (by omega) (by omega)
end Go.Proofs.YtenjhklkljeijaaDoor
