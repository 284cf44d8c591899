/-
  Chapter 28's example. Condition: strconv's table and errors lie in memory.
-/
import Derived.Test.YtenjhklkljeijaaDoorPickParse
import Derived.Test.YtenjhklkljeijaaDoorPickWeaveR
import Derived.Test.YtenjhklkljeijaaDoorPickCount
import Derived.Test.YtenjhklkljeijaaDoorSame07
namespace Go.Proofs.YtenjhklkljeijaaDoor
open Go.RowKit Go.Fw Go.Shelf
set_option maxHeartbeats 2000000
set_option maxRecDepth 100000
set_option linter.unusedVariables false
set_option linter.unusedSimpArgs false
theorem parse_01 (w : World) (hT : Tabs Tryd.prog w) : Calls Tryd.prog 18 #[.string ⟨#[48, 49]⟩] w fun e w' => e = .returned (.tuple #[.slice none 0 0, .bool false]) ∧ Below w.heap.size w w' := by
  have hw : wordsB 32 ⟨#[48, 49]⟩ = [⟨#[48, 49]⟩] := by decide
  have hd : decB 1 = ⟨#[49]⟩ := by
    unfold decB Lib.itoa
    rw [if_neg (by decide), show (1 : Int).toNat = 1 from rfl, Lib.decDigits_one (by decide)]
    rfl
  have hr : readW ⟨#[48, 49]⟩ = none := readW_other (n := 1) (by rfl) (by rw [hd]; decide)
  refine (parse_any ⟨#[48, 49]⟩ (by decide) w hT).mono fun e w' h => ?_
  rcases h with ⟨v, ns, he, h, hm⟩ | ⟨he, _, hb⟩
  · rcases h with ⟨h0, _⟩ | ⟨_, hg, _⟩
    · exact absurd h0 (by decide)
    · exact absurd hr (hg _ (by rw [hw]; simp))
  · exact ⟨he, hb⟩
theorem smallN {l : List Int} (h : ∀ x ∈ l, In64 x) : Small l := small_of fun x hx => h x hx
theorem pawake_any (w : World) (hT : Tabs Tryd.prog w) : Calls Tryd.prog 7 #[] w fun e w' => e = .returned (.bool true) ∧ Below w.heap.size w w' := by
  have hwv : (weaveN 2 [1] 4).1 = [1, 0, 1, 0] := by decide
  have hgp : (max (gapN 2 1 [0, 1, 0]).1 ((gapN 2 1 [0, 1, 0]).2 + 1) : Nat) = 2 := by decide
  have HW := Lib.hid (And.intro hwv hgp)
  clear hwv hgp
  go_enter Tryd.func7, Tryd.ntmps7
  go_wp2_with fail
  refine (parse_01 w hT).mono ?_
  rintro e w1 ⟨rfl, b1⟩
  have hr1 : Reads (w1.alloc (.cells #[.int .i64 1] 3)) (w1.alloc (.cells #[.int .i64 1] 3)).heap.size 1 (some ⟨w1.heap.size, 0, none⟩) [(1 : Int)].length (i64s [1]) := reads_new_at w1 3 #[.int .i64 1] 1 _ _ rfl rfl (by simp)
  have HR1 := Lib.hid hr1
  have b2 := sub_alloc b1 (.cells #[.int .i64 1] 3)
  clear hr1 b1
  go_wp2_with fail
  refine (weave_any 2 4 [1] (some ⟨w1.heap.size, 0, none⟩) 1 _ HR1.out (by intro x hx; rw [List.mem_singleton.1 hx]; unfold In64; omega) (by decide) (by decide) (by decide) (by decide)).mono ?_
  rintro e w2 ⟨v2, rfl, hm2⟩
  rw [show (4 : Int).toNat = 4 from rfl, HW.out.1] at hm2
  have b3 := sub_trans b2 hm2.below
  obtain ⟨A2, c2, rfl, _, _⟩ := own_form hm2.own
  have r2 := (Reads.of_own hm2.own).up (sub_alloc (Below.refl _ w2) (.cells #[.int .i64 1, .int .i64 0, .int .i64 1, .int .i64 0] 3))
  have r3 : Reads (w2.alloc (.cells #[.int .i64 1, .int .i64 0, .int .i64 1, .int .i64 0] 3)) (w2.alloc (.cells #[.int .i64 1, .int .i64 0, .int .i64 1, .int .i64 0] 3)).heap.size 1 (some ⟨w2.heap.size, 0, none⟩) 4 (i64s [1, 0, 1, 0]) := reads_new_at w2 3 _ 4 _ _ rfl rfl (by simp)
  have b4 := sub_alloc b3 (.cells #[.int .i64 1, .int .i64 0, .int .i64 1, .int .i64 0] 3)
  have HR := Lib.hid (And.intro r2 r3)
  clear hm2 b2 b3 r2 r3 HR1
  go_wp2_with fail
  refine (same7_any [1, 0, 1, 0] [1, 0, 1, 0] _ _ _ _ 4 4 _ _ HR.out.1 HR.out.2 (by decide) (by decide) (smallN (by intro x hx; simp at hx; unfold In64; omega)) (smallN (by intro x hx; simp at hx; unfold In64; omega))).mono ?_
  rintro e w3 ⟨rfl, b5⟩
  have b6 := sub_trans b4 b5
  rw [show decide (([1, 0, 1, 0] : List Int) = [1, 0, 1, 0]) = true by decide]
  have r4 : Reads (w3.alloc (.cells #[.int .i64 0, .int .i64 1, .int .i64 0] 3)) (w3.alloc (.cells #[.int .i64 0, .int .i64 1, .int .i64 0] 3)).heap.size 1 (some ⟨w3.heap.size, 0, none⟩) [(0 : Int), 1, 0].length (i64s [0, 1, 0]) := reads_new_at w3 3 _ 3 _ _ rfl rfl (by simp)
  have HR4 := Lib.hid r4
  have b7 := sub_alloc b6 (.cells #[.int .i64 0, .int .i64 1, .int .i64 0] 3)
  clear b4 b5 b6 r4 HR
  go_wp2_with fail
  refine (gap_any 2 1 [0, 1, 0] (some ⟨w3.heap.size, 0, none⟩) 3 _ HR4.out (by intro x hx; simp at hx; unfold In64; omega) (by unfold In64; omega) (by decide)).mono ?_
  rintro e w4 ⟨rfl, rfl⟩
  rw [HW.out.2]
  go_wp2
  go_ret
  exact ⟨by first | rfl | simp, b7⟩
end Go.Proofs.YtenjhklkljeijaaDoor
