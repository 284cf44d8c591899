/-
  PolicyTells walked (chapter 12). Condition: strconv's table lies in memory.
-/
import Derived.Test.YteljecehppeamaaDoorPolTextW
import Derived.Test.YteljecehppeamaaDoorPolTextR
namespace Go.Fw
open Go.RowKit
theorem decB_10 : Lib.itoa 10 = [49, 48] := by
  unfold Lib.itoa
  rw [if_neg (by decide), show (10 : Int).toNat = 10 from rfl, Lib.decDigits, dif_neg (by decide), Lib.decDigits_one (by decide)]
  rfl
theorem decB_100 : Lib.itoa 100 = [49, 48, 48] := by
  unfold Lib.itoa
  rw [if_neg (by decide), show (100 : Int).toNat = 100 from rfl, Lib.decDigits, dif_neg (by decide), Lib.decDigits, dif_neg (by decide), Lib.decDigits_one (by decide)]
  rfl
theorem itoa_one {n : Nat} (h : n < 10) : Lib.itoa (n : Int) = [UInt8.ofNat (48 + n)] := by
  unfold Lib.itoa
  rw [if_neg (by omega), Int.toNat_natCast, Lib.decDigits_one h]
theorem pol_usual : polB 1 10 100 100 5 3 = ⟨#[109, 105, 110, 32, 49, 32, 109, 97, 120, 32, 49, 48, 32, 116, 97, 114, 103, 101, 116, 32, 49, 48, 48, 32, 116, 111, 108, 101, 114, 97, 110, 99, 101, 32, 49, 48, 48, 32, 119, 105, 110, 100, 111, 119, 32, 53, 32, 104, 111, 108, 100, 32, 51]⟩ := by
  have e1 : Lib.itoa 1 = [49] := itoa_one (n := 1) (by decide)
  have e5 : Lib.itoa 5 = [53] := itoa_one (n := 5) (by decide)
  have e3 : Lib.itoa 3 = [51] := itoa_one (n := 3) (by decide)
  unfold polB polT polWords
  rw [decB_10, decB_100, e1, e5, e3]
  rfl
theorem in6_usual : In6 1 10 100 100 5 3 := by
  unfold In6 In64
  omega
end Go.Fw
namespace Go.Proofs.YteljecehppeamaaDoor
open Go.RowKit Go.Fw Go.Shelf
set_option maxHeartbeats 2000000
set_option maxRecDepth 100000
set_option linter.unusedVariables false
set_option linter.unusedSimpArgs false
theorem pol_awake (w : World) (hT : Pow w) : Calls Tryd.prog 8 #[] w fun x w' => x = .returned (.bool true) ∧ Below w.heap.size w w' := by
  go_enter Tryd.func8, Tryd.ntmps8
  go_wp2_with fail
  refine (usual_any w).mono ?_
  rintro x w1 ⟨rfl, b1⟩
  go_wp2_with fail
  refine (poltext_any 1 10 100 100 5 3 in6_usual _ (pow_up hT b1)).mono ?_
  rintro x w2 ⟨rfl, hb2⟩
  rw [pol_usual]
  have b2 := sub_trans b1 hb2
  clear b1 hb2
  go_wp2_with fail
  refine (check_bad 0 0 0 0 0 0 _ (by decide)).mono ?_
  rintro x w3 ⟨rfl, hb3⟩
  have b3 := sub_trans b2 hb3
  go_wp2
  go_ret
  exact ⟨by first | rfl | simp, b3⟩
theorem has_any (a b c d e f n : Int) (w : World) :
    Calls Tryd.prog 11 #[.agg #[.int .i64 a, .int .i64 b, .int .i64 c, .int .i64 d, .int .i64 e, .int .i64 f], .int .i64 n] w fun x w' => x = .returned (.bool (decide (RightP a b c d e f ∧ a ≤ n ∧ n ≤ b))) ∧ Below w.heap.size w w' := by
  by_cases hR : RightP a b c d e f
  · by_cases h1 : a ≤ n
    · have hx : decide (RightP a b c d e f ∧ a ≤ n ∧ n ≤ b) = decide (n ≤ b) := by simp [hR, h1]
      rw [hx]
      have HR := Lib.hid hR
      clear hR hx
      go_enter Tryd.func11, Tryd.ntmps11
      go_wp2_with fail
      refine (check_ok a b c d e f _ HR.out).mono ?_
      rintro x w1 ⟨rfl, hb1⟩
      have hb := sub_trans (sub_alloc (Below.refl _ w) (.cells #[.int .i64 a, .int .i64 b, .int .i64 c, .int .i64 d, .int .i64 e, .int .i64 f] 23)) hb1
      have hc0 : w1.cell? ⟨w.heap.size, 0, none⟩ = some (.int .i64 a) := (World.cell?_of_block (hb1.block _ (by simp))).trans (by simp)
      have hc1 : w1.cell? ⟨w.heap.size, 1, none⟩ = some (.int .i64 b) := (World.cell?_of_block (hb1.block _ (by simp))).trans (by simp)
      clear hb1
      go_wp2
      go_ret
      exact ⟨by first | rfl | (simp; done) | (simp; omega), hb⟩
    · have hx : decide (RightP a b c d e f ∧ a ≤ n ∧ n ≤ b) = false := by simp [h1]
      rw [hx]
      have HR := Lib.hid hR
      clear hR hx
      go_enter Tryd.func11, Tryd.ntmps11
      go_wp2_with fail
      refine (check_ok a b c d e f _ HR.out).mono ?_
      rintro x w1 ⟨rfl, hb1⟩
      have hb := sub_trans (sub_alloc (Below.refl _ w) (.cells #[.int .i64 a, .int .i64 b, .int .i64 c, .int .i64 d, .int .i64 e, .int .i64 f] 23)) hb1
      have hc0 : w1.cell? ⟨w.heap.size, 0, none⟩ = some (.int .i64 a) := (World.cell?_of_block (hb1.block _ (by simp))).trans (by simp)
      clear hb1
      go_wp2
      go_ret
      exact ⟨by first | rfl | (simp; done) | (simp; omega), hb⟩
  · have hx : decide (RightP a b c d e f ∧ a ≤ n ∧ n ≤ b) = false := by simp [hR]
    rw [hx]
    have HR := Lib.hid hR
    clear hR hx
    go_enter Tryd.func11, Tryd.ntmps11
    go_wp2_with fail
    refine (check_bad a b c d e f _ HR.out).mono ?_
    rintro x w1 ⟨rfl, hb1⟩
    have hb := sub_trans (sub_alloc (Below.refl _ w) (.cells #[.int .i64 a, .int .i64 b, .int .i64 c, .int .i64 d, .int .i64 e, .int .i64 f] 23)) hb1
    clear hb1
    go_wp2
    go_ret
    exact ⟨by first | rfl | (simp; done) | (simp; omega), hb⟩
end Go.Proofs.YteljecehppeamaaDoor
