/-
  4 texts of this claim, joined; each says itself what it proves. Condition: as each text says.
-/
import Derived.Test.YteljecehppeamaaGreatDoorJ05
import Derived.Test.YteljecehppeamaaGreatDoorJ02
import Derived.Test.YteljecehppeamaaGreatDoorJ03
import Derived.SliceStrings
import Derived.Shelf.Strings.OnBuilder
/-
  policy.Text, walked (chapter 12). Condition: strconv's table lies in memory.
-/
namespace Go.Proofs.YteljecehppeamaaGreatDoor
open Go.RowKit Go.Fw Go.Shelf
set_option maxHeartbeats 2000000
set_option maxRecDepth 100000
set_option linter.unusedVariables false
set_option linter.unusedSimpArgs false
theorem poltext_any (a b c d e f : Int) (h6 : In6 a b c d e f) (w : World) (hT : Pow w) :
    Calls Tryz.prog 41 #[.agg #[.int .i64 a, .int .i64 b, .int .i64 c, .int .i64 d, .int .i64 e, .int .i64 f]] w fun x w' => x = .returned (.string (polB a b c d e f)) ∧ Below w.heap.size w w' := by
  have HT := Lib.hid hT
  have H6 := Lib.hid h6
  have HLEN : Hid (∀ k, (polK a b c d e f k).length ≤ 300) := Lib.hid (polK_len h6)
  clear hT h6
  go_enter Tryz.func41, Tryz.ntmps41
  go_wp2_with fail
  refine (numbers_any a b c d e f _).mono ?_
  rintro x w1 ⟨rfl, hb1⟩
  have h0 : Below w.heap.size w w1 := sub_trans (sub_alloc (sub_alloc (Below.refl _ w) _) _) hb1
  have hbld : Bld w1 (w.heap.size + 1) (polK a b c d e f 0) := by
    refine BAt.later ?_ hb1
    rw [polK_0]
    exact BAt.new_ _ _ _ (by simp)
  clear hb1
  go_wp2
  go_loopw [8] (fun i wr => ∃ k : Nat, k ≤ 6 ∧ i = .int .i64 k ∧ Bld wr (w.heap.size + 1) (polK a b c d e f k) ∧ Below w.heap.size w wr)
    (fun i _ => 6 - (intOf i).toNat)
  case atStart => exact ⟨0, Nat.zero_le _, rfl, hbld, h0⟩
  case round =>
    clear hbld h0
    obtain ⟨k, hk, rfl, hB, hbel⟩ := hrel
    have hor : k = 0 ∨ k = 1 ∨ k = 2 ∨ k = 3 ∨ k = 4 ∨ k = 5 ∨ k = 6 := by omega
    clear hk
    rcases hor with rfl | rfl | rfl | rfl | rfl | rfl | rfl
    · have hi1 : ∀ W, (Instr.index 96 (.agg #[.int .i64 a, .int .i64 b, .int .i64 c, .int .i64 d, .int .i64 e, .int .i64 f]) (.int .i64 0)).run Tryz.prog W = .ok (.int .i64 a) W := fun W => idx_num _ _ 0 W (by decide) rfl
      have hi2 : ∀ W, (Instr.index 98 (.agg #[.string ⟨#[109, 105, 110]⟩, .string ⟨#[109, 97, 120]⟩, .string ⟨#[116, 97, 114, 103, 101, 116]⟩, .string ⟨#[116, 111, 108, 101, 114, 97, 110, 99, 101]⟩, .string ⟨#[119, 105, 110, 100, 111, 119]⟩, .string ⟨#[104, 111, 108, 100]⟩]) (.int .i64 0)).run Tryz.prog W = .ok (.string ⟨#[109, 105, 110]⟩) W := fun W => idx_name _ _ 0 W (by decide) rfl
      have h2 := hB
      have b2 := hbel
      clear hB hbel
      go_wp2_with fail
      refine (names_any wr).mono ?_
      rintro x w3 ⟨rfl, hb3⟩
      have hb := bwstr_any (w.heap.size + 1) _ ⟨#[109, 105, 110]⟩ w3 (h2.later hb3) (by have := HLEN.out 0; omega) (by decide)
      have b3 := sub_trans b2 hb3
      have HW := Lib.hid hb
      clear hb hb3 h2 b2
      go_wp2_with fail
      refine HW.out.mono ?_
      rintro x w4 ⟨rfl, h4, hb4⟩
      have b4 : Below w.heap.size w w4 := b3.trans (hb4.mono (Nat.le_succ _))
      clear HW hb4 b3
      have hb := bwbyte_any (w.heap.size + 1) _ 32 w4 h4 (by have := HLEN.out 0; simp; omega)
      have HW := Lib.hid hb
      clear hb h4
      go_wp2_with fail
      refine HW.out.mono ?_
      rintro x w5 ⟨rfl, h5, hb5⟩
      have b5 : Below w.heap.size w w5 := b4.trans (hb5.mono (Nat.le_succ _))
      clear HW hb5 b4
      have HF := Lib.hid (fmt_any a H6.out.1 w5 (pow_up HT.out b5))
      have HB5 := Lib.hid h5
      clear h5
      go_wp2_with fail
      refine HF.out.mono ?_
      rintro x w6 ⟨rfl, hb6⟩
      have HD := Lib.hid (decB_size H6.out.1.1 H6.out.1.2)
      have hb := bwstr_any (w.heap.size + 1) _ (decB a) w6 (HB5.out.later hb6) (by have := HLEN.out 0; simp; omega) (by have := HD.out; omega)
      have b6 := sub_trans b5 hb6
      have HW := Lib.hid hb
      clear hb hb6 HB5 HF b5
      go_wp2_with fail
      refine HW.out.mono ?_
      rintro x w7 ⟨rfl, h7, hb7⟩
      have b7 : Below w.heap.size w w7 := b6.trans (hb7.mono (Nat.le_succ _))
      have h8 : Bld w7 (w.heap.size + 1) (polK a b c d e f 1) := by
        rw [polK_1, ← decB_list]
        exact h7
      have H8 := Lib.hid h8
      clear h8 h7 hb7 b6 HW
      go_wp2
      go_roundw
      case rel => exact ⟨1, by omega, by go_num, H8.out, b7⟩
      case measure => simp [intOf]
    · have hi1 : ∀ W, (Instr.index 96 (.agg #[.int .i64 a, .int .i64 b, .int .i64 c, .int .i64 d, .int .i64 e, .int .i64 f]) (.int .i64 1)).run Tryz.prog W = .ok (.int .i64 b) W := fun W => idx_num _ _ 1 W (by decide) rfl
      have hi2 : ∀ W, (Instr.index 98 (.agg #[.string ⟨#[109, 105, 110]⟩, .string ⟨#[109, 97, 120]⟩, .string ⟨#[116, 97, 114, 103, 101, 116]⟩, .string ⟨#[116, 111, 108, 101, 114, 97, 110, 99, 101]⟩, .string ⟨#[119, 105, 110, 100, 111, 119]⟩, .string ⟨#[104, 111, 108, 100]⟩]) (.int .i64 1)).run Tryz.prog W = .ok (.string ⟨#[109, 97, 120]⟩) W := fun W => idx_name _ _ 1 W (by decide) rfl
      have hb := bwbyte_any (w.heap.size + 1) _ 32 wr hB (by have := HLEN.out 1; omega)
      have HW := Lib.hid hb
      clear hb
      go_wp2_with fail
      refine HW.out.mono ?_
      rintro x w2 ⟨rfl, h2, hb2⟩
      have b2 : Below w.heap.size w w2 := hbel.trans (hb2.mono (Nat.le_succ _))
      clear hb2 HW hB hbel
      go_wp2_with fail
      refine (names_any w2).mono ?_
      rintro x w3 ⟨rfl, hb3⟩
      have hb := bwstr_any (w.heap.size + 1) _ ⟨#[109, 97, 120]⟩ w3 (h2.later hb3) (by have := HLEN.out 1; simp; omega) (by decide)
      have b3 := sub_trans b2 hb3
      have HW := Lib.hid hb
      clear hb hb3 h2 b2
      go_wp2_with fail
      refine HW.out.mono ?_
      rintro x w4 ⟨rfl, h4, hb4⟩
      have b4 : Below w.heap.size w w4 := b3.trans (hb4.mono (Nat.le_succ _))
      clear HW hb4 b3
      have hb := bwbyte_any (w.heap.size + 1) _ 32 w4 h4 (by have := HLEN.out 1; simp; omega)
      have HW := Lib.hid hb
      clear hb h4
      go_wp2_with fail
      refine HW.out.mono ?_
      rintro x w5 ⟨rfl, h5, hb5⟩
      have b5 : Below w.heap.size w w5 := b4.trans (hb5.mono (Nat.le_succ _))
      clear HW hb5 b4
      have HF := Lib.hid (fmt_any b H6.out.2.1 w5 (pow_up HT.out b5))
      have HB5 := Lib.hid h5
      clear h5
      go_wp2_with fail
      refine HF.out.mono ?_
      rintro x w6 ⟨rfl, hb6⟩
      have HD := Lib.hid (decB_size H6.out.2.1.1 H6.out.2.1.2)
      have hb := bwstr_any (w.heap.size + 1) _ (decB b) w6 (HB5.out.later hb6) (by have := HLEN.out 1; simp; omega) (by have := HD.out; omega)
      have b6 := sub_trans b5 hb6
      have HW := Lib.hid hb
      clear hb hb6 HB5 HF b5
      go_wp2_with fail
      refine HW.out.mono ?_
      rintro x w7 ⟨rfl, h7, hb7⟩
      have b7 : Below w.heap.size w w7 := b6.trans (hb7.mono (Nat.le_succ _))
      have h8 : Bld w7 (w.heap.size + 1) (polK a b c d e f 2) := by
        rw [polK_2, ← decB_list]
        exact h7
      have H8 := Lib.hid h8
      clear h8 h7 hb7 b6 HW
      go_wp2
      go_roundw
      case rel => exact ⟨2, by omega, by go_num, H8.out, b7⟩
      case measure => simp [intOf]
    · have hi1 : ∀ W, (Instr.index 96 (.agg #[.int .i64 a, .int .i64 b, .int .i64 c, .int .i64 d, .int .i64 e, .int .i64 f]) (.int .i64 2)).run Tryz.prog W = .ok (.int .i64 c) W := fun W => idx_num _ _ 2 W (by decide) rfl
      have hi2 : ∀ W, (Instr.index 98 (.agg #[.string ⟨#[109, 105, 110]⟩, .string ⟨#[109, 97, 120]⟩, .string ⟨#[116, 97, 114, 103, 101, 116]⟩, .string ⟨#[116, 111, 108, 101, 114, 97, 110, 99, 101]⟩, .string ⟨#[119, 105, 110, 100, 111, 119]⟩, .string ⟨#[104, 111, 108, 100]⟩]) (.int .i64 2)).run Tryz.prog W = .ok (.string ⟨#[116, 97, 114, 103, 101, 116]⟩) W := fun W => idx_name _ _ 2 W (by decide) rfl
      have hb := bwbyte_any (w.heap.size + 1) _ 32 wr hB (by have := HLEN.out 2; omega)
      have HW := Lib.hid hb
      clear hb
      go_wp2_with fail
      refine HW.out.mono ?_
      rintro x w2 ⟨rfl, h2, hb2⟩
      have b2 : Below w.heap.size w w2 := hbel.trans (hb2.mono (Nat.le_succ _))
      clear hb2 HW hB hbel
      go_wp2_with fail
      refine (names_any w2).mono ?_
      rintro x w3 ⟨rfl, hb3⟩
      have hb := bwstr_any (w.heap.size + 1) _ ⟨#[116, 97, 114, 103, 101, 116]⟩ w3 (h2.later hb3) (by have := HLEN.out 2; simp; omega) (by decide)
      have b3 := sub_trans b2 hb3
      have HW := Lib.hid hb
      clear hb hb3 h2 b2
      go_wp2_with fail
      refine HW.out.mono ?_
      rintro x w4 ⟨rfl, h4, hb4⟩
      have b4 : Below w.heap.size w w4 := b3.trans (hb4.mono (Nat.le_succ _))
      clear HW hb4 b3
      have hb := bwbyte_any (w.heap.size + 1) _ 32 w4 h4 (by have := HLEN.out 2; simp; omega)
      have HW := Lib.hid hb
      clear hb h4
      go_wp2_with fail
      refine HW.out.mono ?_
      rintro x w5 ⟨rfl, h5, hb5⟩
      have b5 : Below w.heap.size w w5 := b4.trans (hb5.mono (Nat.le_succ _))
      clear HW hb5 b4
      have HF := Lib.hid (fmt_any c H6.out.2.2.1 w5 (pow_up HT.out b5))
      have HB5 := Lib.hid h5
      clear h5
      go_wp2_with fail
      refine HF.out.mono ?_
      rintro x w6 ⟨rfl, hb6⟩
      have HD := Lib.hid (decB_size H6.out.2.2.1.1 H6.out.2.2.1.2)
      have hb := bwstr_any (w.heap.size + 1) _ (decB c) w6 (HB5.out.later hb6) (by have := HLEN.out 2; simp; omega) (by have := HD.out; omega)
      have b6 := sub_trans b5 hb6
      have HW := Lib.hid hb
      clear hb hb6 HB5 HF b5
      go_wp2_with fail
      refine HW.out.mono ?_
      rintro x w7 ⟨rfl, h7, hb7⟩
      have b7 : Below w.heap.size w w7 := b6.trans (hb7.mono (Nat.le_succ _))
      have h8 : Bld w7 (w.heap.size + 1) (polK a b c d e f 3) := by
        rw [polK_3, ← decB_list]
        exact h7
      have H8 := Lib.hid h8
      clear h8 h7 hb7 b6 HW
      go_wp2
      go_roundw
      case rel => exact ⟨3, by omega, by go_num, H8.out, b7⟩
      case measure => simp [intOf]
    · have hi1 : ∀ W, (Instr.index 96 (.agg #[.int .i64 a, .int .i64 b, .int .i64 c, .int .i64 d, .int .i64 e, .int .i64 f]) (.int .i64 3)).run Tryz.prog W = .ok (.int .i64 d) W := fun W => idx_num _ _ 3 W (by decide) rfl
      have hi2 : ∀ W, (Instr.index 98 (.agg #[.string ⟨#[109, 105, 110]⟩, .string ⟨#[109, 97, 120]⟩, .string ⟨#[116, 97, 114, 103, 101, 116]⟩, .string ⟨#[116, 111, 108, 101, 114, 97, 110, 99, 101]⟩, .string ⟨#[119, 105, 110, 100, 111, 119]⟩, .string ⟨#[104, 111, 108, 100]⟩]) (.int .i64 3)).run Tryz.prog W = .ok (.string ⟨#[116, 111, 108, 101, 114, 97, 110, 99, 101]⟩) W := fun W => idx_name _ _ 3 W (by decide) rfl
      have hb := bwbyte_any (w.heap.size + 1) _ 32 wr hB (by have := HLEN.out 3; omega)
      have HW := Lib.hid hb
      clear hb
      go_wp2_with fail
      refine HW.out.mono ?_
      rintro x w2 ⟨rfl, h2, hb2⟩
      have b2 : Below w.heap.size w w2 := hbel.trans (hb2.mono (Nat.le_succ _))
      clear hb2 HW hB hbel
      go_wp2_with fail
      refine (names_any w2).mono ?_
      rintro x w3 ⟨rfl, hb3⟩
      have hb := bwstr_any (w.heap.size + 1) _ ⟨#[116, 111, 108, 101, 114, 97, 110, 99, 101]⟩ w3 (h2.later hb3) (by have := HLEN.out 3; simp; omega) (by decide)
      have b3 := sub_trans b2 hb3
      have HW := Lib.hid hb
      clear hb hb3 h2 b2
      go_wp2_with fail
      refine HW.out.mono ?_
      rintro x w4 ⟨rfl, h4, hb4⟩
      have b4 : Below w.heap.size w w4 := b3.trans (hb4.mono (Nat.le_succ _))
      clear HW hb4 b3
      have hb := bwbyte_any (w.heap.size + 1) _ 32 w4 h4 (by have := HLEN.out 3; simp; omega)
      have HW := Lib.hid hb
      clear hb h4
      go_wp2_with fail
      refine HW.out.mono ?_
      rintro x w5 ⟨rfl, h5, hb5⟩
      have b5 : Below w.heap.size w w5 := b4.trans (hb5.mono (Nat.le_succ _))
      clear HW hb5 b4
      have HF := Lib.hid (fmt_any d H6.out.2.2.2.1 w5 (pow_up HT.out b5))
      have HB5 := Lib.hid h5
      clear h5
      go_wp2_with fail
      refine HF.out.mono ?_
      rintro x w6 ⟨rfl, hb6⟩
      have HD := Lib.hid (decB_size H6.out.2.2.2.1.1 H6.out.2.2.2.1.2)
      have hb := bwstr_any (w.heap.size + 1) _ (decB d) w6 (HB5.out.later hb6) (by have := HLEN.out 3; simp; omega) (by have := HD.out; omega)
      have b6 := sub_trans b5 hb6
      have HW := Lib.hid hb
      clear hb hb6 HB5 HF b5
      go_wp2_with fail
      refine HW.out.mono ?_
      rintro x w7 ⟨rfl, h7, hb7⟩
      have b7 : Below w.heap.size w w7 := b6.trans (hb7.mono (Nat.le_succ _))
      have h8 : Bld w7 (w.heap.size + 1) (polK a b c d e f 4) := by
        rw [polK_4, ← decB_list]
        exact h7
      have H8 := Lib.hid h8
      clear h8 h7 hb7 b6 HW
      go_wp2
      go_roundw
      case rel => exact ⟨4, by omega, by go_num, H8.out, b7⟩
      case measure => simp [intOf]
    · have hi1 : ∀ W, (Instr.index 96 (.agg #[.int .i64 a, .int .i64 b, .int .i64 c, .int .i64 d, .int .i64 e, .int .i64 f]) (.int .i64 4)).run Tryz.prog W = .ok (.int .i64 e) W := fun W => idx_num _ _ 4 W (by decide) rfl
      have hi2 : ∀ W, (Instr.index 98 (.agg #[.string ⟨#[109, 105, 110]⟩, .string ⟨#[109, 97, 120]⟩, .string ⟨#[116, 97, 114, 103, 101, 116]⟩, .string ⟨#[116, 111, 108, 101, 114, 97, 110, 99, 101]⟩, .string ⟨#[119, 105, 110, 100, 111, 119]⟩, .string ⟨#[104, 111, 108, 100]⟩]) (.int .i64 4)).run Tryz.prog W = .ok (.string ⟨#[119, 105, 110, 100, 111, 119]⟩) W := fun W => idx_name _ _ 4 W (by decide) rfl
      have hb := bwbyte_any (w.heap.size + 1) _ 32 wr hB (by have := HLEN.out 4; omega)
      have HW := Lib.hid hb
      clear hb
      go_wp2_with fail
      refine HW.out.mono ?_
      rintro x w2 ⟨rfl, h2, hb2⟩
      have b2 : Below w.heap.size w w2 := hbel.trans (hb2.mono (Nat.le_succ _))
      clear hb2 HW hB hbel
      go_wp2_with fail
      refine (names_any w2).mono ?_
      rintro x w3 ⟨rfl, hb3⟩
      have hb := bwstr_any (w.heap.size + 1) _ ⟨#[119, 105, 110, 100, 111, 119]⟩ w3 (h2.later hb3) (by have := HLEN.out 4; simp; omega) (by decide)
      have b3 := sub_trans b2 hb3
      have HW := Lib.hid hb
      clear hb hb3 h2 b2
      go_wp2_with fail
      refine HW.out.mono ?_
      rintro x w4 ⟨rfl, h4, hb4⟩
      have b4 : Below w.heap.size w w4 := b3.trans (hb4.mono (Nat.le_succ _))
      clear HW hb4 b3
      have hb := bwbyte_any (w.heap.size + 1) _ 32 w4 h4 (by have := HLEN.out 4; simp; omega)
      have HW := Lib.hid hb
      clear hb h4
      go_wp2_with fail
      refine HW.out.mono ?_
      rintro x w5 ⟨rfl, h5, hb5⟩
      have b5 : Below w.heap.size w w5 := b4.trans (hb5.mono (Nat.le_succ _))
      clear HW hb5 b4
      have HF := Lib.hid (fmt_any e H6.out.2.2.2.2.1 w5 (pow_up HT.out b5))
      have HB5 := Lib.hid h5
      clear h5
      go_wp2_with fail
      refine HF.out.mono ?_
      rintro x w6 ⟨rfl, hb6⟩
      have HD := Lib.hid (decB_size H6.out.2.2.2.2.1.1 H6.out.2.2.2.2.1.2)
      have hb := bwstr_any (w.heap.size + 1) _ (decB e) w6 (HB5.out.later hb6) (by have := HLEN.out 4; simp; omega) (by have := HD.out; omega)
      have b6 := sub_trans b5 hb6
      have HW := Lib.hid hb
      clear hb hb6 HB5 HF b5
      go_wp2_with fail
      refine HW.out.mono ?_
      rintro x w7 ⟨rfl, h7, hb7⟩
      have b7 : Below w.heap.size w w7 := b6.trans (hb7.mono (Nat.le_succ _))
      have h8 : Bld w7 (w.heap.size + 1) (polK a b c d e f 5) := by
        rw [polK_5, ← decB_list]
        exact h7
      have H8 := Lib.hid h8
      clear h8 h7 hb7 b6 HW
      go_wp2
      go_roundw
      case rel => exact ⟨5, by omega, by go_num, H8.out, b7⟩
      case measure => simp [intOf]
    · have hi1 : ∀ W, (Instr.index 96 (.agg #[.int .i64 a, .int .i64 b, .int .i64 c, .int .i64 d, .int .i64 e, .int .i64 f]) (.int .i64 5)).run Tryz.prog W = .ok (.int .i64 f) W := fun W => idx_num _ _ 5 W (by decide) rfl
      have hi2 : ∀ W, (Instr.index 98 (.agg #[.string ⟨#[109, 105, 110]⟩, .string ⟨#[109, 97, 120]⟩, .string ⟨#[116, 97, 114, 103, 101, 116]⟩, .string ⟨#[116, 111, 108, 101, 114, 97, 110, 99, 101]⟩, .string ⟨#[119, 105, 110, 100, 111, 119]⟩, .string ⟨#[104, 111, 108, 100]⟩]) (.int .i64 5)).run Tryz.prog W = .ok (.string ⟨#[104, 111, 108, 100]⟩) W := fun W => idx_name _ _ 5 W (by decide) rfl
      have hb := bwbyte_any (w.heap.size + 1) _ 32 wr hB (by have := HLEN.out 5; omega)
      have HW := Lib.hid hb
      clear hb
      go_wp2_with fail
      refine HW.out.mono ?_
      rintro x w2 ⟨rfl, h2, hb2⟩
      have b2 : Below w.heap.size w w2 := hbel.trans (hb2.mono (Nat.le_succ _))
      clear hb2 HW hB hbel
      go_wp2_with fail
      refine (names_any w2).mono ?_
      rintro x w3 ⟨rfl, hb3⟩
      have hb := bwstr_any (w.heap.size + 1) _ ⟨#[104, 111, 108, 100]⟩ w3 (h2.later hb3) (by have := HLEN.out 5; simp; omega) (by decide)
      have b3 := sub_trans b2 hb3
      have HW := Lib.hid hb
      clear hb hb3 h2 b2
      go_wp2_with fail
      refine HW.out.mono ?_
      rintro x w4 ⟨rfl, h4, hb4⟩
      have b4 : Below w.heap.size w w4 := b3.trans (hb4.mono (Nat.le_succ _))
      clear HW hb4 b3
      have hb := bwbyte_any (w.heap.size + 1) _ 32 w4 h4 (by have := HLEN.out 5; simp; omega)
      have HW := Lib.hid hb
      clear hb h4
      go_wp2_with fail
      refine HW.out.mono ?_
      rintro x w5 ⟨rfl, h5, hb5⟩
      have b5 : Below w.heap.size w w5 := b4.trans (hb5.mono (Nat.le_succ _))
      clear HW hb5 b4
      have HF := Lib.hid (fmt_any f H6.out.2.2.2.2.2 w5 (pow_up HT.out b5))
      have HB5 := Lib.hid h5
      clear h5
      go_wp2_with fail
      refine HF.out.mono ?_
      rintro x w6 ⟨rfl, hb6⟩
      have HD := Lib.hid (decB_size H6.out.2.2.2.2.2.1 H6.out.2.2.2.2.2.2)
      have hb := bwstr_any (w.heap.size + 1) _ (decB f) w6 (HB5.out.later hb6) (by have := HLEN.out 5; simp; omega) (by have := HD.out; omega)
      have b6 := sub_trans b5 hb6
      have HW := Lib.hid hb
      clear hb hb6 HB5 HF b5
      go_wp2_with fail
      refine HW.out.mono ?_
      rintro x w7 ⟨rfl, h7, hb7⟩
      have b7 : Below w.heap.size w w7 := b6.trans (hb7.mono (Nat.le_succ _))
      have h8 : Bld w7 (w.heap.size + 1) (polK a b c d e f 6) := by
        rw [polK_all, polK_6, ← decB_list]
        exact h7
      have H8 := Lib.hid h8
      clear h8 h7 hb7 b6 HW
      go_wp2
      go_roundw
      case rel => exact ⟨6, by omega, by go_num, H8.out, b7⟩
      case measure => simp [intOf]
    · rw [polK_all] at hB
      have HW := Lib.hid (bstring_any (w.heap.size + 1) _ wr hB)
      clear hB
      go_wp2_with fail
      refine HW.out.mono ?_
      rintro x w2 ⟨rfl, _, hb2⟩
      go_wp2
      go_ret
      exact ⟨rfl, hbel.trans (hb2.mono (Nat.le_succ _))⟩
end Go.Proofs.YteljecehppeamaaGreatDoor
/-
  Appending, and where the new row lies. Condition: none.
-/
namespace Go.Fw
open Go.RowKit
set_option linter.unusedVariables false
/-- one element more; the row's block is the elder one or a new one -/
theorem wpList_append_oneN {P : Program} {s : Nat} {w : World} {ops : Array Oper} {rest : List Oper} {o : Oper} {a : Act} {Q : Exit → Act → World → Prop} {t e e' : TypeId} {z : Value} {bytes : Nat} (hT : ElemS P t e z s bytes) (hs0 : 0 < s)
    (hgd : o.guard = none) (sl x : Operand) (ho : o.op = .call { callee := .builtin .append, args := #[sl, x], argTypes := #[t, t] })
    {v : Value} {n B g : Nat} {xs : List Value} (hs : a.eval sl = v) (hm : w.ownsRow B e s v n xs) (hB : B ≤ w.heap.size) (hg : g = w.heap.size) {cs : Array Value} (hx : a.eval x = .slice (some ⟨g, 0, none⟩) 1 1) (hcs : cs.size = s) (h1 : ∀ u ∈ cs.toList, u.oneCell' = true)
    (hlen : (n + 1) * bytes ≤ 140737488355328) (hle : n + 1 ≤ maxLen)
    (h : ∀ v' w', w'.ownsRow B e s v' (n + 1) (xs ++ cs.toList) → w.grownBy w' v.ownBlock → (v'.ownBlock = v.ownBlock ∨ ∀ k, v'.ownBlock = some k → w.heap.size ≤ k) → wpList P ops Q rest (a.put o.dst v') w') :
    wpList P ops Q (o :: rest) a (w.alloc (.cells cs e')) := by
  subst hg
  obtain ⟨i, hi, hz, hsz, hby⟩ := info_parts hT.info
  refine wpList_append_any (w.alloc (.cells cs e')) hgd sl x t ho B e i z s bytes hT.under hi hz hsz hby hT.cells hs0 v n xs hs (hm.alloc _) _ _ 1 1 cs.toList hx (reads_newS w e' cs s 1 w.heap.size _ (by omega) rfl rfl) h1 hle hlen (by simp; omega) fun v' w' h2 h3 h4 => ?_
  have hg : w.grownBy w' v.ownBlock := ⟨h3.os, h3.tape, h3.output, Nat.le_trans (by simp) h3.size, fun k hk hne => (h3.block k (by simp; omega) hne).trans (Below.heap_alloc w _ k hk)⟩
  refine h v' w' h2 hg ?_
  rcases h4 with h4 | h4
  · exact .inl h4
  · refine .inr fun k hk => ?_
    rw [h4] at hk
    injection hk with hk
    simp at hk
    omega
end Go.Fw
/-
  Rows of strings, and an argument that is one. Condition: none.
-/
namespace Go.Fw
open Go.RowKit Go.WideShapes Go.ChangeShapes
set_option linter.unusedVariables false
def strs (l : List ByteArray) : List Value := l.map .string
@[simp] theorem strs_length (l : List ByteArray) : (strs l).length = l.length := by simp [strs]
theorem strs_one (l : List ByteArray) : ∀ u ∈ strs l, u.oneCell' = true := by
  intro u hu
  obtain ⟨x, _, rfl⟩ := List.mem_map.1 hu
  rfl
theorem strs_get {l : List ByteArray} {k : Nat} {u : Value} (h : (strs l)[k]? = some u) (hk : k < l.length) : .string l[k] = u := by
  unfold strs at h
  rw [List.getElem?_map, List.getElem?_eq_getElem hk] at h
  exact Option.some.inj h
theorem strs_set (l : List ByteArray) (k : Nat) (x : ByteArray) : (strs l).set k (.string x) = strs (l.set k x) := by simp [strs, List.map_set]
theorem strs_getD {l : List ByteArray} {j : Nat} (h : j < l.length) : (strs l)[j]? = some (.string (l.getD j ByteArray.empty)) := by simp [strs, h]
section
variable {H : Type} {enc : TypeId × Value → H} {P : Program} {W : World}
theorem arg_strs {base : Nat} {t e : TypeId} {v : Value} {d : DataW H} {p : List MemPlace} (ht : P.underlying t = some (.slice e)) (he : P.underlying e = some .string) (hc : P.cellsOf e = 1)
    (hv : Value.okWide P W .any base t v) (h : DataW.Trod enc P W 0 (fun _ => true) true t v d p) :
    ∃ (A : Option Addr) (c : Nat) (l : List ByteArray), v = .slice A l.length c ∧ (l.length ≤ maxLen ∧ l.length ≤ c) ∧ (∀ s ∈ l, s.size ≤ maxLen) ∧ Reads W W.heap.size 1 A l.length (strs l) := by
  obtain ⟨a0, len0, cap0, rfl⟩ := okWide_slice ht hv
  obtain ⟨fuel, hf⟩ := h
  rcases open_strings ht he hc hf with ⟨hcs, _⟩ | ⟨x, len, cap, zs, hcs, _, hl, hm, hz, _, hcell, hwz⟩
  · simp [Value.cells] at hcs
    obtain ⟨rfl, rfl, rfl⟩ := hcs
    exact ⟨none, 0, [], rfl, by simp [maxLen], by simp, Reads.none_⟩
  · simp [Value.cells] at hcs
    obtain ⟨rfl, rfl, rfl⟩ := hcs
    have hzc : zs.length = cap0 := by simpa using hz
    have hzl : (zs.take len0).length = len0 := by rw [List.length_take]; omega
    refine ⟨some x, cap0, zs.take len0, by rw [hzl], ⟨by omega, by omega⟩, fun n hn => hwz n (List.mem_of_mem_take hn), ?_⟩
    rw [hzl]
    refine ⟨by rw [strs_length, hzl]; omega, fun hpos => ⟨x, rfl, ?_, fun j u hu => ?_⟩⟩
    · have := World.block_lt_of_cell? W _ (hcell 0 (by omega))
      rwa [block_of_add] at this
    · have hj : j < len0 := by
        have := (List.getElem?_eq_some_iff.1 hu).1
        rwa [strs_length, hzl] at this
      have hj2 : j < zs.length := by omega
      rw [hcell j hj2]
      have hu2 := strs_get hu (by omega)
      rw [← hu2]
      simp [hj2]
end
end Go.Fw
/-
  strings.Join with a space, as the walks want it; rows of strings of the call's own. Condition: few bytes.
-/
namespace Go.Proofs
open Go.Shelf
def Tryz.ljoin_ren : Go.Shelf.Ren := ⟨fun | 156 => 18 | 165 => 36 | 166 => 17 | 169 => 25 | 240 => 35 | 241 => 53 | 276 => 52 | 277 => 69 | n => n, fun | 31 => 55 | 9 => 9 | 3 => 3 | 4 => 4 | 0 => 0 | 20 => 20 | 72 => 54 | 76 => 58 | 70 => 51 | 37 => 52 | 75 => 57 | 127 => 82 | 164 => 89 | 5 => 5 | 80 => 45 | n => n, fun | n => n⟩
theorem Tryz.ljoin : Go.Proofs.Lays.n156 Tryz.prog Tryz.ljoin_ren := {
  mixed := by kernel_rfl
  f156 := Tryz.func18.trans (congrArg some (by kernel_rfl))
  f165 := Tryz.func36.trans (congrArg some (by kernel_rfl))
  f166 := Tryz.func17.trans (congrArg some (by kernel_rfl))
  f169 := Tryz.func25.trans (congrArg some (by kernel_rfl))
  f240 := Tryz.func35.trans (congrArg some (by kernel_rfl))
  f241 := Tryz.func53.trans (congrArg some (by kernel_rfl))
  f276 := Tryz.func52.trans (congrArg some (by kernel_rfl))
  f277 := Tryz.func69.trans (congrArg some (by kernel_rfl))
  t0 := Tryz.underlying0
  a0 := Tryz.isAgg0
  z0 := Tryz.sizeOf0
  v0 := Tryz.zeroValue0
  t3 := Tryz.underlying3
  a3 := Tryz.isAgg3
  z3 := Tryz.sizeOf3
  v3 := Tryz.zeroValue3
  t4 := Tryz.underlying4
  a4 := Tryz.isAgg4
  z4 := Tryz.sizeOf4
  v4 := Tryz.zeroValue4
  t9 := Tryz.underlying9
  a9 := Tryz.isAgg9
  z9 := Tryz.sizeOf9
  v9 := Tryz.zeroValue9
  t20 := Tryz.underlying20
  a20 := Tryz.isAgg20
  z20 := Tryz.sizeOf20
  v20 := Tryz.zeroValue20
  t31 := Tryz.underlying55
  a31 := Tryz.isAgg55
  z31 := Tryz.sizeOf55
  v31 := Tryz.zeroValue55
  t37 := Tryz.underlying52
  a37 := Tryz.isAgg52
  z37 := Tryz.sizeOf52
  v37 := Tryz.zeroValue52
  t70 := Tryz.underlying51
  a70 := Tryz.isAgg51
  z70 := Tryz.sizeOf51
  v70 := Tryz.zeroValue51
  t72 := Tryz.underlying54
  a72 := Tryz.isAgg54
  z72 := Tryz.sizeOf54
  v72 := Tryz.zeroValue54
  t75 := Tryz.underlying57
  a75 := Tryz.isAgg57
  z75 := Tryz.sizeOf57
  v75 := Tryz.zeroValue57
  t76 := Tryz.underlying58
  a76 := Tryz.isAgg58
  z76 := Tryz.sizeOf58
  v76 := Tryz.zeroValue58
  t127 := Tryz.underlying82
  a127 := Tryz.isAgg82
  z127 := Tryz.sizeOf82
  v127 := Tryz.zeroValue82
  t164 := Tryz.underlying89
  a164 := Tryz.isAgg89
  z164 := Tryz.sizeOf89
  v164 := Tryz.zeroValue89 }
theorem Tryz.xjoin : Builder.Extra Tryz.prog Tryz.ljoin_ren := ⟨⟨by kernel_rfl, by kernel_rfl⟩, Tryz.underlying5, Tryz.isAgg5, Tryz.sizeOf5, Tryz.zeroValue5, by kernel_rfl, by kernel_rfl, by kernel_rfl, by decide⟩
end Go.Proofs
namespace Go.Fw
open Go.RowKit
set_option linter.unusedVariables false
theorem join_joinS (c : UInt8) (l : List (List UInt8)) : Lib.join l [c] = joinS c l := by
  cases l with
  | nil => rfl
  | cons x r =>
    rw [Lib.join_cons]
    show x ++ (List.map (fun x => [c] ++ x) r).flatten = x ++ r.flatMap fun x => c :: x
    rw [List.flatMap_def]
    rfl
/-- a row of strings of the call's own: its block and cells -/
theorem own_strs {w : World} {B : Nat} {e : TypeId} {n : Nat} {v : Value} {l : List ByteArray} (h : w.ownsRow B e 1 v n (strs l)) (h0 : 0 < n) :
    ∃ g c, v = .slice (some ⟨g, 0, none⟩) n c ∧ g < w.heap.size ∧ n ≤ c ∧ ∀ (j : Nat) x, l[j]? = some x → w.cell? ⟨g, 0 + j, none⟩ = some (.string x) := by
  obtain ⟨hl, h⟩ := h
  rcases h with ⟨_, rfl⟩ | ⟨g, cap, cur, rfl, hB, hh, hnc, hc, hs, ht⟩
  · omega
  · have hb' : Blk w g e cur := hh
    refine ⟨g, cap, rfl, hb'.lt, hnc, fun j x hj => ?_⟩
    have hj2 : j < n := by
      have := (List.getElem?_eq_some_iff.1 hj).1
      simp at hl
      omega
    have e1 : (strs l)[j]? = some (.string x) := by unfold strs; rw [List.getElem?_map, hj]; rfl
    rw [Nat.zero_add, hb'.cell, ← Array.getElem?_toList, ← e1, ← ht, List.getElem?_take_of_lt (by omega)]
end Go.Fw
namespace Go.Proofs.YteljecehppeamaaGreatDoor
open Go.RowKit Go.Fw Go.Shelf
set_option linter.unusedVariables false
theorem elemS : ElemS Tryz.prog 55 9 (.string ByteArray.empty) 1 16 := ⟨Tryz.underlying55, by kernel_rfl, rfl⟩
theorem join_any (v : Value) (l : List ByteArray) (n : Nat) (w0 w : World) (h : MineS 1 w0 w 9 v n (strs l)) (hn : n = l.length) (h0 : 0 < n) (hl : (joinS 32 (l.map (·.data.toList))).length ≤ 100000) (hn2 : n ≤ 100000) :
    Calls Tryz.prog 18 #[v, .string ⟨#[32]⟩] w fun e w' => e = .returned (.string ⟨(joinS 32 (l.map (·.data.toList))).toArray⟩) ∧ Below w.heap.size w w' := by
  obtain ⟨g, c, rfl, hg, hnc, hc⟩ := own_strs h.own h0
  subst hn
  have e : Lib.join (l.map (·.data.toList)) (⟨#[32]⟩ : ByteArray).data.toList = joinS 32 (l.map (·.data.toList)) := join_joinS 32 _
  have h1 := Any.strings_Join Tryz.ljoin Tryz.xjoin g 0 c l ⟨#[32]⟩ w hc hg (by omega) hnc (by rw [e]; omega)
  change Calls Tryz.prog 18 _ _ _ at h1
  rw [e] at h1
  exact h1
end Go.Proofs.YteljecehppeamaaGreatDoor
