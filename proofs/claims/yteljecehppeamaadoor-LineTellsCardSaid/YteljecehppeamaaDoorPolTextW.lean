/-
  policy.Text, walked (chapter 12). Condition: strconv's table lies in memory.
-/
import Derived.Test.YteljecehppeamaaDoorPolText
import Derived.Test.YteljecehppeamaaDoorIdx
namespace Go.Proofs.YteljecehppeamaaDoor
open Go.RowKit Go.Fw Go.Shelf
set_option maxHeartbeats 2000000
set_option maxRecDepth 100000
set_option linter.unusedVariables false
set_option linter.unusedSimpArgs false
theorem poltext_any (a b c d e f : Int) (h6 : In6 a b c d e f) (w : World) (hT : Pow w) :
    Calls Tryd.prog 12 #[.agg #[.int .i64 a, .int .i64 b, .int .i64 c, .int .i64 d, .int .i64 e, .int .i64 f]] w fun x w' => x = .returned (.string (polB a b c d e f)) ∧ Below w.heap.size w w' := by
  have HT := Lib.hid hT
  have H6 := Lib.hid h6
  have HLEN : Hid (∀ k, (polK a b c d e f k).length ≤ 300) := Lib.hid (polK_len h6)
  clear hT h6
  go_enter Tryd.func12, Tryd.ntmps12
  go_wp2_with fail
  refine (numbers_any a b c d e f _).mono ?_
  rintro x w1 ⟨rfl, hb1⟩
  have h0 : Below w.heap.size w w1 := sub_trans (sub_alloc (sub_alloc (Below.refl _ w) _) _) hb1
  have hbld : Bld w1 (w.heap.size + 1) (polK a b c d e f 0) := by
    refine BAt.later ?_ hb1
    rw [polK_0]
    exact BAt.new_ _ _ _ (by simp)
  clear hb1
  go_wp2
  go_loopw [8] (fun i wr => ∃ k : Nat, k ≤ 6 ∧ i = .int .i64 k ∧ Bld wr (w.heap.size + 1) (polK a b c d e f k) ∧ Below w.heap.size w wr)
    (fun i _ => 6 - (intOf i).toNat)
  case atStart => exact ⟨0, Nat.zero_le _, rfl, hbld, h0⟩
  case round =>
    clear hbld h0
    obtain ⟨k, hk, rfl, hB, hbel⟩ := hrel
    have hor : k = 0 ∨ k = 1 ∨ k = 2 ∨ k = 3 ∨ k = 4 ∨ k = 5 ∨ k = 6 := by omega
    clear hk
    rcases hor with rfl | rfl | rfl | rfl | rfl | rfl | rfl
    · have hi1 : ∀ W, (Instr.index 52 (.agg #[.int .i64 a, .int .i64 b, .int .i64 c, .int .i64 d, .int .i64 e, .int .i64 f]) (.int .i64 0)).run Tryd.prog W = .ok (.int .i64 a) W := fun W => idx_num _ _ 0 W (by decide) rfl
      have hi2 : ∀ W, (Instr.index 59 (.agg #[.string ⟨#[109, 105, 110]⟩, .string ⟨#[109, 97, 120]⟩, .string ⟨#[116, 97, 114, 103, 101, 116]⟩, .string ⟨#[116, 111, 108, 101, 114, 97, 110, 99, 101]⟩, .string ⟨#[119, 105, 110, 100, 111, 119]⟩, .string ⟨#[104, 111, 108, 100]⟩]) (.int .i64 0)).run Tryd.prog W = .ok (.string ⟨#[109, 105, 110]⟩) W := fun W => idx_name _ _ 0 W (by decide) rfl
      have h2 := hB
      have b2 := hbel
      clear hB hbel
      go_wp2_with fail
      refine (names_any wr).mono ?_
      rintro x w3 ⟨rfl, hb3⟩
      have hb := bwstr_any (w.heap.size + 1) _ ⟨#[109, 105, 110]⟩ w3 (h2.later hb3) (by have := HLEN.out 0; omega) (by decide)
      have b3 := sub_trans b2 hb3
      have HW := Lib.hid hb
      clear hb hb3 h2 b2
      go_wp2_with fail
      refine HW.out.mono ?_
      rintro x w4 ⟨rfl, h4, hb4⟩
      have b4 : Below w.heap.size w w4 := b3.trans (hb4.mono (Nat.le_succ _))
      clear HW hb4 b3
      have hb := bwbyte_any (w.heap.size + 1) _ 32 w4 h4 (by have := HLEN.out 0; simp; omega)
      have HW := Lib.hid hb
      clear hb h4
      go_wp2_with fail
      refine HW.out.mono ?_
      rintro x w5 ⟨rfl, h5, hb5⟩
      have b5 : Below w.heap.size w w5 := b4.trans (hb5.mono (Nat.le_succ _))
      clear HW hb5 b4
      have HF := Lib.hid (fmt_any a H6.out.1 w5 (pow_up HT.out b5))
      have HB5 := Lib.hid h5
      clear h5
      go_wp2_with fail
      refine HF.out.mono ?_
      rintro x w6 ⟨rfl, hb6⟩
      have HD := Lib.hid (decB_size H6.out.1.1 H6.out.1.2)
      have hb := bwstr_any (w.heap.size + 1) _ (decB a) w6 (HB5.out.later hb6) (by have := HLEN.out 0; simp; omega) (by have := HD.out; omega)
      have b6 := sub_trans b5 hb6
      have HW := Lib.hid hb
      clear hb hb6 HB5 HF b5
      go_wp2_with fail
      refine HW.out.mono ?_
      rintro x w7 ⟨rfl, h7, hb7⟩
      have b7 : Below w.heap.size w w7 := b6.trans (hb7.mono (Nat.le_succ _))
      have h8 : Bld w7 (w.heap.size + 1) (polK a b c d e f 1) := by
        rw [polK_1, ← decB_list]
        exact h7
      have H8 := Lib.hid h8
      clear h8 h7 hb7 b6 HW
      go_wp2
      go_roundw
      case rel => exact ⟨1, by omega, by go_num, H8.out, b7⟩
      case measure => simp [intOf]
    · have hi1 : ∀ W, (Instr.index 52 (.agg #[.int .i64 a, .int .i64 b, .int .i64 c, .int .i64 d, .int .i64 e, .int .i64 f]) (.int .i64 1)).run Tryd.prog W = .ok (.int .i64 b) W := fun W => idx_num _ _ 1 W (by decide) rfl
      have hi2 : ∀ W, (Instr.index 59 (.agg #[.string ⟨#[109, 105, 110]⟩, .string ⟨#[109, 97, 120]⟩, .string ⟨#[116, 97, 114, 103, 101, 116]⟩, .string ⟨#[116, 111, 108, 101, 114, 97, 110, 99, 101]⟩, .string ⟨#[119, 105, 110, 100, 111, 119]⟩, .string ⟨#[104, 111, 108, 100]⟩]) (.int .i64 1)).run Tryd.prog W = .ok (.string ⟨#[109, 97, 120]⟩) W := fun W => idx_name _ _ 1 W (by decide) rfl
      have hb := bwbyte_any (w.heap.size + 1) _ 32 wr hB (by have := HLEN.out 1; omega)
      have HW := Lib.hid hb
      clear hb
      go_wp2_with fail
      refine HW.out.mono ?_
      rintro x w2 ⟨rfl, h2, hb2⟩
      have b2 : Below w.heap.size w w2 := hbel.trans (hb2.mono (Nat.le_succ _))
      clear hb2 HW hB hbel
      go_wp2_with fail
      refine (names_any w2).mono ?_
      rintro x w3 ⟨rfl, hb3⟩
      have hb := bwstr_any (w.heap.size + 1) _ ⟨#[109, 97, 120]⟩ w3 (h2.later hb3) (by have := HLEN.out 1; simp; omega) (by decide)
      have b3 := sub_trans b2 hb3
      have HW := Lib.hid hb
      clear hb hb3 h2 b2
      go_wp2_with fail
      refine HW.out.mono ?_
      rintro x w4 ⟨rfl, h4, hb4⟩
      have b4 : Below w.heap.size w w4 := b3.trans (hb4.mono (Nat.le_succ _))
      clear HW hb4 b3
      have hb := bwbyte_any (w.heap.size + 1) _ 32 w4 h4 (by have := HLEN.out 1; simp; omega)
      have HW := Lib.hid hb
      clear hb h4
      go_wp2_with fail
      refine HW.out.mono ?_
      rintro x w5 ⟨rfl, h5, hb5⟩
      have b5 : Below w.heap.size w w5 := b4.trans (hb5.mono (Nat.le_succ _))
      clear HW hb5 b4
      have HF := Lib.hid (fmt_any b H6.out.2.1 w5 (pow_up HT.out b5))
      have HB5 := Lib.hid h5
      clear h5
      go_wp2_with fail
      refine HF.out.mono ?_
      rintro x w6 ⟨rfl, hb6⟩
      have HD := Lib.hid (decB_size H6.out.2.1.1 H6.out.2.1.2)
      have hb := bwstr_any (w.heap.size + 1) _ (decB b) w6 (HB5.out.later hb6) (by have := HLEN.out 1; simp; omega) (by have := HD.out; omega)
      have b6 := sub_trans b5 hb6
      have HW := Lib.hid hb
      clear hb hb6 HB5 HF b5
      go_wp2_with fail
      refine HW.out.mono ?_
      rintro x w7 ⟨rfl, h7, hb7⟩
      have b7 : Below w.heap.size w w7 := b6.trans (hb7.mono (Nat.le_succ _))
      have h8 : Bld w7 (w.heap.size + 1) (polK a b c d e f 2) := by
        rw [polK_2, ← decB_list]
        exact h7
      have H8 := Lib.hid h8
      clear h8 h7 hb7 b6 HW
      go_wp2
      go_roundw
      case rel => exact ⟨2, by omega, by go_num, H8.out, b7⟩
      case measure => simp [intOf]
    · have hi1 : ∀ W, (Instr.index 52 (.agg #[.int .i64 a, .int .i64 b, .int .i64 c, .int .i64 d, .int .i64 e, .int .i64 f]) (.int .i64 2)).run Tryd.prog W = .ok (.int .i64 c) W := fun W => idx_num _ _ 2 W (by decide) rfl
      have hi2 : ∀ W, (Instr.index 59 (.agg #[.string ⟨#[109, 105, 110]⟩, .string ⟨#[109, 97, 120]⟩, .string ⟨#[116, 97, 114, 103, 101, 116]⟩, .string ⟨#[116, 111, 108, 101, 114, 97, 110, 99, 101]⟩, .string ⟨#[119, 105, 110, 100, 111, 119]⟩, .string ⟨#[104, 111, 108, 100]⟩]) (.int .i64 2)).run Tryd.prog W = .ok (.string ⟨#[116, 97, 114, 103, 101, 116]⟩) W := fun W => idx_name _ _ 2 W (by decide) rfl
      have hb := bwbyte_any (w.heap.size + 1) _ 32 wr hB (by have := HLEN.out 2; omega)
      have HW := Lib.hid hb
      clear hb
      go_wp2_with fail
      refine HW.out.mono ?_
      rintro x w2 ⟨rfl, h2, hb2⟩
      have b2 : Below w.heap.size w w2 := hbel.trans (hb2.mono (Nat.le_succ _))
      clear hb2 HW hB hbel
      go_wp2_with fail
      refine (names_any w2).mono ?_
      rintro x w3 ⟨rfl, hb3⟩
      have hb := bwstr_any (w.heap.size + 1) _ ⟨#[116, 97, 114, 103, 101, 116]⟩ w3 (h2.later hb3) (by have := HLEN.out 2; simp; omega) (by decide)
      have b3 := sub_trans b2 hb3
      have HW := Lib.hid hb
      clear hb hb3 h2 b2
      go_wp2_with fail
      refine HW.out.mono ?_
      rintro x w4 ⟨rfl, h4, hb4⟩
      have b4 : Below w.heap.size w w4 := b3.trans (hb4.mono (Nat.le_succ _))
      clear HW hb4 b3
      have hb := bwbyte_any (w.heap.size + 1) _ 32 w4 h4 (by have := HLEN.out 2; simp; omega)
      have HW := Lib.hid hb
      clear hb h4
      go_wp2_with fail
      refine HW.out.mono ?_
      rintro x w5 ⟨rfl, h5, hb5⟩
      have b5 : Below w.heap.size w w5 := b4.trans (hb5.mono (Nat.le_succ _))
      clear HW hb5 b4
      have HF := Lib.hid (fmt_any c H6.out.2.2.1 w5 (pow_up HT.out b5))
      have HB5 := Lib.hid h5
      clear h5
      go_wp2_with fail
      refine HF.out.mono ?_
      rintro x w6 ⟨rfl, hb6⟩
      have HD := Lib.hid (decB_size H6.out.2.2.1.1 H6.out.2.2.1.2)
      have hb := bwstr_any (w.heap.size + 1) _ (decB c) w6 (HB5.out.later hb6) (by have := HLEN.out 2; simp; omega) (by have := HD.out; omega)
      have b6 := sub_trans b5 hb6
      have HW := Lib.hid hb
      clear hb hb6 HB5 HF b5
      go_wp2_with fail
      refine HW.out.mono ?_
      rintro x w7 ⟨rfl, h7, hb7⟩
      have b7 : Below w.heap.size w w7 := b6.trans (hb7.mono (Nat.le_succ _))
      have h8 : Bld w7 (w.heap.size + 1) (polK a b c d e f 3) := by
        rw [polK_3, ← decB_list]
        exact h7
      have H8 := Lib.hid h8
      clear h8 h7 hb7 b6 HW
      go_wp2
      go_roundw
      case rel => exact ⟨3, by omega, by go_num, H8.out, b7⟩
      case measure => simp [intOf]
    · have hi1 : ∀ W, (Instr.index 52 (.agg #[.int .i64 a, .int .i64 b, .int .i64 c, .int .i64 d, .int .i64 e, .int .i64 f]) (.int .i64 3)).run Tryd.prog W = .ok (.int .i64 d) W := fun W => idx_num _ _ 3 W (by decide) rfl
      have hi2 : ∀ W, (Instr.index 59 (.agg #[.string ⟨#[109, 105, 110]⟩, .string ⟨#[109, 97, 120]⟩, .string ⟨#[116, 97, 114, 103, 101, 116]⟩, .string ⟨#[116, 111, 108, 101, 114, 97, 110, 99, 101]⟩, .string ⟨#[119, 105, 110, 100, 111, 119]⟩, .string ⟨#[104, 111, 108, 100]⟩]) (.int .i64 3)).run Tryd.prog W = .ok (.string ⟨#[116, 111, 108, 101, 114, 97, 110, 99, 101]⟩) W := fun W => idx_name _ _ 3 W (by decide) rfl
      have hb := bwbyte_any (w.heap.size + 1) _ 32 wr hB (by have := HLEN.out 3; omega)
      have HW := Lib.hid hb
      clear hb
      go_wp2_with fail
      refine HW.out.mono ?_
      rintro x w2 ⟨rfl, h2, hb2⟩
      have b2 : Below w.heap.size w w2 := hbel.trans (hb2.mono (Nat.le_succ _))
      clear hb2 HW hB hbel
      go_wp2_with fail
      refine (names_any w2).mono ?_
      rintro x w3 ⟨rfl, hb3⟩
      have hb := bwstr_any (w.heap.size + 1) _ ⟨#[116, 111, 108, 101, 114, 97, 110, 99, 101]⟩ w3 (h2.later hb3) (by have := HLEN.out 3; simp; omega) (by decide)
      have b3 := sub_trans b2 hb3
      have HW := Lib.hid hb
      clear hb hb3 h2 b2
      go_wp2_with fail
      refine HW.out.mono ?_
      rintro x w4 ⟨rfl, h4, hb4⟩
      have b4 : Below w.heap.size w w4 := b3.trans (hb4.mono (Nat.le_succ _))
      clear HW hb4 b3
      have hb := bwbyte_any (w.heap.size + 1) _ 32 w4 h4 (by have := HLEN.out 3; simp; omega)
      have HW := Lib.hid hb
      clear hb h4
      go_wp2_with fail
      refine HW.out.mono ?_
      rintro x w5 ⟨rfl, h5, hb5⟩
      have b5 : Below w.heap.size w w5 := b4.trans (hb5.mono (Nat.le_succ _))
      clear HW hb5 b4
      have HF := Lib.hid (fmt_any d H6.out.2.2.2.1 w5 (pow_up HT.out b5))
      have HB5 := Lib.hid h5
      clear h5
      go_wp2_with fail
      refine HF.out.mono ?_
      rintro x w6 ⟨rfl, hb6⟩
      have HD := Lib.hid (decB_size H6.out.2.2.2.1.1 H6.out.2.2.2.1.2)
      have hb := bwstr_any (w.heap.size + 1) _ (decB d) w6 (HB5.out.later hb6) (by have := HLEN.out 3; simp; omega) (by have := HD.out; omega)
      have b6 := sub_trans b5 hb6
      have HW := Lib.hid hb
      clear hb hb6 HB5 HF b5
      go_wp2_with fail
      refine HW.out.mono ?_
      rintro x w7 ⟨rfl, h7, hb7⟩
      have b7 : Below w.heap.size w w7 := b6.trans (hb7.mono (Nat.le_succ _))
      have h8 : Bld w7 (w.heap.size + 1) (polK a b c d e f 4) := by
        rw [polK_4, ← decB_list]
        exact h7
      have H8 := Lib.hid h8
      clear h8 h7 hb7 b6 HW
      go_wp2
      go_roundw
      case rel => exact ⟨4, by omega, by go_num, H8.out, b7⟩
      case measure => simp [intOf]
    · have hi1 : ∀ W, (Instr.index 52 (.agg #[.int .i64 a, .int .i64 b, .int .i64 c, .int .i64 d, .int .i64 e, .int .i64 f]) (.int .i64 4)).run Tryd.prog W = .ok (.int .i64 e) W := fun W => idx_num _ _ 4 W (by decide) rfl
      have hi2 : ∀ W, (Instr.index 59 (.agg #[.string ⟨#[109, 105, 110]⟩, .string ⟨#[109, 97, 120]⟩, .string ⟨#[116, 97, 114, 103, 101, 116]⟩, .string ⟨#[116, 111, 108, 101, 114, 97, 110, 99, 101]⟩, .string ⟨#[119, 105, 110, 100, 111, 119]⟩, .string ⟨#[104, 111, 108, 100]⟩]) (.int .i64 4)).run Tryd.prog W = .ok (.string ⟨#[119, 105, 110, 100, 111, 119]⟩) W := fun W => idx_name _ _ 4 W (by decide) rfl
      have hb := bwbyte_any (w.heap.size + 1) _ 32 wr hB (by have := HLEN.out 4; omega)
      have HW := Lib.hid hb
      clear hb
      go_wp2_with fail
      refine HW.out.mono ?_
      rintro x w2 ⟨rfl, h2, hb2⟩
      have b2 : Below w.heap.size w w2 := hbel.trans (hb2.mono (Nat.le_succ _))
      clear hb2 HW hB hbel
      go_wp2_with fail
      refine (names_any w2).mono ?_
      rintro x w3 ⟨rfl, hb3⟩
      have hb := bwstr_any (w.heap.size + 1) _ ⟨#[119, 105, 110, 100, 111, 119]⟩ w3 (h2.later hb3) (by have := HLEN.out 4; simp; omega) (by decide)
      have b3 := sub_trans b2 hb3
      have HW := Lib.hid hb
      clear hb hb3 h2 b2
      go_wp2_with fail
      refine HW.out.mono ?_
      rintro x w4 ⟨rfl, h4, hb4⟩
      have b4 : Below w.heap.size w w4 := b3.trans (hb4.mono (Nat.le_succ _))
      clear HW hb4 b3
      have hb := bwbyte_any (w.heap.size + 1) _ 32 w4 h4 (by have := HLEN.out 4; simp; omega)
      have HW := Lib.hid hb
      clear hb h4
      go_wp2_with fail
      refine HW.out.mono ?_
      rintro x w5 ⟨rfl, h5, hb5⟩
      have b5 : Below w.heap.size w w5 := b4.trans (hb5.mono (Nat.le_succ _))
      clear HW hb5 b4
      have HF := Lib.hid (fmt_any e H6.out.2.2.2.2.1 w5 (pow_up HT.out b5))
      have HB5 := Lib.hid h5
      clear h5
      go_wp2_with fail
      refine HF.out.mono ?_
      rintro x w6 ⟨rfl, hb6⟩
      have HD := Lib.hid (decB_size H6.out.2.2.2.2.1.1 H6.out.2.2.2.2.1.2)
      have hb := bwstr_any (w.heap.size + 1) _ (decB e) w6 (HB5.out.later hb6) (by have := HLEN.out 4; simp; omega) (by have := HD.out; omega)
      have b6 := sub_trans b5 hb6
      have HW := Lib.hid hb
      clear hb hb6 HB5 HF b5
      go_wp2_with fail
      refine HW.out.mono ?_
      rintro x w7 ⟨rfl, h7, hb7⟩
      have b7 : Below w.heap.size w w7 := b6.trans (hb7.mono (Nat.le_succ _))
      have h8 : Bld w7 (w.heap.size + 1) (polK a b c d e f 5) := by
        rw [polK_5, ← decB_list]
        exact h7
      have H8 := Lib.hid h8
      clear h8 h7 hb7 b6 HW
      go_wp2
      go_roundw
      case rel => exact ⟨5, by omega, by go_num, H8.out, b7⟩
      case measure => simp [intOf]
    · have hi1 : ∀ W, (Instr.index 52 (.agg #[.int .i64 a, .int .i64 b, .int .i64 c, .int .i64 d, .int .i64 e, .int .i64 f]) (.int .i64 5)).run Tryd.prog W = .ok (.int .i64 f) W := fun W => idx_num _ _ 5 W (by decide) rfl
      have hi2 : ∀ W, (Instr.index 59 (.agg #[.string ⟨#[109, 105, 110]⟩, .string ⟨#[109, 97, 120]⟩, .string ⟨#[116, 97, 114, 103, 101, 116]⟩, .string ⟨#[116, 111, 108, 101, 114, 97, 110, 99, 101]⟩, .string ⟨#[119, 105, 110, 100, 111, 119]⟩, .string ⟨#[104, 111, 108, 100]⟩]) (.int .i64 5)).run Tryd.prog W = .ok (.string ⟨#[104, 111, 108, 100]⟩) W := fun W => idx_name _ _ 5 W (by decide) rfl
      have hb := bwbyte_any (w.heap.size + 1) _ 32 wr hB (by have := HLEN.out 5; omega)
      have HW := Lib.hid hb
      clear hb
      go_wp2_with fail
      refine HW.out.mono ?_
      rintro x w2 ⟨rfl, h2, hb2⟩
      have b2 : Below w.heap.size w w2 := hbel.trans (hb2.mono (Nat.le_succ _))
      clear hb2 HW hB hbel
      go_wp2_with fail
      refine (names_any w2).mono ?_
      rintro x w3 ⟨rfl, hb3⟩
      have hb := bwstr_any (w.heap.size + 1) _ ⟨#[104, 111, 108, 100]⟩ w3 (h2.later hb3) (by have := HLEN.out 5; simp; omega) (by decide)
      have b3 := sub_trans b2 hb3
      have HW := Lib.hid hb
      clear hb hb3 h2 b2
      go_wp2_with fail
      refine HW.out.mono ?_
      rintro x w4 ⟨rfl, h4, hb4⟩
      have b4 : Below w.heap.size w w4 := b3.trans (hb4.mono (Nat.le_succ _))
      clear HW hb4 b3
      have hb := bwbyte_any (w.heap.size + 1) _ 32 w4 h4 (by have := HLEN.out 5; simp; omega)
      have HW := Lib.hid hb
      clear hb h4
      go_wp2_with fail
      refine HW.out.mono ?_
      rintro x w5 ⟨rfl, h5, hb5⟩
      have b5 : Below w.heap.size w w5 := b4.trans (hb5.mono (Nat.le_succ _))
      clear HW hb5 b4
      have HF := Lib.hid (fmt_any f H6.out.2.2.2.2.2 w5 (pow_up HT.out b5))
      have HB5 := Lib.hid h5
      clear h5
      go_wp2_with fail
      refine HF.out.mono ?_
      rintro x w6 ⟨rfl, hb6⟩
      have HD := Lib.hid (decB_size H6.out.2.2.2.2.2.1 H6.out.2.2.2.2.2.2)
      have hb := bwstr_any (w.heap.size + 1) _ (decB f) w6 (HB5.out.later hb6) (by have := HLEN.out 5; simp; omega) (by have := HD.out; omega)
      have b6 := sub_trans b5 hb6
      have HW := Lib.hid hb
      clear hb hb6 HB5 HF b5
      go_wp2_with fail
      refine HW.out.mono ?_
      rintro x w7 ⟨rfl, h7, hb7⟩
      have b7 : Below w.heap.size w w7 := b6.trans (hb7.mono (Nat.le_succ _))
      have h8 : Bld w7 (w.heap.size + 1) (polK a b c d e f 6) := by
        rw [polK_all, polK_6, ← decB_list]
        exact h7
      have H8 := Lib.hid h8
      clear h8 h7 hb7 b6 HW
      go_wp2
      go_roundw
      case rel => exact ⟨6, by omega, by go_num, H8.out, b7⟩
      case measure => simp [intOf]
    · rw [polK_all] at hB
      have HW := Lib.hid (bstring_any (w.heap.size + 1) _ wr hB)
      clear hB
      go_wp2_with fail
      refine HW.out.mono ?_
      rintro x w2 ⟨rfl, _, hb2⟩
      go_wp2
      go_ret
      exact ⟨rfl, hbel.trans (hb2.mono (Nat.le_succ _))⟩
end Go.Proofs.YteljecehppeamaaDoor
