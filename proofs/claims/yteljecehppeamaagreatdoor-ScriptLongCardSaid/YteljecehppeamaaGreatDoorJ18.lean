/-
  line.Parse walked (chapter 41). Conditions: strconv's table and errors lie in memory, a number in internal/bytealg.MaxLen; few bytes.
-/
import Derived.Test.YteljecehppeamaaGreatDoorJ17
namespace Go.Proofs.YteljecehppeamaaGreatDoor
open Go.RowKit Go.Fw Go.Shelf
set_option maxHeartbeats 400000
set_option maxRecDepth 100000
set_option linter.unusedVariables false
set_option linter.unusedSimpArgs false
theorem told_any (x : Cl) (s : ByteArray) (w : World) (k : Nat) (hR : Ready w) (hx : x.ok) (h1 : 1 ≤ x.k) (h8 : x.k ≤ 8) (hs : s.size ≤ 1000) (hc : readC k (wordsB 32 s) = some x) :
    Calls Tryz.prog 85 #[x.val, .string s] w fun y w' => y = .returned (.tuple #[(toldC x s).1.val, .int .i64 (toldC x s).2]) ∧ Below w.heap.size w w' := by
  by_cases he : textE x = 0
  · by_cases hl : lineB x = s
    · rw [toldC_text h1 h8 he hl]
      exact told_ok x s w hR hx he hl
    · rw [toldC_form hl]
      exact told_form x s w hR hx he hl
  · have hni : namedK x.k = true ∧ idOk x.id = false := by
      unfold textE at he
      rw [if_neg (by omega)] at he
      by_cases h : namedK x.k = true ∧ idOk x.id = false
      · exact h
      · rw [if_neg h] at he
        exact absurd rfl he
    have := told_id x s w k hR hx hni.1 hni.2 h1 h8 hs hc
    by_cases hl : lineB x = s
    · rw [toldC_id hl hni.1 hni.2]
      rw [if_pos hl] at this
      exact this
    · rw [toldC_form hl]
      rw [if_neg hl] at this
      exact this
theorem wd_size {s : ByteArray} (j : Nat) : (wdAt (wordsB 32 s) j).size ≤ s.size := by
  unfold wdAt
  rw [List.getD_eq_getElem?_getD]
  cases h : (wordsB 32 s)[j]? with
  | none => exact Nat.zero_le _
  | some x => exact wordsB_sizes (List.mem_of_getElem? h)
theorem read_yes_1 {all : List ByteArray} (h0 : all ≠ []) (h : (((false || decide (all.length ≤ 1)) || !(numAt all 2).isSome) || !(numAt all 3).isSome) = false) (h2 : ¬ 4 < all.length) : ∃ n2 n3, numAt all 2 = some n2 ∧ numAt all 3 = some n3 ∧ readC 1 all = some ⟨1, wdAt all 1, n2, n3, 0, 0, 0, 0, 0, 0, 0⟩ := by
  match all, h0, h, h2 with
  | [y0], _, h, _ => simp [okUp, numAt, wdAt, readW, Lib.atoiAll] at h
  | [y0, y1], _, h, _ => simp [okUp, numAt, wdAt, readW, Lib.atoiAll] at h
  | [y0, y1, y2], _, h, _ => simp [okUp, numAt, wdAt, readW, Lib.atoiAll] at h
  | [y0, y1, y2, y3], _, h, _ =>
    cases e2 : readW y2 <;> cases e3 : readW y3
    all_goals first
      | (exfalso; simp [okUp, numAt, wdAt, e2, e3] at h; done)
      | exact ⟨_, _, by simp only [numAt, wdAt, List.getD_cons_succ, List.getD_cons_zero]; exact e2, by simp only [numAt, wdAt, List.getD_cons_succ, List.getD_cons_zero]; exact e3, by simp [readC, wdAt, e2, e3] <;> rfl⟩
  | y0 :: y1 :: y2 :: y3 :: y4 :: r, _, _, h2 => exact absurd (show 4 < (y0 :: y1 :: y2 :: y3 :: y4 :: r).length by simp only [List.length_cons]; omega) h2
theorem read_no_1 {all : List ByteArray} (h0 : all ≠ []) (h : (((false || decide (all.length ≤ 1)) || !(numAt all 2).isSome) || !(numAt all 3).isSome) = true ∨ 4 < all.length) : readC 1 all = none := by
  match all, h0, h with
  | [y0], _, _ => rfl
  | [y0, y1], _, _ => rfl
  | [y0, y1, y2], _, _ => rfl
  | [y0, y1, y2, y3], _, h =>
    cases e2 : readW y2 <;> cases e3 : readW y3
    all_goals first | (simp [readC, e2, e3]; done) | (exfalso; simp [okUp, numAt, wdAt, e2, e3] at h; done)
  | y0 :: y1 :: y2 :: y3 :: y4 :: r, _, _ => rfl
theorem read_yes_2 {all : List ByteArray} (h0 : all ≠ []) (h : (false || !(numAt all 1).isSome) = false) (h2 : ¬ 2 < all.length) : ∃ n1, numAt all 1 = some n1 ∧ readC 2 all = some ⟨2, ⟨#[]⟩, n1, 0, 0, 0, 0, 0, 0, 0, 0⟩ := by
  match all, h0, h, h2 with
  | [y0], _, h, _ => simp [okUp, numAt, wdAt, readW, Lib.atoiAll] at h
  | [y0, y1], _, h, _ =>
    cases e1 : readW y1
    all_goals first
      | (exfalso; simp [okUp, numAt, wdAt, e1] at h; done)
      | exact ⟨_, by simp only [numAt, wdAt, List.getD_cons_succ, List.getD_cons_zero]; exact e1, by simp [readC, wdAt, e1] <;> rfl⟩
  | y0 :: y1 :: y2 :: r, _, _, h2 => exact absurd (show 2 < (y0 :: y1 :: y2 :: r).length by simp only [List.length_cons]; omega) h2
theorem read_no_2 {all : List ByteArray} (h0 : all ≠ []) (h : (false || !(numAt all 1).isSome) = true ∨ 2 < all.length) : readC 2 all = none := by
  match all, h0, h with
  | [y0], _, _ => rfl
  | [y0, y1], _, h =>
    cases e1 : readW y1
    all_goals first | (simp [readC, e1]; done) | (exfalso; simp [okUp, numAt, wdAt, e1] at h; done)
  | y0 :: y1 :: y2 :: r, _, _ => rfl
theorem read_yes_3 {all : List ByteArray} (h0 : all ≠ []) (h : false = false) (h2 : ¬ 1 < all.length) : readC 3 all = some ⟨3, ⟨#[]⟩, 0, 0, 0, 0, 0, 0, 0, 0, 0⟩ := by
  match all, h0, h, h2 with
  | [y0], _, h, _ =>
    rfl
  | y0 :: y1 :: r, _, _, h2 => exact absurd (show 1 < (y0 :: y1 :: r).length by simp only [List.length_cons]; omega) h2
theorem read_no_3 {all : List ByteArray} (h0 : all ≠ []) (h : false = true ∨ 1 < all.length) : readC 3 all = none := by
  match all, h0, h with
  | [y0], _, h =>
    exfalso; simp at h
  | y0 :: y1 :: r, _, _ => rfl
theorem read_yes_4 {all : List ByteArray} (h0 : all ≠ []) (h : (false || !(numAt all 1).isSome) = false) (h2 : ¬ 2 < all.length) : ∃ n1, numAt all 1 = some n1 ∧ readC 4 all = some ⟨4, ⟨#[]⟩, 0, 0, n1, 0, 0, 0, 0, 0, 0⟩ := by
  match all, h0, h, h2 with
  | [y0], _, h, _ => simp [okUp, numAt, wdAt, readW, Lib.atoiAll] at h
  | [y0, y1], _, h, _ =>
    cases e1 : readW y1
    all_goals first
      | (exfalso; simp [okUp, numAt, wdAt, e1] at h; done)
      | exact ⟨_, by simp only [numAt, wdAt, List.getD_cons_succ, List.getD_cons_zero]; exact e1, by simp [readC, wdAt, e1] <;> rfl⟩
  | y0 :: y1 :: y2 :: r, _, _, h2 => exact absurd (show 2 < (y0 :: y1 :: y2 :: r).length by simp only [List.length_cons]; omega) h2
theorem read_no_4 {all : List ByteArray} (h0 : all ≠ []) (h : (false || !(numAt all 1).isSome) = true ∨ 2 < all.length) : readC 4 all = none := by
  match all, h0, h with
  | [y0], _, _ => rfl
  | [y0, y1], _, h =>
    cases e1 : readW y1
    all_goals first | (simp [readC, e1]; done) | (exfalso; simp [okUp, numAt, wdAt, e1] at h; done)
  | y0 :: y1 :: y2 :: r, _, _ => rfl
theorem read_yes_5 {all : List ByteArray} (h0 : all ≠ []) (h : ((((false || !(numAt all 1).isSome) || decide (all.length ≤ 2)) || !(numAt all 3).isSome) || !(numAt all 4).isSome) = false) (h2 : ¬ 5 < all.length) : ∃ n1 n3 n4, numAt all 1 = some n1 ∧ numAt all 3 = some n3 ∧ numAt all 4 = some n4 ∧ readC 5 all = some ⟨5, wdAt all 2, n3, n4, n1, 0, 0, 0, 0, 0, 0⟩ := by
  match all, h0, h, h2 with
  | [y0], _, h, _ => simp [okUp, numAt, wdAt, readW, Lib.atoiAll] at h
  | [y0, y1], _, h, _ => simp [okUp, numAt, wdAt, readW, Lib.atoiAll] at h
  | [y0, y1, y2], _, h, _ => simp [okUp, numAt, wdAt, readW, Lib.atoiAll] at h
  | [y0, y1, y2, y3], _, h, _ => simp [okUp, numAt, wdAt, readW, Lib.atoiAll] at h
  | [y0, y1, y2, y3, y4], _, h, _ =>
    cases e1 : readW y1 <;> cases e3 : readW y3 <;> cases e4 : readW y4
    all_goals first
      | (exfalso; simp [okUp, numAt, wdAt, e1, e3, e4] at h; done)
      | exact ⟨_, _, _, by simp only [numAt, wdAt, List.getD_cons_succ, List.getD_cons_zero]; exact e1, by simp only [numAt, wdAt, List.getD_cons_succ, List.getD_cons_zero]; exact e3, by simp only [numAt, wdAt, List.getD_cons_succ, List.getD_cons_zero]; exact e4, by simp [readC, wdAt, e1, e3, e4] <;> rfl⟩
  | y0 :: y1 :: y2 :: y3 :: y4 :: y5 :: r, _, _, h2 => exact absurd (show 5 < (y0 :: y1 :: y2 :: y3 :: y4 :: y5 :: r).length by simp only [List.length_cons]; omega) h2
theorem read_no_5 {all : List ByteArray} (h0 : all ≠ []) (h : ((((false || !(numAt all 1).isSome) || decide (all.length ≤ 2)) || !(numAt all 3).isSome) || !(numAt all 4).isSome) = true ∨ 5 < all.length) : readC 5 all = none := by
  match all, h0, h with
  | [y0], _, _ => rfl
  | [y0, y1], _, _ => rfl
  | [y0, y1, y2], _, _ => rfl
  | [y0, y1, y2, y3], _, _ => rfl
  | [y0, y1, y2, y3, y4], _, h =>
    cases e1 : readW y1 <;> cases e3 : readW y3 <;> cases e4 : readW y4
    all_goals first | (simp [readC, e1, e3, e4]; done) | (exfalso; simp [okUp, numAt, wdAt, e1, e3, e4] at h; done)
  | y0 :: y1 :: y2 :: y3 :: y4 :: y5 :: r, _, _ => rfl
theorem read_yes_6 {all : List ByteArray} (h0 : all ≠ []) (h : ((false || decide (all.length ≤ 1)) || !(okUp all 2 6)) = false) (h2 : ¬ 14 < all.length) : ∃ n3 n5 n7 n9 n11 n13, numAt all 3 = some n3 ∧ numAt all 5 = some n5 ∧ numAt all 7 = some n7 ∧ numAt all 9 = some n9 ∧ numAt all 11 = some n11 ∧ numAt all 13 = some n13 ∧ readC 6 all = some ⟨6, wdAt all 1, 0, 0, 0, n3, n5, n7, n9, n11, n13⟩ := by
  match all, h0, h, h2 with
  | [y0], _, h, _ => simp [okUp, numAt, wdAt, readW, Lib.atoiAll] at h
  | [y0, y1], _, h, _ => simp [okUp, numAt, wdAt, readW, Lib.atoiAll] at h
  | [y0, y1, y2], _, h, _ => simp [okUp, numAt, wdAt, readW, Lib.atoiAll] at h
  | [y0, y1, y2, y3], _, h, _ => simp [okUp, numAt, wdAt, readW, Lib.atoiAll] at h
  | [y0, y1, y2, y3, y4], _, h, _ => simp [okUp, numAt, wdAt, readW, Lib.atoiAll] at h
  | [y0, y1, y2, y3, y4, y5], _, h, _ => simp [okUp, numAt, wdAt, readW, Lib.atoiAll] at h
  | [y0, y1, y2, y3, y4, y5, y6], _, h, _ => simp [okUp, numAt, wdAt, readW, Lib.atoiAll] at h
  | [y0, y1, y2, y3, y4, y5, y6, y7], _, h, _ => simp [okUp, numAt, wdAt, readW, Lib.atoiAll] at h
  | [y0, y1, y2, y3, y4, y5, y6, y7, y8], _, h, _ => simp [okUp, numAt, wdAt, readW, Lib.atoiAll] at h
  | [y0, y1, y2, y3, y4, y5, y6, y7, y8, y9], _, h, _ => simp [okUp, numAt, wdAt, readW, Lib.atoiAll] at h
  | [y0, y1, y2, y3, y4, y5, y6, y7, y8, y9, y10], _, h, _ => simp [okUp, numAt, wdAt, readW, Lib.atoiAll] at h
  | [y0, y1, y2, y3, y4, y5, y6, y7, y8, y9, y10, y11], _, h, _ => simp [okUp, numAt, wdAt, readW, Lib.atoiAll] at h
  | [y0, y1, y2, y3, y4, y5, y6, y7, y8, y9, y10, y11, y12], _, h, _ => simp [okUp, numAt, wdAt, readW, Lib.atoiAll] at h
  | [y0, y1, y2, y3, y4, y5, y6, y7, y8, y9, y10, y11, y12, y13], _, h, _ =>
    cases e3 : readW y3 <;> cases e5 : readW y5 <;> cases e7 : readW y7 <;> cases e9 : readW y9 <;> cases e11 : readW y11 <;> cases e13 : readW y13
    all_goals first
      | (exfalso; simp [okUp, numAt, wdAt, e3, e5, e7, e9, e11, e13] at h; done)
      | exact ⟨_, _, _, _, _, _, by simp only [numAt, wdAt, List.getD_cons_succ, List.getD_cons_zero]; exact e3, by simp only [numAt, wdAt, List.getD_cons_succ, List.getD_cons_zero]; exact e5, by simp only [numAt, wdAt, List.getD_cons_succ, List.getD_cons_zero]; exact e7, by simp only [numAt, wdAt, List.getD_cons_succ, List.getD_cons_zero]; exact e9, by simp only [numAt, wdAt, List.getD_cons_succ, List.getD_cons_zero]; exact e11, by simp only [numAt, wdAt, List.getD_cons_succ, List.getD_cons_zero]; exact e13, by simp [readC, wdAt, e3, e5, e7, e9, e11, e13] <;> rfl⟩
  | y0 :: y1 :: y2 :: y3 :: y4 :: y5 :: y6 :: y7 :: y8 :: y9 :: y10 :: y11 :: y12 :: y13 :: y14 :: r, _, _, h2 => exact absurd (show 14 < (y0 :: y1 :: y2 :: y3 :: y4 :: y5 :: y6 :: y7 :: y8 :: y9 :: y10 :: y11 :: y12 :: y13 :: y14 :: r).length by simp only [List.length_cons]; omega) h2
theorem read_no_6 {all : List ByteArray} (h0 : all ≠ []) (h : ((false || decide (all.length ≤ 1)) || !(okUp all 2 6)) = true ∨ 14 < all.length) : readC 6 all = none := by
  match all, h0, h with
  | [y0], _, _ => rfl
  | [y0, y1], _, _ => rfl
  | [y0, y1, y2], _, _ => rfl
  | [y0, y1, y2, y3], _, _ => rfl
  | [y0, y1, y2, y3, y4], _, _ => rfl
  | [y0, y1, y2, y3, y4, y5], _, _ => rfl
  | [y0, y1, y2, y3, y4, y5, y6], _, _ => rfl
  | [y0, y1, y2, y3, y4, y5, y6, y7], _, _ => rfl
  | [y0, y1, y2, y3, y4, y5, y6, y7, y8], _, _ => rfl
  | [y0, y1, y2, y3, y4, y5, y6, y7, y8, y9], _, _ => rfl
  | [y0, y1, y2, y3, y4, y5, y6, y7, y8, y9, y10], _, _ => rfl
  | [y0, y1, y2, y3, y4, y5, y6, y7, y8, y9, y10, y11], _, _ => rfl
  | [y0, y1, y2, y3, y4, y5, y6, y7, y8, y9, y10, y11, y12], _, _ => rfl
  | [y0, y1, y2, y3, y4, y5, y6, y7, y8, y9, y10, y11, y12, y13], _, h =>
    cases e3 : readW y3 <;> cases e5 : readW y5 <;> cases e7 : readW y7 <;> cases e9 : readW y9 <;> cases e11 : readW y11 <;> cases e13 : readW y13
    all_goals first | (simp [readC, e3, e5, e7, e9, e11, e13]; done) | (exfalso; simp [okUp, numAt, wdAt, e3, e5, e7, e9, e11, e13] at h; done)
  | y0 :: y1 :: y2 :: y3 :: y4 :: y5 :: y6 :: y7 :: y8 :: y9 :: y10 :: y11 :: y12 :: y13 :: y14 :: r, _, _ => rfl
theorem read_yes_7 {all : List ByteArray} (h0 : all ≠ []) (h : (false || decide (all.length ≤ 1)) = false) (h2 : ¬ 2 < all.length) : readC 7 all = some ⟨7, wdAt all 1, 0, 0, 0, 0, 0, 0, 0, 0, 0⟩ := by
  match all, h0, h, h2 with
  | [y0], _, h, _ => simp [okUp, numAt, wdAt, readW, Lib.atoiAll] at h
  | [y0, y1], _, h, _ =>
    rfl
  | y0 :: y1 :: y2 :: r, _, _, h2 => exact absurd (show 2 < (y0 :: y1 :: y2 :: r).length by simp only [List.length_cons]; omega) h2
theorem read_no_7 {all : List ByteArray} (h0 : all ≠ []) (h : (false || decide (all.length ≤ 1)) = true ∨ 2 < all.length) : readC 7 all = none := by
  match all, h0, h with
  | [y0], _, _ => rfl
  | [y0, y1], _, h =>
    exfalso; simp at h
  | y0 :: y1 :: y2 :: r, _, _ => rfl
theorem read_yes_8 {all : List ByteArray} (h0 : all ≠ []) (h : false = false) (h2 : ¬ 1 < all.length) : readC 8 all = some ⟨8, ⟨#[]⟩, 0, 0, 0, 0, 0, 0, 0, 0, 0⟩ := by
  match all, h0, h, h2 with
  | [y0], _, h, _ =>
    rfl
  | y0 :: y1 :: r, _, _, h2 => exact absurd (show 1 < (y0 :: y1 :: r).length by simp only [List.length_cons]; omega) h2
theorem read_no_8 {all : List ByteArray} (h0 : all ≠ []) (h : false = true ∨ 1 < all.length) : readC 8 all = none := by
  match all, h0, h with
  | [y0], _, h =>
    exfalso; simp at h
  | y0 :: y1 :: r, _, _ => rfl
theorem lparse_0 (s : ByteArray) (w : World) (hR : Ready w) (hs : s.size ≤ 1000) (hk : kindW (headW (wordsB 32 s)) = 0) :
    Calls Tryz.prog 68 #[.string s] w fun y w' => y = .returned (.tuple #[(parseC s).1.val, .int .i64 (parseC s).2]) ∧ Below w.heap.size w w' := by
  have hne := wordsB_ne 32 s
  have hwl := wordsB_len 32 s
  have hlen : (wordsB 32 s).length ≤ 1000000 := by omega
  have hlen0 : 0 < (wordsB 32 s).length := List.length_pos_iff.2 hne
  have HPE := Lib.hid (parseC_none hk)
  have HKD : Hid (∀ W, Calls Tryz.prog 81 #[.string (wdAt (wordsB 32 s) 0)] W fun y w' => y = .returned (.int .i64 0) ∧ Below W.heap.size W w') := Lib.hid (fun W => by
    have h := kind_any (headW (wordsB 32 s)) W
    rw [hk] at h
    have e : headW (wordsB 32 s) = wdAt (wordsB 32 s) 0 := by
      unfold headW wdAt
      cases wordsB 32 s <;> rfl
    rw [e] at h
    exact h)
  have HSP := Lib.hid (fun W hM => split_any 32 s (by omega) W hM)
  have HR := Lib.hid hR
  clear hR hs hk hne hwl
  generalize parseC s = ps at *
  generalize wordsB 32 s = all at *
  have hba0 : (false || decide (all.length ≤ 0)) = false := by rw [Bool.false_or, decide_eq_false_iff_not]; omega
  have HB00 := Lib.hid hba0
  clear hba0
  obtain ⟨WA, hWA⟩ : ∃ WA, ((w.alloc (.cells Cl.zero.arr 50)).alloc (.cells (all.map Value.string).toArray 9)).alloc (.cells #[.slice (some ⟨w.heap.size + 1, 0, none⟩) all.length all.length, .bool false] 124) = WA := ⟨_, rfl⟩
  have hbA : Below w.heap.size w WA := by rw [← hWA]; exact sub_alloc (sub_alloc (sub_alloc (Below.refl _ w) _) _) _
  have gzA : Blk WA w.heap.size 50 Cl.zero.arr := by rw [← hWA]; exact ((Blk.new_at _ _ _ rfl).alloc _).alloc _
  have hrA : RdAt WA (w.heap.size + 2) (w.heap.size + 1) all (min 0 all.length) false := by
    rw [← hWA, Nat.zero_min]
    exact ⟨⟨0, fun _ => rfl, Blk.new_at _ _ _ (by simp)⟩, (Blk.new_at _ _ _ (by simp)).alloc _, Nat.zero_le _⟩
  have HW0 := Lib.hid (word_any WA (w.heap.size + 2) (w.heap.size + 1) 0 all false hlen hrA)
  have HA := Lib.hid (And.intro hbA gzA)
  have HM0 := Lib.hid ((HR.out.up (sub_alloc (Below.refl _ w) (.cells Cl.zero.arr 50))).max)
  have HWA := Lib.hid hWA
  clear hbA gzA hrA hWA
  go_enter Tryz.func68, Tryz.ntmps68
  go_wp2_with fail
  refine (HSP.out _ HM0.out).mono ?_
  rintro y v0 ⟨rfl, rfl⟩
  go_wp2_with fail
  rw [← HWA.out] at HW0
  refine HW0.out.mono ?_
  rintro y w1 ⟨rfl, hr1, hk1⟩
  rw [HWA.out] at hk1
  rw [HB00.out] at hr1
  have gz1 := hk1.blk HA.out.2 (by omega)
  have hb1 := HA.out.1.trans (hk1.below HA.out.1.size (fun j e => by rw [e]; omega))
  have H1 := Lib.hid (And.intro hr1 (And.intro gz1 hb1))
  clear hr1 gz1 hb1 hk1 HW0
  go_wp2_with fail
  refine (HKD.out _).mono ?_
  rintro y w2 ⟨rfl, hb2⟩
  have hr2 := H1.out.1.up hb2
  have gz2 := H1.out.2.1.later hb2
  have hbb2 := sub_trans H1.out.2.2 hb2
  have hlt2 := hr2.lt
  have H3 := Lib.hid (And.intro (hr2.up (sub_alloc (Below.refl _ w2) (.cells (Cl.arr ⟨0, ⟨#[]⟩, 0, 0, 0, 0, 0, 0, 0, 0, 0⟩) 50))) (And.intro (gz2.alloc (.cells (Cl.arr ⟨0, ⟨#[]⟩, 0, 0, 0, 0, 0, 0, 0, 0, 0⟩) 50)) (And.intro (sub_alloc hbb2 (.cells (Cl.arr ⟨0, ⟨#[]⟩, 0, 0, 0, 0, 0, 0, 0, 0, 0⟩) 50)) (Blk.new_at w2 50 (Cl.arr ⟨0, ⟨#[]⟩, 0, 0, 0, 0, 0, 0, 0, 0, 0⟩) (g := w2.heap.size) rfl))))
  have HLT : Hid (w.heap.size + 2 < w2.heap.size) := Lib.hid hlt2
  clear hr2 gz2 hbb2 hlt2 hb2 H1
  have gz : Blk _ w.heap.size 50 Cl.zero.arr := H3.out.2.1
  have hbb := H3.out.2.2.1
  obtain ⟨d0, d1, d2, d3, d4, d5, d6, d7, d8, d9, d10⟩ := gz.c11
  have f0 := gz.frozen
  simp only [Cl.arr] at d0 d1 d2 d3 d4 d5 d6 d7 d8 d9 d10 f0
  have z := gz.stCl Cl.zero
  have hz := below_stCl hbb (g := w.heap.size) (Nat.le_refl _) Cl.zero
  have HZ := Lib.hid (And.intro z hz)
  clear z hz gz hbb
  unfold stCl at HZ
  go_wp2
  obtain ⟨z0, z1, z2, z3, z4, z5, z6, z7, z8, z9, z10⟩ := HZ.out.1.c11
  simp only [Cl.zero, Cl.arr] at z0 z1 z2 z3 z4 z5 z6 z7 z8 z9 z10
  exact bodyPost_ret (v := .tuple #[.agg #[.int .i64 0, .string ⟨#[]⟩, .int .i64 0, .int .i64 0, .int .i64 0, .int .i64 0, .int .i64 0, .int .i64 0, .int .i64 0, .int .i64 0, .int .i64 0], .int .i64 14]) (by simp [results, Tryz.results68, go_sem, z0, z1, z2, z3, z4, z5, z6, z7, z8, z9, z10]; try rfl) rfl ⟨by rw [HPE.out]; rfl, HZ.out.2⟩
theorem lparse_1 (s : ByteArray) (w : World) (hR : Ready w) (hs : s.size ≤ 1000) (hk : kindW (headW (wordsB 32 s)) = 1) :
    Calls Tryz.prog 68 #[.string s] w fun y w' => y = .returned (.tuple #[(parseC s).1.val, .int .i64 (parseC s).2]) ∧ Below w.heap.size w w' := by
  have hne := wordsB_ne 32 s
  have hwl := wordsB_len 32 s
  have hlen : (wordsB 32 s).length ≤ 1000000 := by omega
  have hlen0 : 0 < (wordsB 32 s).length := List.length_pos_iff.2 hne
  have HP1 := Lib.hid (fun h : (((false || decide ((wordsB 32 s).length ≤ 1)) || !(numAt (wordsB 32 s) 2).isSome) || !(numAt (wordsB 32 s) 3).isSome) = true ∨ 4 < (wordsB 32 s).length => parseC_form (s := s) (by omega) (by rw [hk]; exact read_no_1 hne h))
  have HRY := Lib.hid (fun h h2 => read_yes_1 (all := wordsB 32 s) hne h h2)
  have HP2 := Lib.hid (fun x (hc : readC 1 (wordsB 32 s) = some x) => parseC_told (s := s) (x := x) (by omega) (by rw [hk]; exact hc))
  have HT := Lib.hid (fun x W hRW hx h1 h8 (hc : readC 1 (wordsB 32 s) = some x) => told_any x s W 1 hRW hx h1 h8 hs hc)
  have HSZ : Hid (∀ x ∈ wordsB 32 s, x.size ≤ 1000000) := Lib.hid (fun x hx => by have := wordsB_sizes hx; omega)
  have HIZ : Hid (∀ j, (wdAt (wordsB 32 s) j).size ≤ 100000) := Lib.hid (fun j => by have := wd_size (s := s) j; omega)
  have HKD : Hid (∀ W, Calls Tryz.prog 81 #[.string (wdAt (wordsB 32 s) 0)] W fun y w' => y = .returned (.int .i64 1) ∧ Below W.heap.size W w') := Lib.hid (fun W => by
    have h := kind_any (headW (wordsB 32 s)) W
    rw [hk] at h
    have e : headW (wordsB 32 s) = wdAt (wordsB 32 s) 0 := by
      unfold headW wdAt
      cases wordsB 32 s <;> rfl
    rw [e] at h
    exact h)
  have HSP := Lib.hid (fun W hM => split_any 32 s (by omega) W hM)
  have HR := Lib.hid hR
  clear hR hs hk hne hwl
  generalize parseC s = ps at *
  generalize wordsB 32 s = all at *
  have hba0 : (false || decide (all.length ≤ 0)) = false := by rw [Bool.false_or, decide_eq_false_iff_not]; omega
  have HB00 := Lib.hid hba0
  clear hba0
  obtain ⟨WA, hWA⟩ : ∃ WA, ((w.alloc (.cells Cl.zero.arr 50)).alloc (.cells (all.map Value.string).toArray 9)).alloc (.cells #[.slice (some ⟨w.heap.size + 1, 0, none⟩) all.length all.length, .bool false] 124) = WA := ⟨_, rfl⟩
  have hbA : Below w.heap.size w WA := by rw [← hWA]; exact sub_alloc (sub_alloc (sub_alloc (Below.refl _ w) _) _) _
  have gzA : Blk WA w.heap.size 50 Cl.zero.arr := by rw [← hWA]; exact ((Blk.new_at _ _ _ rfl).alloc _).alloc _
  have hrA : RdAt WA (w.heap.size + 2) (w.heap.size + 1) all (min 0 all.length) false := by
    rw [← hWA, Nat.zero_min]
    exact ⟨⟨0, fun _ => rfl, Blk.new_at _ _ _ (by simp)⟩, (Blk.new_at _ _ _ (by simp)).alloc _, Nat.zero_le _⟩
  have HW0 := Lib.hid (word_any WA (w.heap.size + 2) (w.heap.size + 1) 0 all false hlen hrA)
  have HA := Lib.hid (And.intro hbA gzA)
  have HM0 := Lib.hid ((HR.out.up (sub_alloc (Below.refl _ w) (.cells Cl.zero.arr 50))).max)
  have HWA := Lib.hid hWA
  clear hbA gzA hrA hWA
  go_enter Tryz.func68, Tryz.ntmps68
  go_wp2_with fail
  refine (HSP.out _ HM0.out).mono ?_
  rintro y v0 ⟨rfl, rfl⟩
  go_wp2_with fail
  rw [← HWA.out] at HW0
  refine HW0.out.mono ?_
  rintro y w1 ⟨rfl, hr1, hk1⟩
  rw [HWA.out] at hk1
  rw [HB00.out] at hr1
  have gz1 := hk1.blk HA.out.2 (by omega)
  have hb1 := HA.out.1.trans (hk1.below HA.out.1.size (fun j e => by rw [e]; omega))
  have H1 := Lib.hid (And.intro hr1 (And.intro gz1 hb1))
  clear hr1 gz1 hb1 hk1 HW0
  go_wp2_with fail
  refine (HKD.out _).mono ?_
  rintro y w2 ⟨rfl, hb2⟩
  have hr2 := H1.out.1.up hb2
  have gz2 := H1.out.2.1.later hb2
  have hbb2 := sub_trans H1.out.2.2 hb2
  have hlt2 := hr2.lt
  have H3 := Lib.hid (And.intro (hr2.up (sub_alloc (Below.refl _ w2) (.cells (Cl.arr ⟨1, ⟨#[]⟩, 0, 0, 0, 0, 0, 0, 0, 0, 0⟩) 50))) (And.intro (gz2.alloc (.cells (Cl.arr ⟨1, ⟨#[]⟩, 0, 0, 0, 0, 0, 0, 0, 0, 0⟩) 50)) (And.intro (sub_alloc hbb2 (.cells (Cl.arr ⟨1, ⟨#[]⟩, 0, 0, 0, 0, 0, 0, 0, 0, 0⟩) 50)) (Blk.new_at w2 50 (Cl.arr ⟨1, ⟨#[]⟩, 0, 0, 0, 0, 0, 0, 0, 0, 0⟩) (g := w2.heap.size) rfl))))
  have HLT : Hid (w.heap.size + 2 < w2.heap.size) := Lib.hid hlt2
  clear hr2 gz2 hbb2 hlt2 hb2 H1
  go_wp2_with fail
  refine (word_any _ _ _ 1 all _ hlen H3.out.1).mono ?_
  rintro y u0 ⟨rfl, hr, hq⟩
  have G0 := Lib.hid (And.intro hr (And.intro (hq.blk H3.out.2.1 (by omega)) (And.intro (H3.out.2.2.1.trans (hq.below H3.out.2.2.1.size (fun j e => by rw [e]; omega))) (hq.blk H3.out.2.2.2 (by have := HLT.out; omega)))))
  clear hr hq H3
  go_wp2_with fail
  refine (num_any w _ _ _ 2 all _ hlen HSZ.out HR.out G0.out.2.2.1 (by omega) G0.out.1).mono ?_
  rintro y u1 ⟨n2, rfl, hn, hnv, hr, hq⟩
  have HN2 := Lib.hid (And.intro hn hnv)
  clear hn hnv
  have G1 := Lib.hid (And.intro hr (And.intro (hq.blk G0.out.2.1 (by omega)) (And.intro (G0.out.2.2.1.trans (hq.below G0.out.2.2.1.size (fun j e => by rw [e]; omega))) (hq.blk G0.out.2.2.2 (by have := HLT.out; omega)))))
  clear hr hq G0
  go_wp2_with fail
  refine (num_any w _ _ _ 3 all _ hlen HSZ.out HR.out G1.out.2.2.1 (by omega) G1.out.1).mono ?_
  rintro y u2 ⟨n3, rfl, hn, hnv, hr, hq⟩
  have HN3 := Lib.hid (And.intro hn hnv)
  clear hn hnv
  have G2 := Lib.hid (And.intro hr (And.intro (hq.blk G1.out.2.1 (by omega)) (And.intro (G1.out.2.2.1.trans (hq.below G1.out.2.2.1.size (fun j e => by rw [e]; omega))) (hq.blk G1.out.2.2.2 (by have := HLT.out; omega)))))
  clear hr hq G1
  have gx := G2.out.2.2.2
  obtain ⟨e0, e1, e2, e3, e4, e5, e6, e7, e8, e9, e10⟩ := gx.c11
  have f5 := gx.frozen
  have hX := (((gx.set_ 1 (.string (wdAt all 1))).set_ 2 (.int .i64 n2)).set_ 3 (.int .i64 n3))
  simp only [Cl.arr, List.setIfInBounds_toArray, List.set_cons_zero, List.set_cons_succ] at hX
  have hX : Blk _ w2.heap.size 50 (Cl.arr ⟨1, wdAt all 1, n2, n3, 0, 0, 0, 0, 0, 0, 0⟩) := hX
  have hrX := G2.out.1.keep ((((Keep.refl (fun b => b = w2.heap.size) _).setCell (p := ⟨w2.heap.size, 1, none⟩) (.inl rfl) (.string (wdAt all 1))).setCell (p := ⟨w2.heap.size, 2, none⟩) (.inl rfl) (.int .i64 n2)).setCell (p := ⟨w2.heap.size, 3, none⟩) (.inl rfl) (.int .i64 n3)) (by have := HLT.out; omega) (by have := HLT.out; omega)
  have HX := Lib.hid (And.intro hX (And.intro hrX (And.intro (((G2.out.2.1.far (p := ⟨w2.heap.size, 1, none⟩) (by have := HLT.out; simp only; omega) (.string (wdAt all 1))).far (p := ⟨w2.heap.size, 2, none⟩) (by have := HLT.out; simp only; omega) (.int .i64 n2)).far (p := ⟨w2.heap.size, 3, none⟩) (by have := HLT.out; simp only; omega) (.int .i64 n3)) (((G2.out.2.2.1.setCell (p := ⟨w2.heap.size, 1, none⟩) (by have := HLT.out; simp only; omega) (.string (wdAt all 1))).setCell (p := ⟨w2.heap.size, 2, none⟩) (by have := HLT.out; simp only; omega) (.int .i64 n2)).setCell (p := ⟨w2.heap.size, 3, none⟩) (by have := HLT.out; simp only; omega) (.int .i64 n3)))))
  clear hX hrX gx G2
  have HY := Lib.hid (fun h h2 => HRY.out h h2)
  obtain ⟨off, _, hbx⟩ := HX.out.2.1.box
  have r0 := hbx.cell 0
  have r1 := hbx.cell 1
  simp only [List.getElem?_toArray, List.getElem?_cons_zero, List.getElem?_cons_succ] at r0 r1
  clear hbx
  generalize hbd : (((false || decide (all.length ≤ 1)) || !(numAt all 2).isSome) || !(numAt all 3).isSome) = bd at *
  have HBD := Lib.hid hbd
  clear hbd
  cases bd with
  | true =>
    have HPE : Hid (ps = (Cl.zero, 10)) := Lib.hid (HP1.out (.inl rfl))
    have gz := HX.out.2.2.1
    have hbb := HX.out.2.2.2
    obtain ⟨d0, d1, d2, d3, d4, d5, d6, d7, d8, d9, d10⟩ := gz.c11
    have f0 := gz.frozen
    clear HX
    have z := gz.stCl Cl.zero
    have hz := below_stCl hbb (g := w.heap.size) (Nat.le_refl _) Cl.zero
    have HZ := Lib.hid (And.intro z hz)
    clear z hz gz hbb
    unfold stCl at HZ
    go_wp2
    obtain ⟨z0, z1, z2, z3, z4, z5, z6, z7, z8, z9, z10⟩ := HZ.out.1.c11
    simp only [Cl.zero, Cl.arr] at z0 z1 z2 z3 z4 z5 z6 z7 z8 z9 z10
    exact bodyPost_ret (v := .tuple #[.agg #[.int .i64 0, .string ⟨#[]⟩, .int .i64 0, .int .i64 0, .int .i64 0, .int .i64 0, .int .i64 0, .int .i64 0, .int .i64 0, .int .i64 0, .int .i64 0], .int .i64 10]) (by simp [results, Tryz.results68, go_sem, z0, z1, z2, z3, z4, z5, z6, z7, z8, z9, z10]; try rfl) rfl ⟨by rw [HPE.out]; rfl, HZ.out.2⟩
  | false =>
    by_cases hlg : 4 < all.length
    · have HPE : Hid (ps = (Cl.zero, 10)) := Lib.hid (HP1.out (.inr hlg))
      have hlgI : (0 : Int) < ((all.length - min 4 all.length : Nat) : Int) := by omega
      have hlgN : 0 < all.length - min 4 all.length := by omega
      have gz := HX.out.2.2.1
      have hbb := HX.out.2.2.2
      obtain ⟨d0, d1, d2, d3, d4, d5, d6, d7, d8, d9, d10⟩ := gz.c11
      have f0 := gz.frozen
      clear HX hlg
      generalize all.length - min 4 all.length = rest at *
      have z := gz.stCl Cl.zero
      have hz := below_stCl hbb (g := w.heap.size) (Nat.le_refl _) Cl.zero
      have HZ := Lib.hid (And.intro z hz)
      clear z hz gz hbb
      unfold stCl at HZ
      go_wp2
      obtain ⟨z0, z1, z2, z3, z4, z5, z6, z7, z8, z9, z10⟩ := HZ.out.1.c11
      simp only [Cl.zero, Cl.arr] at z0 z1 z2 z3 z4 z5 z6 z7 z8 z9 z10
      exact bodyPost_ret (v := .tuple #[.agg #[.int .i64 0, .string ⟨#[]⟩, .int .i64 0, .int .i64 0, .int .i64 0, .int .i64 0, .int .i64 0, .int .i64 0, .int .i64 0, .int .i64 0, .int .i64 0], .int .i64 10]) (by simp [results, Tryz.results68, go_sem, z0, z1, z2, z3, z4, z5, z6, z7, z8, z9, z10]; try rfl) rfl ⟨by rw [HPE.out]; rfl, HZ.out.2⟩
    · have hlgI : ((all.length - min 4 all.length : Nat) : Int) = 0 := by omega
      have hlgN : all.length - min 4 all.length = 0 := by omega
      obtain ⟨y2, y3, ey2, ey3, hrc⟩ := HRY.out (by first | rfl | trivial) hlg
      obtain rfl : n2 = y2 := HN2.out.2 _ ey2
      obtain rfl : n3 = y3 := HN3.out.2 _ ey3
      clear ey2 ey3
      have hxo : Cl.ok ⟨1, wdAt all 1, n2, n3, 0, 0, 0, 0, 0, 0, 0⟩ := ⟨(show In64 1 from ⟨by decide, by decide⟩), HN2.out.1, HN3.out.1, zero_in, ⟨zero_in, zero_in, zero_in, zero_in, zero_in, zero_in⟩, HIZ.out _⟩
      have HPE := Lib.hid (HP2.out ⟨1, wdAt all 1, n2, n3, 0, 0, 0, 0, 0, 0, 0⟩ hrc)
      have HTC := Lib.hid (fun W hRW => HT.out ⟨1, wdAt all 1, n2, n3, 0, 0, 0, 0, 0, 0, 0⟩ W hRW hxo (show (1 : Int) ≤ 1 by decide) (show (1 : Int) ≤ 8 by decide) hrc)
      obtain ⟨x0, x1, x2, x3, x4, x5, x6, x7, x8, x9, x10⟩ := HX.out.1.c11
      try simp only [Cl.arr] at x0 x1 x2 x3 x4 x5 x6 x7 x8 x9 x10
      clear hxo hrc hlg HP2 HT HRY HP1 HY
      generalize toldC ⟨1, wdAt all 1, n2, n3, 0, 0, 0, 0, 0, 0, 0⟩ s = ts at *
      obtain ⟨ty, te⟩ := ts
      go_wp2_with fail
      refine (HTC.out _ (HR.out.up HX.out.2.2.2)).mono ?_
      rintro y w8 ⟨rfl, hb8⟩
      have gz := HX.out.2.2.1.later hb8
      have hbb := sub_trans HX.out.2.2.2 hb8
      obtain ⟨d0, d1, d2, d3, d4, d5, d6, d7, d8, d9, d10⟩ := gz.c11
      have f0 := gz.frozen
      clear HX hb8 x0 x1 x2 x3 x4 x5 x6 x7 x8 x9 x10
      have z := gz.stCl ty
      have hz := below_stCl hbb (g := w.heap.size) (Nat.le_refl _) ty
      have HZ := Lib.hid (And.intro z hz)
      clear z hz gz hbb
      unfold stCl at HZ
      simp only [Cl.val, Cl.arr]
      go_wp2
      obtain ⟨z0, z1, z2, z3, z4, z5, z6, z7, z8, z9, z10⟩ := HZ.out.1.c11
      exact bodyPost_ret (v := .tuple #[.agg #[.int .i64 ty.k, .string ty.id, .int .i64 ty.tick, .int .i64 ty.value, .int .i64 ty.handle, .int .i64 ty.a, .int .i64 ty.b, .int .i64 ty.c, .int .i64 ty.d, .int .i64 ty.e, .int .i64 ty.f], .int .i64 te]) (by simp [results, Tryz.results68, go_sem, z0, z1, z2, z3, z4, z5, z6, z7, z8, z9, z10]; try rfl) rfl ⟨by rw [HPE.out]; rfl, HZ.out.2⟩
theorem lparse_2 (s : ByteArray) (w : World) (hR : Ready w) (hs : s.size ≤ 1000) (hk : kindW (headW (wordsB 32 s)) = 2) :
    Calls Tryz.prog 68 #[.string s] w fun y w' => y = .returned (.tuple #[(parseC s).1.val, .int .i64 (parseC s).2]) ∧ Below w.heap.size w w' := by
  have hne := wordsB_ne 32 s
  have hwl := wordsB_len 32 s
  have hlen : (wordsB 32 s).length ≤ 1000000 := by omega
  have hlen0 : 0 < (wordsB 32 s).length := List.length_pos_iff.2 hne
  have HP1 := Lib.hid (fun h : (false || !(numAt (wordsB 32 s) 1).isSome) = true ∨ 2 < (wordsB 32 s).length => parseC_form (s := s) (by omega) (by rw [hk]; exact read_no_2 hne h))
  have HRY := Lib.hid (fun h h2 => read_yes_2 (all := wordsB 32 s) hne h h2)
  have HP2 := Lib.hid (fun x (hc : readC 2 (wordsB 32 s) = some x) => parseC_told (s := s) (x := x) (by omega) (by rw [hk]; exact hc))
  have HT := Lib.hid (fun x W hRW hx h1 h8 (hc : readC 2 (wordsB 32 s) = some x) => told_any x s W 2 hRW hx h1 h8 hs hc)
  have HSZ : Hid (∀ x ∈ wordsB 32 s, x.size ≤ 1000000) := Lib.hid (fun x hx => by have := wordsB_sizes hx; omega)
  have HIZ : Hid (∀ j, (wdAt (wordsB 32 s) j).size ≤ 100000) := Lib.hid (fun j => by have := wd_size (s := s) j; omega)
  have HKD : Hid (∀ W, Calls Tryz.prog 81 #[.string (wdAt (wordsB 32 s) 0)] W fun y w' => y = .returned (.int .i64 2) ∧ Below W.heap.size W w') := Lib.hid (fun W => by
    have h := kind_any (headW (wordsB 32 s)) W
    rw [hk] at h
    have e : headW (wordsB 32 s) = wdAt (wordsB 32 s) 0 := by
      unfold headW wdAt
      cases wordsB 32 s <;> rfl
    rw [e] at h
    exact h)
  have HSP := Lib.hid (fun W hM => split_any 32 s (by omega) W hM)
  have HR := Lib.hid hR
  clear hR hs hk hne hwl
  generalize parseC s = ps at *
  generalize wordsB 32 s = all at *
  have hba0 : (false || decide (all.length ≤ 0)) = false := by rw [Bool.false_or, decide_eq_false_iff_not]; omega
  have HB00 := Lib.hid hba0
  clear hba0
  obtain ⟨WA, hWA⟩ : ∃ WA, ((w.alloc (.cells Cl.zero.arr 50)).alloc (.cells (all.map Value.string).toArray 9)).alloc (.cells #[.slice (some ⟨w.heap.size + 1, 0, none⟩) all.length all.length, .bool false] 124) = WA := ⟨_, rfl⟩
  have hbA : Below w.heap.size w WA := by rw [← hWA]; exact sub_alloc (sub_alloc (sub_alloc (Below.refl _ w) _) _) _
  have gzA : Blk WA w.heap.size 50 Cl.zero.arr := by rw [← hWA]; exact ((Blk.new_at _ _ _ rfl).alloc _).alloc _
  have hrA : RdAt WA (w.heap.size + 2) (w.heap.size + 1) all (min 0 all.length) false := by
    rw [← hWA, Nat.zero_min]
    exact ⟨⟨0, fun _ => rfl, Blk.new_at _ _ _ (by simp)⟩, (Blk.new_at _ _ _ (by simp)).alloc _, Nat.zero_le _⟩
  have HW0 := Lib.hid (word_any WA (w.heap.size + 2) (w.heap.size + 1) 0 all false hlen hrA)
  have HA := Lib.hid (And.intro hbA gzA)
  have HM0 := Lib.hid ((HR.out.up (sub_alloc (Below.refl _ w) (.cells Cl.zero.arr 50))).max)
  have HWA := Lib.hid hWA
  clear hbA gzA hrA hWA
  go_enter Tryz.func68, Tryz.ntmps68
  go_wp2_with fail
  refine (HSP.out _ HM0.out).mono ?_
  rintro y v0 ⟨rfl, rfl⟩
  go_wp2_with fail
  rw [← HWA.out] at HW0
  refine HW0.out.mono ?_
  rintro y w1 ⟨rfl, hr1, hk1⟩
  rw [HWA.out] at hk1
  rw [HB00.out] at hr1
  have gz1 := hk1.blk HA.out.2 (by omega)
  have hb1 := HA.out.1.trans (hk1.below HA.out.1.size (fun j e => by rw [e]; omega))
  have H1 := Lib.hid (And.intro hr1 (And.intro gz1 hb1))
  clear hr1 gz1 hb1 hk1 HW0
  go_wp2_with fail
  refine (HKD.out _).mono ?_
  rintro y w2 ⟨rfl, hb2⟩
  have hr2 := H1.out.1.up hb2
  have gz2 := H1.out.2.1.later hb2
  have hbb2 := sub_trans H1.out.2.2 hb2
  have hlt2 := hr2.lt
  have H3 := Lib.hid (And.intro (hr2.up (sub_alloc (Below.refl _ w2) (.cells (Cl.arr ⟨2, ⟨#[]⟩, 0, 0, 0, 0, 0, 0, 0, 0, 0⟩) 50))) (And.intro (gz2.alloc (.cells (Cl.arr ⟨2, ⟨#[]⟩, 0, 0, 0, 0, 0, 0, 0, 0, 0⟩) 50)) (And.intro (sub_alloc hbb2 (.cells (Cl.arr ⟨2, ⟨#[]⟩, 0, 0, 0, 0, 0, 0, 0, 0, 0⟩) 50)) (Blk.new_at w2 50 (Cl.arr ⟨2, ⟨#[]⟩, 0, 0, 0, 0, 0, 0, 0, 0, 0⟩) (g := w2.heap.size) rfl))))
  have HLT : Hid (w.heap.size + 2 < w2.heap.size) := Lib.hid hlt2
  clear hr2 gz2 hbb2 hlt2 hb2 H1
  go_wp2_with fail
  refine (num_any w _ _ _ 1 all _ hlen HSZ.out HR.out H3.out.2.2.1 (by omega) H3.out.1).mono ?_
  rintro y u0 ⟨n1, rfl, hn, hnv, hr, hq⟩
  have HN1 := Lib.hid (And.intro hn hnv)
  clear hn hnv
  have G0 := Lib.hid (And.intro hr (And.intro (hq.blk H3.out.2.1 (by omega)) (And.intro (H3.out.2.2.1.trans (hq.below H3.out.2.2.1.size (fun j e => by rw [e]; omega))) (hq.blk H3.out.2.2.2 (by have := HLT.out; omega)))))
  clear hr hq H3
  have gx := G0.out.2.2.2
  obtain ⟨e0, e1, e2, e3, e4, e5, e6, e7, e8, e9, e10⟩ := gx.c11
  have f5 := gx.frozen
  have hX := (gx.set_ 2 (.int .i64 n1))
  simp only [Cl.arr, List.setIfInBounds_toArray, List.set_cons_zero, List.set_cons_succ] at hX
  have hX : Blk _ w2.heap.size 50 (Cl.arr ⟨2, ⟨#[]⟩, n1, 0, 0, 0, 0, 0, 0, 0, 0⟩) := hX
  have hrX := G0.out.1.keep ((Keep.refl (fun b => b = w2.heap.size) _).setCell (p := ⟨w2.heap.size, 2, none⟩) (.inl rfl) (.int .i64 n1)) (by have := HLT.out; omega) (by have := HLT.out; omega)
  have HX := Lib.hid (And.intro hX (And.intro hrX (And.intro (G0.out.2.1.far (p := ⟨w2.heap.size, 2, none⟩) (by have := HLT.out; simp only; omega) (.int .i64 n1)) (G0.out.2.2.1.setCell (p := ⟨w2.heap.size, 2, none⟩) (by have := HLT.out; simp only; omega) (.int .i64 n1)))))
  clear hX hrX gx G0
  have HY := Lib.hid (fun h h2 => HRY.out h h2)
  obtain ⟨off, _, hbx⟩ := HX.out.2.1.box
  have r0 := hbx.cell 0
  have r1 := hbx.cell 1
  simp only [List.getElem?_toArray, List.getElem?_cons_zero, List.getElem?_cons_succ] at r0 r1
  clear hbx
  generalize hbd : (false || !(numAt all 1).isSome) = bd at *
  have HBD := Lib.hid hbd
  clear hbd
  cases bd with
  | true =>
    have HPE : Hid (ps = (Cl.zero, 10)) := Lib.hid (HP1.out (.inl rfl))
    have gz := HX.out.2.2.1
    have hbb := HX.out.2.2.2
    obtain ⟨d0, d1, d2, d3, d4, d5, d6, d7, d8, d9, d10⟩ := gz.c11
    have f0 := gz.frozen
    clear HX
    have z := gz.stCl Cl.zero
    have hz := below_stCl hbb (g := w.heap.size) (Nat.le_refl _) Cl.zero
    have HZ := Lib.hid (And.intro z hz)
    clear z hz gz hbb
    unfold stCl at HZ
    go_wp2
    obtain ⟨z0, z1, z2, z3, z4, z5, z6, z7, z8, z9, z10⟩ := HZ.out.1.c11
    simp only [Cl.zero, Cl.arr] at z0 z1 z2 z3 z4 z5 z6 z7 z8 z9 z10
    exact bodyPost_ret (v := .tuple #[.agg #[.int .i64 0, .string ⟨#[]⟩, .int .i64 0, .int .i64 0, .int .i64 0, .int .i64 0, .int .i64 0, .int .i64 0, .int .i64 0, .int .i64 0, .int .i64 0], .int .i64 10]) (by simp [results, Tryz.results68, go_sem, z0, z1, z2, z3, z4, z5, z6, z7, z8, z9, z10]; try rfl) rfl ⟨by rw [HPE.out]; rfl, HZ.out.2⟩
  | false =>
    by_cases hlg : 2 < all.length
    · have HPE : Hid (ps = (Cl.zero, 10)) := Lib.hid (HP1.out (.inr hlg))
      have hlgI : (0 : Int) < ((all.length - min 2 all.length : Nat) : Int) := by omega
      have hlgN : 0 < all.length - min 2 all.length := by omega
      have gz := HX.out.2.2.1
      have hbb := HX.out.2.2.2
      obtain ⟨d0, d1, d2, d3, d4, d5, d6, d7, d8, d9, d10⟩ := gz.c11
      have f0 := gz.frozen
      clear HX hlg
      generalize all.length - min 2 all.length = rest at *
      have z := gz.stCl Cl.zero
      have hz := below_stCl hbb (g := w.heap.size) (Nat.le_refl _) Cl.zero
      have HZ := Lib.hid (And.intro z hz)
      clear z hz gz hbb
      unfold stCl at HZ
      go_wp2
      obtain ⟨z0, z1, z2, z3, z4, z5, z6, z7, z8, z9, z10⟩ := HZ.out.1.c11
      simp only [Cl.zero, Cl.arr] at z0 z1 z2 z3 z4 z5 z6 z7 z8 z9 z10
      exact bodyPost_ret (v := .tuple #[.agg #[.int .i64 0, .string ⟨#[]⟩, .int .i64 0, .int .i64 0, .int .i64 0, .int .i64 0, .int .i64 0, .int .i64 0, .int .i64 0, .int .i64 0, .int .i64 0], .int .i64 10]) (by simp [results, Tryz.results68, go_sem, z0, z1, z2, z3, z4, z5, z6, z7, z8, z9, z10]; try rfl) rfl ⟨by rw [HPE.out]; rfl, HZ.out.2⟩
    · have hlgI : ((all.length - min 2 all.length : Nat) : Int) = 0 := by omega
      have hlgN : all.length - min 2 all.length = 0 := by omega
      obtain ⟨y1, ey1, hrc⟩ := HRY.out (by first | rfl | trivial) hlg
      obtain rfl : n1 = y1 := HN1.out.2 _ ey1
      clear ey1
      have hxo : Cl.ok ⟨2, ⟨#[]⟩, n1, 0, 0, 0, 0, 0, 0, 0, 0⟩ := ⟨(show In64 2 from ⟨by decide, by decide⟩), HN1.out.1, zero_in, zero_in, ⟨zero_in, zero_in, zero_in, zero_in, zero_in, zero_in⟩, (by show (⟨#[]⟩ : ByteArray).size ≤ 100000; decide)⟩
      have HPE := Lib.hid (HP2.out ⟨2, ⟨#[]⟩, n1, 0, 0, 0, 0, 0, 0, 0, 0⟩ hrc)
      have HTC := Lib.hid (fun W hRW => HT.out ⟨2, ⟨#[]⟩, n1, 0, 0, 0, 0, 0, 0, 0, 0⟩ W hRW hxo (show (1 : Int) ≤ 2 by decide) (show (2 : Int) ≤ 8 by decide) hrc)
      obtain ⟨x0, x1, x2, x3, x4, x5, x6, x7, x8, x9, x10⟩ := HX.out.1.c11
      try simp only [Cl.arr] at x0 x1 x2 x3 x4 x5 x6 x7 x8 x9 x10
      clear hxo hrc hlg HP2 HT HRY HP1 HY
      generalize toldC ⟨2, ⟨#[]⟩, n1, 0, 0, 0, 0, 0, 0, 0, 0⟩ s = ts at *
      obtain ⟨ty, te⟩ := ts
      go_wp2_with fail
      refine (HTC.out _ (HR.out.up HX.out.2.2.2)).mono ?_
      rintro y w8 ⟨rfl, hb8⟩
      have gz := HX.out.2.2.1.later hb8
      have hbb := sub_trans HX.out.2.2.2 hb8
      obtain ⟨d0, d1, d2, d3, d4, d5, d6, d7, d8, d9, d10⟩ := gz.c11
      have f0 := gz.frozen
      clear HX hb8 x0 x1 x2 x3 x4 x5 x6 x7 x8 x9 x10
      have z := gz.stCl ty
      have hz := below_stCl hbb (g := w.heap.size) (Nat.le_refl _) ty
      have HZ := Lib.hid (And.intro z hz)
      clear z hz gz hbb
      unfold stCl at HZ
      simp only [Cl.val, Cl.arr]
      go_wp2
      obtain ⟨z0, z1, z2, z3, z4, z5, z6, z7, z8, z9, z10⟩ := HZ.out.1.c11
      exact bodyPost_ret (v := .tuple #[.agg #[.int .i64 ty.k, .string ty.id, .int .i64 ty.tick, .int .i64 ty.value, .int .i64 ty.handle, .int .i64 ty.a, .int .i64 ty.b, .int .i64 ty.c, .int .i64 ty.d, .int .i64 ty.e, .int .i64 ty.f], .int .i64 te]) (by simp [results, Tryz.results68, go_sem, z0, z1, z2, z3, z4, z5, z6, z7, z8, z9, z10]; try rfl) rfl ⟨by rw [HPE.out]; rfl, HZ.out.2⟩
theorem lparse_3 (s : ByteArray) (w : World) (hR : Ready w) (hs : s.size ≤ 1000) (hk : kindW (headW (wordsB 32 s)) = 3) :
    Calls Tryz.prog 68 #[.string s] w fun y w' => y = .returned (.tuple #[(parseC s).1.val, .int .i64 (parseC s).2]) ∧ Below w.heap.size w w' := by
  have hne := wordsB_ne 32 s
  have hwl := wordsB_len 32 s
  have hlen : (wordsB 32 s).length ≤ 1000000 := by omega
  have hlen0 : 0 < (wordsB 32 s).length := List.length_pos_iff.2 hne
  have HP1 := Lib.hid (fun h : false = true ∨ 1 < (wordsB 32 s).length => parseC_form (s := s) (by omega) (by rw [hk]; exact read_no_3 hne h))
  have HRY := Lib.hid (fun h h2 => read_yes_3 (all := wordsB 32 s) hne h h2)
  have HP2 := Lib.hid (fun x (hc : readC 3 (wordsB 32 s) = some x) => parseC_told (s := s) (x := x) (by omega) (by rw [hk]; exact hc))
  have HT := Lib.hid (fun x W hRW hx h1 h8 (hc : readC 3 (wordsB 32 s) = some x) => told_any x s W 3 hRW hx h1 h8 hs hc)
  have HSZ : Hid (∀ x ∈ wordsB 32 s, x.size ≤ 1000000) := Lib.hid (fun x hx => by have := wordsB_sizes hx; omega)
  have HIZ : Hid (∀ j, (wdAt (wordsB 32 s) j).size ≤ 100000) := Lib.hid (fun j => by have := wd_size (s := s) j; omega)
  have HKD : Hid (∀ W, Calls Tryz.prog 81 #[.string (wdAt (wordsB 32 s) 0)] W fun y w' => y = .returned (.int .i64 3) ∧ Below W.heap.size W w') := Lib.hid (fun W => by
    have h := kind_any (headW (wordsB 32 s)) W
    rw [hk] at h
    have e : headW (wordsB 32 s) = wdAt (wordsB 32 s) 0 := by
      unfold headW wdAt
      cases wordsB 32 s <;> rfl
    rw [e] at h
    exact h)
  have HSP := Lib.hid (fun W hM => split_any 32 s (by omega) W hM)
  have HR := Lib.hid hR
  clear hR hs hk hne hwl
  generalize parseC s = ps at *
  generalize wordsB 32 s = all at *
  have hba0 : (false || decide (all.length ≤ 0)) = false := by rw [Bool.false_or, decide_eq_false_iff_not]; omega
  have HB00 := Lib.hid hba0
  clear hba0
  obtain ⟨WA, hWA⟩ : ∃ WA, ((w.alloc (.cells Cl.zero.arr 50)).alloc (.cells (all.map Value.string).toArray 9)).alloc (.cells #[.slice (some ⟨w.heap.size + 1, 0, none⟩) all.length all.length, .bool false] 124) = WA := ⟨_, rfl⟩
  have hbA : Below w.heap.size w WA := by rw [← hWA]; exact sub_alloc (sub_alloc (sub_alloc (Below.refl _ w) _) _) _
  have gzA : Blk WA w.heap.size 50 Cl.zero.arr := by rw [← hWA]; exact ((Blk.new_at _ _ _ rfl).alloc _).alloc _
  have hrA : RdAt WA (w.heap.size + 2) (w.heap.size + 1) all (min 0 all.length) false := by
    rw [← hWA, Nat.zero_min]
    exact ⟨⟨0, fun _ => rfl, Blk.new_at _ _ _ (by simp)⟩, (Blk.new_at _ _ _ (by simp)).alloc _, Nat.zero_le _⟩
  have HW0 := Lib.hid (word_any WA (w.heap.size + 2) (w.heap.size + 1) 0 all false hlen hrA)
  have HA := Lib.hid (And.intro hbA gzA)
  have HM0 := Lib.hid ((HR.out.up (sub_alloc (Below.refl _ w) (.cells Cl.zero.arr 50))).max)
  have HWA := Lib.hid hWA
  clear hbA gzA hrA hWA
  go_enter Tryz.func68, Tryz.ntmps68
  go_wp2_with fail
  refine (HSP.out _ HM0.out).mono ?_
  rintro y v0 ⟨rfl, rfl⟩
  go_wp2_with fail
  rw [← HWA.out] at HW0
  refine HW0.out.mono ?_
  rintro y w1 ⟨rfl, hr1, hk1⟩
  rw [HWA.out] at hk1
  rw [HB00.out] at hr1
  have gz1 := hk1.blk HA.out.2 (by omega)
  have hb1 := HA.out.1.trans (hk1.below HA.out.1.size (fun j e => by rw [e]; omega))
  have H1 := Lib.hid (And.intro hr1 (And.intro gz1 hb1))
  clear hr1 gz1 hb1 hk1 HW0
  go_wp2_with fail
  refine (HKD.out _).mono ?_
  rintro y w2 ⟨rfl, hb2⟩
  have hr2 := H1.out.1.up hb2
  have gz2 := H1.out.2.1.later hb2
  have hbb2 := sub_trans H1.out.2.2 hb2
  have hlt2 := hr2.lt
  have H3 := Lib.hid (And.intro (hr2.up (sub_alloc (Below.refl _ w2) (.cells (Cl.arr ⟨3, ⟨#[]⟩, 0, 0, 0, 0, 0, 0, 0, 0, 0⟩) 50))) (And.intro (gz2.alloc (.cells (Cl.arr ⟨3, ⟨#[]⟩, 0, 0, 0, 0, 0, 0, 0, 0, 0⟩) 50)) (And.intro (sub_alloc hbb2 (.cells (Cl.arr ⟨3, ⟨#[]⟩, 0, 0, 0, 0, 0, 0, 0, 0, 0⟩) 50)) (Blk.new_at w2 50 (Cl.arr ⟨3, ⟨#[]⟩, 0, 0, 0, 0, 0, 0, 0, 0, 0⟩) (g := w2.heap.size) rfl))))
  have HLT : Hid (w.heap.size + 2 < w2.heap.size) := Lib.hid hlt2
  clear hr2 gz2 hbb2 hlt2 hb2 H1
  have gx := H3.out.2.2.2
  obtain ⟨e0, e1, e2, e3, e4, e5, e6, e7, e8, e9, e10⟩ := gx.c11
  have f5 := gx.frozen
  simp only [Cl.arr] at e0 e1 e2 e3 e4 e5 e6 e7 e8 e9 e10 f5
  have hX := gx
  have hX : Blk _ w2.heap.size 50 (Cl.arr ⟨3, ⟨#[]⟩, 0, 0, 0, 0, 0, 0, 0, 0, 0⟩) := hX
  have hrX := H3.out.1
  have HX := Lib.hid (And.intro hX (And.intro hrX (And.intro H3.out.2.1 H3.out.2.2.1)))
  clear hX hrX gx H3
  have HY := Lib.hid (fun h h2 => HRY.out h h2)
  obtain ⟨off, _, hbx⟩ := HX.out.2.1.box
  have r0 := hbx.cell 0
  have r1 := hbx.cell 1
  simp only [List.getElem?_toArray, List.getElem?_cons_zero, List.getElem?_cons_succ] at r0 r1
  clear hbx
  try skip
  · skip
    by_cases hlg : 1 < all.length
    · have HPE : Hid (ps = (Cl.zero, 10)) := Lib.hid (HP1.out (.inr hlg))
      have hlgI : (0 : Int) < ((all.length - min 1 all.length : Nat) : Int) := by omega
      have hlgN : 0 < all.length - min 1 all.length := by omega
      have gz := HX.out.2.2.1
      have hbb := HX.out.2.2.2
      obtain ⟨d0, d1, d2, d3, d4, d5, d6, d7, d8, d9, d10⟩ := gz.c11
      have f0 := gz.frozen
      simp only [Cl.arr] at d0 d1 d2 d3 d4 d5 d6 d7 d8 d9 d10 f0 r0 r1
      clear HX hlg
      generalize all.length - min 1 all.length = rest at *
      have z := gz.stCl Cl.zero
      have hz := below_stCl hbb (g := w.heap.size) (Nat.le_refl _) Cl.zero
      have HZ := Lib.hid (And.intro z hz)
      clear z hz gz hbb
      unfold stCl at HZ
      go_wp2
      obtain ⟨z0, z1, z2, z3, z4, z5, z6, z7, z8, z9, z10⟩ := HZ.out.1.c11
      simp only [Cl.zero, Cl.arr] at z0 z1 z2 z3 z4 z5 z6 z7 z8 z9 z10
      exact bodyPost_ret (v := .tuple #[.agg #[.int .i64 0, .string ⟨#[]⟩, .int .i64 0, .int .i64 0, .int .i64 0, .int .i64 0, .int .i64 0, .int .i64 0, .int .i64 0, .int .i64 0, .int .i64 0], .int .i64 10]) (by simp [results, Tryz.results68, go_sem, z0, z1, z2, z3, z4, z5, z6, z7, z8, z9, z10]; try rfl) rfl ⟨by rw [HPE.out]; rfl, HZ.out.2⟩
    · have hlgI : ((all.length - min 1 all.length : Nat) : Int) = 0 := by omega
      have hlgN : all.length - min 1 all.length = 0 := by omega
      have hrc := HRY.out (by first | rfl | trivial) hlg
      have hxo : Cl.ok ⟨3, ⟨#[]⟩, 0, 0, 0, 0, 0, 0, 0, 0, 0⟩ := ⟨(show In64 3 from ⟨by decide, by decide⟩), zero_in, zero_in, zero_in, ⟨zero_in, zero_in, zero_in, zero_in, zero_in, zero_in⟩, (by show (⟨#[]⟩ : ByteArray).size ≤ 100000; decide)⟩
      have HPE := Lib.hid (HP2.out ⟨3, ⟨#[]⟩, 0, 0, 0, 0, 0, 0, 0, 0, 0⟩ hrc)
      have HTC := Lib.hid (fun W hRW => HT.out ⟨3, ⟨#[]⟩, 0, 0, 0, 0, 0, 0, 0, 0, 0⟩ W hRW hxo (show (1 : Int) ≤ 3 by decide) (show (3 : Int) ≤ 8 by decide) hrc)
      obtain ⟨x0, x1, x2, x3, x4, x5, x6, x7, x8, x9, x10⟩ := HX.out.1.c11
      try simp only [Cl.arr] at x0 x1 x2 x3 x4 x5 x6 x7 x8 x9 x10
      simp only [Cl.arr] at r0 r1
      clear hxo hrc hlg HP2 HT HRY HP1 HY
      generalize toldC ⟨3, ⟨#[]⟩, 0, 0, 0, 0, 0, 0, 0, 0, 0⟩ s = ts at *
      obtain ⟨ty, te⟩ := ts
      go_wp2_with fail
      refine (HTC.out _ (HR.out.up HX.out.2.2.2)).mono ?_
      rintro y w8 ⟨rfl, hb8⟩
      have gz := HX.out.2.2.1.later hb8
      have hbb := sub_trans HX.out.2.2.2 hb8
      obtain ⟨d0, d1, d2, d3, d4, d5, d6, d7, d8, d9, d10⟩ := gz.c11
      have f0 := gz.frozen
      clear HX hb8 x0 x1 x2 x3 x4 x5 x6 x7 x8 x9 x10
      have z := gz.stCl ty
      have hz := below_stCl hbb (g := w.heap.size) (Nat.le_refl _) ty
      have HZ := Lib.hid (And.intro z hz)
      clear z hz gz hbb
      unfold stCl at HZ
      simp only [Cl.val, Cl.arr]
      go_wp2
      obtain ⟨z0, z1, z2, z3, z4, z5, z6, z7, z8, z9, z10⟩ := HZ.out.1.c11
      exact bodyPost_ret (v := .tuple #[.agg #[.int .i64 ty.k, .string ty.id, .int .i64 ty.tick, .int .i64 ty.value, .int .i64 ty.handle, .int .i64 ty.a, .int .i64 ty.b, .int .i64 ty.c, .int .i64 ty.d, .int .i64 ty.e, .int .i64 ty.f], .int .i64 te]) (by simp [results, Tryz.results68, go_sem, z0, z1, z2, z3, z4, z5, z6, z7, z8, z9, z10]; try rfl) rfl ⟨by rw [HPE.out]; rfl, HZ.out.2⟩
theorem lparse_4 (s : ByteArray) (w : World) (hR : Ready w) (hs : s.size ≤ 1000) (hk : kindW (headW (wordsB 32 s)) = 4) :
    Calls Tryz.prog 68 #[.string s] w fun y w' => y = .returned (.tuple #[(parseC s).1.val, .int .i64 (parseC s).2]) ∧ Below w.heap.size w w' := by
  have hne := wordsB_ne 32 s
  have hwl := wordsB_len 32 s
  have hlen : (wordsB 32 s).length ≤ 1000000 := by omega
  have hlen0 : 0 < (wordsB 32 s).length := List.length_pos_iff.2 hne
  have HP1 := Lib.hid (fun h : (false || !(numAt (wordsB 32 s) 1).isSome) = true ∨ 2 < (wordsB 32 s).length => parseC_form (s := s) (by omega) (by rw [hk]; exact read_no_4 hne h))
  have HRY := Lib.hid (fun h h2 => read_yes_4 (all := wordsB 32 s) hne h h2)
  have HP2 := Lib.hid (fun x (hc : readC 4 (wordsB 32 s) = some x) => parseC_told (s := s) (x := x) (by omega) (by rw [hk]; exact hc))
  have HT := Lib.hid (fun x W hRW hx h1 h8 (hc : readC 4 (wordsB 32 s) = some x) => told_any x s W 4 hRW hx h1 h8 hs hc)
  have HSZ : Hid (∀ x ∈ wordsB 32 s, x.size ≤ 1000000) := Lib.hid (fun x hx => by have := wordsB_sizes hx; omega)
  have HIZ : Hid (∀ j, (wdAt (wordsB 32 s) j).size ≤ 100000) := Lib.hid (fun j => by have := wd_size (s := s) j; omega)
  have HKD : Hid (∀ W, Calls Tryz.prog 81 #[.string (wdAt (wordsB 32 s) 0)] W fun y w' => y = .returned (.int .i64 4) ∧ Below W.heap.size W w') := Lib.hid (fun W => by
    have h := kind_any (headW (wordsB 32 s)) W
    rw [hk] at h
    have e : headW (wordsB 32 s) = wdAt (wordsB 32 s) 0 := by
      unfold headW wdAt
      cases wordsB 32 s <;> rfl
    rw [e] at h
    exact h)
  have HSP := Lib.hid (fun W hM => split_any 32 s (by omega) W hM)
  have HR := Lib.hid hR
  clear hR hs hk hne hwl
  generalize parseC s = ps at *
  generalize wordsB 32 s = all at *
  have hba0 : (false || decide (all.length ≤ 0)) = false := by rw [Bool.false_or, decide_eq_false_iff_not]; omega
  have HB00 := Lib.hid hba0
  clear hba0
  obtain ⟨WA, hWA⟩ : ∃ WA, ((w.alloc (.cells Cl.zero.arr 50)).alloc (.cells (all.map Value.string).toArray 9)).alloc (.cells #[.slice (some ⟨w.heap.size + 1, 0, none⟩) all.length all.length, .bool false] 124) = WA := ⟨_, rfl⟩
  have hbA : Below w.heap.size w WA := by rw [← hWA]; exact sub_alloc (sub_alloc (sub_alloc (Below.refl _ w) _) _) _
  have gzA : Blk WA w.heap.size 50 Cl.zero.arr := by rw [← hWA]; exact ((Blk.new_at _ _ _ rfl).alloc _).alloc _
  have hrA : RdAt WA (w.heap.size + 2) (w.heap.size + 1) all (min 0 all.length) false := by
    rw [← hWA, Nat.zero_min]
    exact ⟨⟨0, fun _ => rfl, Blk.new_at _ _ _ (by simp)⟩, (Blk.new_at _ _ _ (by simp)).alloc _, Nat.zero_le _⟩
  have HW0 := Lib.hid (word_any WA (w.heap.size + 2) (w.heap.size + 1) 0 all false hlen hrA)
  have HA := Lib.hid (And.intro hbA gzA)
  have HM0 := Lib.hid ((HR.out.up (sub_alloc (Below.refl _ w) (.cells Cl.zero.arr 50))).max)
  have HWA := Lib.hid hWA
  clear hbA gzA hrA hWA
  go_enter Tryz.func68, Tryz.ntmps68
  go_wp2_with fail
  refine (HSP.out _ HM0.out).mono ?_
  rintro y v0 ⟨rfl, rfl⟩
  go_wp2_with fail
  rw [← HWA.out] at HW0
  refine HW0.out.mono ?_
  rintro y w1 ⟨rfl, hr1, hk1⟩
  rw [HWA.out] at hk1
  rw [HB00.out] at hr1
  have gz1 := hk1.blk HA.out.2 (by omega)
  have hb1 := HA.out.1.trans (hk1.below HA.out.1.size (fun j e => by rw [e]; omega))
  have H1 := Lib.hid (And.intro hr1 (And.intro gz1 hb1))
  clear hr1 gz1 hb1 hk1 HW0
  go_wp2_with fail
  refine (HKD.out _).mono ?_
  rintro y w2 ⟨rfl, hb2⟩
  have hr2 := H1.out.1.up hb2
  have gz2 := H1.out.2.1.later hb2
  have hbb2 := sub_trans H1.out.2.2 hb2
  have hlt2 := hr2.lt
  have H3 := Lib.hid (And.intro (hr2.up (sub_alloc (Below.refl _ w2) (.cells (Cl.arr ⟨4, ⟨#[]⟩, 0, 0, 0, 0, 0, 0, 0, 0, 0⟩) 50))) (And.intro (gz2.alloc (.cells (Cl.arr ⟨4, ⟨#[]⟩, 0, 0, 0, 0, 0, 0, 0, 0, 0⟩) 50)) (And.intro (sub_alloc hbb2 (.cells (Cl.arr ⟨4, ⟨#[]⟩, 0, 0, 0, 0, 0, 0, 0, 0, 0⟩) 50)) (Blk.new_at w2 50 (Cl.arr ⟨4, ⟨#[]⟩, 0, 0, 0, 0, 0, 0, 0, 0, 0⟩) (g := w2.heap.size) rfl))))
  have HLT : Hid (w.heap.size + 2 < w2.heap.size) := Lib.hid hlt2
  clear hr2 gz2 hbb2 hlt2 hb2 H1
  go_wp2_with fail
  refine (num_any w _ _ _ 1 all _ hlen HSZ.out HR.out H3.out.2.2.1 (by omega) H3.out.1).mono ?_
  rintro y u0 ⟨n1, rfl, hn, hnv, hr, hq⟩
  have HN1 := Lib.hid (And.intro hn hnv)
  clear hn hnv
  have G0 := Lib.hid (And.intro hr (And.intro (hq.blk H3.out.2.1 (by omega)) (And.intro (H3.out.2.2.1.trans (hq.below H3.out.2.2.1.size (fun j e => by rw [e]; omega))) (hq.blk H3.out.2.2.2 (by have := HLT.out; omega)))))
  clear hr hq H3
  have gx := G0.out.2.2.2
  obtain ⟨e0, e1, e2, e3, e4, e5, e6, e7, e8, e9, e10⟩ := gx.c11
  have f5 := gx.frozen
  have hX := (gx.set_ 4 (.int .i64 n1))
  simp only [Cl.arr, List.setIfInBounds_toArray, List.set_cons_zero, List.set_cons_succ] at hX
  have hX : Blk _ w2.heap.size 50 (Cl.arr ⟨4, ⟨#[]⟩, 0, 0, n1, 0, 0, 0, 0, 0, 0⟩) := hX
  have hrX := G0.out.1.keep ((Keep.refl (fun b => b = w2.heap.size) _).setCell (p := ⟨w2.heap.size, 4, none⟩) (.inl rfl) (.int .i64 n1)) (by have := HLT.out; omega) (by have := HLT.out; omega)
  have HX := Lib.hid (And.intro hX (And.intro hrX (And.intro (G0.out.2.1.far (p := ⟨w2.heap.size, 4, none⟩) (by have := HLT.out; simp only; omega) (.int .i64 n1)) (G0.out.2.2.1.setCell (p := ⟨w2.heap.size, 4, none⟩) (by have := HLT.out; simp only; omega) (.int .i64 n1)))))
  clear hX hrX gx G0
  have HY := Lib.hid (fun h h2 => HRY.out h h2)
  obtain ⟨off, _, hbx⟩ := HX.out.2.1.box
  have r0 := hbx.cell 0
  have r1 := hbx.cell 1
  simp only [List.getElem?_toArray, List.getElem?_cons_zero, List.getElem?_cons_succ] at r0 r1
  clear hbx
  generalize hbd : (false || !(numAt all 1).isSome) = bd at *
  have HBD := Lib.hid hbd
  clear hbd
  cases bd with
  | true =>
    have HPE : Hid (ps = (Cl.zero, 10)) := Lib.hid (HP1.out (.inl rfl))
    have gz := HX.out.2.2.1
    have hbb := HX.out.2.2.2
    obtain ⟨d0, d1, d2, d3, d4, d5, d6, d7, d8, d9, d10⟩ := gz.c11
    have f0 := gz.frozen
    clear HX
    have z := gz.stCl Cl.zero
    have hz := below_stCl hbb (g := w.heap.size) (Nat.le_refl _) Cl.zero
    have HZ := Lib.hid (And.intro z hz)
    clear z hz gz hbb
    unfold stCl at HZ
    go_wp2
    obtain ⟨z0, z1, z2, z3, z4, z5, z6, z7, z8, z9, z10⟩ := HZ.out.1.c11
    simp only [Cl.zero, Cl.arr] at z0 z1 z2 z3 z4 z5 z6 z7 z8 z9 z10
    exact bodyPost_ret (v := .tuple #[.agg #[.int .i64 0, .string ⟨#[]⟩, .int .i64 0, .int .i64 0, .int .i64 0, .int .i64 0, .int .i64 0, .int .i64 0, .int .i64 0, .int .i64 0, .int .i64 0], .int .i64 10]) (by simp [results, Tryz.results68, go_sem, z0, z1, z2, z3, z4, z5, z6, z7, z8, z9, z10]; try rfl) rfl ⟨by rw [HPE.out]; rfl, HZ.out.2⟩
  | false =>
    by_cases hlg : 2 < all.length
    · have HPE : Hid (ps = (Cl.zero, 10)) := Lib.hid (HP1.out (.inr hlg))
      have hlgI : (0 : Int) < ((all.length - min 2 all.length : Nat) : Int) := by omega
      have hlgN : 0 < all.length - min 2 all.length := by omega
      have gz := HX.out.2.2.1
      have hbb := HX.out.2.2.2
      obtain ⟨d0, d1, d2, d3, d4, d5, d6, d7, d8, d9, d10⟩ := gz.c11
      have f0 := gz.frozen
      clear HX hlg
      generalize all.length - min 2 all.length = rest at *
      have z := gz.stCl Cl.zero
      have hz := below_stCl hbb (g := w.heap.size) (Nat.le_refl _) Cl.zero
      have HZ := Lib.hid (And.intro z hz)
      clear z hz gz hbb
      unfold stCl at HZ
      go_wp2
      obtain ⟨z0, z1, z2, z3, z4, z5, z6, z7, z8, z9, z10⟩ := HZ.out.1.c11
      simp only [Cl.zero, Cl.arr] at z0 z1 z2 z3 z4 z5 z6 z7 z8 z9 z10
      exact bodyPost_ret (v := .tuple #[.agg #[.int .i64 0, .string ⟨#[]⟩, .int .i64 0, .int .i64 0, .int .i64 0, .int .i64 0, .int .i64 0, .int .i64 0, .int .i64 0, .int .i64 0, .int .i64 0], .int .i64 10]) (by simp [results, Tryz.results68, go_sem, z0, z1, z2, z3, z4, z5, z6, z7, z8, z9, z10]; try rfl) rfl ⟨by rw [HPE.out]; rfl, HZ.out.2⟩
    · have hlgI : ((all.length - min 2 all.length : Nat) : Int) = 0 := by omega
      have hlgN : all.length - min 2 all.length = 0 := by omega
      obtain ⟨y1, ey1, hrc⟩ := HRY.out (by first | rfl | trivial) hlg
      obtain rfl : n1 = y1 := HN1.out.2 _ ey1
      clear ey1
      have hxo : Cl.ok ⟨4, ⟨#[]⟩, 0, 0, n1, 0, 0, 0, 0, 0, 0⟩ := ⟨(show In64 4 from ⟨by decide, by decide⟩), zero_in, zero_in, HN1.out.1, ⟨zero_in, zero_in, zero_in, zero_in, zero_in, zero_in⟩, (by show (⟨#[]⟩ : ByteArray).size ≤ 100000; decide)⟩
      have HPE := Lib.hid (HP2.out ⟨4, ⟨#[]⟩, 0, 0, n1, 0, 0, 0, 0, 0, 0⟩ hrc)
      have HTC := Lib.hid (fun W hRW => HT.out ⟨4, ⟨#[]⟩, 0, 0, n1, 0, 0, 0, 0, 0, 0⟩ W hRW hxo (show (1 : Int) ≤ 4 by decide) (show (4 : Int) ≤ 8 by decide) hrc)
      obtain ⟨x0, x1, x2, x3, x4, x5, x6, x7, x8, x9, x10⟩ := HX.out.1.c11
      try simp only [Cl.arr] at x0 x1 x2 x3 x4 x5 x6 x7 x8 x9 x10
      clear hxo hrc hlg HP2 HT HRY HP1 HY
      generalize toldC ⟨4, ⟨#[]⟩, 0, 0, n1, 0, 0, 0, 0, 0, 0⟩ s = ts at *
      obtain ⟨ty, te⟩ := ts
      go_wp2_with fail
      refine (HTC.out _ (HR.out.up HX.out.2.2.2)).mono ?_
      rintro y w8 ⟨rfl, hb8⟩
      have gz := HX.out.2.2.1.later hb8
      have hbb := sub_trans HX.out.2.2.2 hb8
      obtain ⟨d0, d1, d2, d3, d4, d5, d6, d7, d8, d9, d10⟩ := gz.c11
      have f0 := gz.frozen
      clear HX hb8 x0 x1 x2 x3 x4 x5 x6 x7 x8 x9 x10
      have z := gz.stCl ty
      have hz := below_stCl hbb (g := w.heap.size) (Nat.le_refl _) ty
      have HZ := Lib.hid (And.intro z hz)
      clear z hz gz hbb
      unfold stCl at HZ
      simp only [Cl.val, Cl.arr]
      go_wp2
      obtain ⟨z0, z1, z2, z3, z4, z5, z6, z7, z8, z9, z10⟩ := HZ.out.1.c11
      exact bodyPost_ret (v := .tuple #[.agg #[.int .i64 ty.k, .string ty.id, .int .i64 ty.tick, .int .i64 ty.value, .int .i64 ty.handle, .int .i64 ty.a, .int .i64 ty.b, .int .i64 ty.c, .int .i64 ty.d, .int .i64 ty.e, .int .i64 ty.f], .int .i64 te]) (by simp [results, Tryz.results68, go_sem, z0, z1, z2, z3, z4, z5, z6, z7, z8, z9, z10]; try rfl) rfl ⟨by rw [HPE.out]; rfl, HZ.out.2⟩
theorem lparse_5 (s : ByteArray) (w : World) (hR : Ready w) (hs : s.size ≤ 1000) (hk : kindW (headW (wordsB 32 s)) = 5) :
    Calls Tryz.prog 68 #[.string s] w fun y w' => y = .returned (.tuple #[(parseC s).1.val, .int .i64 (parseC s).2]) ∧ Below w.heap.size w w' := by
  have hne := wordsB_ne 32 s
  have hwl := wordsB_len 32 s
  have hlen : (wordsB 32 s).length ≤ 1000000 := by omega
  have hlen0 : 0 < (wordsB 32 s).length := List.length_pos_iff.2 hne
  have HP1 := Lib.hid (fun h : ((((false || !(numAt (wordsB 32 s) 1).isSome) || decide ((wordsB 32 s).length ≤ 2)) || !(numAt (wordsB 32 s) 3).isSome) || !(numAt (wordsB 32 s) 4).isSome) = true ∨ 5 < (wordsB 32 s).length => parseC_form (s := s) (by omega) (by rw [hk]; exact read_no_5 hne h))
  have HRY := Lib.hid (fun h h2 => read_yes_5 (all := wordsB 32 s) hne h h2)
  have HP2 := Lib.hid (fun x (hc : readC 5 (wordsB 32 s) = some x) => parseC_told (s := s) (x := x) (by omega) (by rw [hk]; exact hc))
  have HT := Lib.hid (fun x W hRW hx h1 h8 (hc : readC 5 (wordsB 32 s) = some x) => told_any x s W 5 hRW hx h1 h8 hs hc)
  have HSZ : Hid (∀ x ∈ wordsB 32 s, x.size ≤ 1000000) := Lib.hid (fun x hx => by have := wordsB_sizes hx; omega)
  have HIZ : Hid (∀ j, (wdAt (wordsB 32 s) j).size ≤ 100000) := Lib.hid (fun j => by have := wd_size (s := s) j; omega)
  have HKD : Hid (∀ W, Calls Tryz.prog 81 #[.string (wdAt (wordsB 32 s) 0)] W fun y w' => y = .returned (.int .i64 5) ∧ Below W.heap.size W w') := Lib.hid (fun W => by
    have h := kind_any (headW (wordsB 32 s)) W
    rw [hk] at h
    have e : headW (wordsB 32 s) = wdAt (wordsB 32 s) 0 := by
      unfold headW wdAt
      cases wordsB 32 s <;> rfl
    rw [e] at h
    exact h)
  have HSP := Lib.hid (fun W hM => split_any 32 s (by omega) W hM)
  have HR := Lib.hid hR
  clear hR hs hk hne hwl
  generalize parseC s = ps at *
  generalize wordsB 32 s = all at *
  have hba0 : (false || decide (all.length ≤ 0)) = false := by rw [Bool.false_or, decide_eq_false_iff_not]; omega
  have HB00 := Lib.hid hba0
  clear hba0
  obtain ⟨WA, hWA⟩ : ∃ WA, ((w.alloc (.cells Cl.zero.arr 50)).alloc (.cells (all.map Value.string).toArray 9)).alloc (.cells #[.slice (some ⟨w.heap.size + 1, 0, none⟩) all.length all.length, .bool false] 124) = WA := ⟨_, rfl⟩
  have hbA : Below w.heap.size w WA := by rw [← hWA]; exact sub_alloc (sub_alloc (sub_alloc (Below.refl _ w) _) _) _
  have gzA : Blk WA w.heap.size 50 Cl.zero.arr := by rw [← hWA]; exact ((Blk.new_at _ _ _ rfl).alloc _).alloc _
  have hrA : RdAt WA (w.heap.size + 2) (w.heap.size + 1) all (min 0 all.length) false := by
    rw [← hWA, Nat.zero_min]
    exact ⟨⟨0, fun _ => rfl, Blk.new_at _ _ _ (by simp)⟩, (Blk.new_at _ _ _ (by simp)).alloc _, Nat.zero_le _⟩
  have HW0 := Lib.hid (word_any WA (w.heap.size + 2) (w.heap.size + 1) 0 all false hlen hrA)
  have HA := Lib.hid (And.intro hbA gzA)
  have HM0 := Lib.hid ((HR.out.up (sub_alloc (Below.refl _ w) (.cells Cl.zero.arr 50))).max)
  have HWA := Lib.hid hWA
  clear hbA gzA hrA hWA
  go_enter Tryz.func68, Tryz.ntmps68
  go_wp2_with fail
  refine (HSP.out _ HM0.out).mono ?_
  rintro y v0 ⟨rfl, rfl⟩
  go_wp2_with fail
  rw [← HWA.out] at HW0
  refine HW0.out.mono ?_
  rintro y w1 ⟨rfl, hr1, hk1⟩
  rw [HWA.out] at hk1
  rw [HB00.out] at hr1
  have gz1 := hk1.blk HA.out.2 (by omega)
  have hb1 := HA.out.1.trans (hk1.below HA.out.1.size (fun j e => by rw [e]; omega))
  have H1 := Lib.hid (And.intro hr1 (And.intro gz1 hb1))
  clear hr1 gz1 hb1 hk1 HW0
  go_wp2_with fail
  refine (HKD.out _).mono ?_
  rintro y w2 ⟨rfl, hb2⟩
  have hr2 := H1.out.1.up hb2
  have gz2 := H1.out.2.1.later hb2
  have hbb2 := sub_trans H1.out.2.2 hb2
  have hlt2 := hr2.lt
  have H3 := Lib.hid (And.intro (hr2.up (sub_alloc (Below.refl _ w2) (.cells (Cl.arr ⟨5, ⟨#[]⟩, 0, 0, 0, 0, 0, 0, 0, 0, 0⟩) 50))) (And.intro (gz2.alloc (.cells (Cl.arr ⟨5, ⟨#[]⟩, 0, 0, 0, 0, 0, 0, 0, 0, 0⟩) 50)) (And.intro (sub_alloc hbb2 (.cells (Cl.arr ⟨5, ⟨#[]⟩, 0, 0, 0, 0, 0, 0, 0, 0, 0⟩) 50)) (Blk.new_at w2 50 (Cl.arr ⟨5, ⟨#[]⟩, 0, 0, 0, 0, 0, 0, 0, 0, 0⟩) (g := w2.heap.size) rfl))))
  have HLT : Hid (w.heap.size + 2 < w2.heap.size) := Lib.hid hlt2
  clear hr2 gz2 hbb2 hlt2 hb2 H1
  go_wp2_with fail
  refine (num_any w _ _ _ 1 all _ hlen HSZ.out HR.out H3.out.2.2.1 (by omega) H3.out.1).mono ?_
  rintro y u0 ⟨n1, rfl, hn, hnv, hr, hq⟩
  have HN1 := Lib.hid (And.intro hn hnv)
  clear hn hnv
  have G0 := Lib.hid (And.intro hr (And.intro (hq.blk H3.out.2.1 (by omega)) (And.intro (H3.out.2.2.1.trans (hq.below H3.out.2.2.1.size (fun j e => by rw [e]; omega))) (hq.blk H3.out.2.2.2 (by have := HLT.out; omega)))))
  clear hr hq H3
  go_wp2_with fail
  refine (word_any _ _ _ 2 all _ hlen G0.out.1).mono ?_
  rintro y u1 ⟨rfl, hr, hq⟩
  have G1 := Lib.hid (And.intro hr (And.intro (hq.blk G0.out.2.1 (by omega)) (And.intro (G0.out.2.2.1.trans (hq.below G0.out.2.2.1.size (fun j e => by rw [e]; omega))) (hq.blk G0.out.2.2.2 (by have := HLT.out; omega)))))
  clear hr hq G0
  go_wp2_with fail
  refine (num_any w _ _ _ 3 all _ hlen HSZ.out HR.out G1.out.2.2.1 (by omega) G1.out.1).mono ?_
  rintro y u2 ⟨n3, rfl, hn, hnv, hr, hq⟩
  have HN3 := Lib.hid (And.intro hn hnv)
  clear hn hnv
  have G2 := Lib.hid (And.intro hr (And.intro (hq.blk G1.out.2.1 (by omega)) (And.intro (G1.out.2.2.1.trans (hq.below G1.out.2.2.1.size (fun j e => by rw [e]; omega))) (hq.blk G1.out.2.2.2 (by have := HLT.out; omega)))))
  clear hr hq G1
  go_wp2_with fail
  refine (num_any w _ _ _ 4 all _ hlen HSZ.out HR.out G2.out.2.2.1 (by omega) G2.out.1).mono ?_
  rintro y u3 ⟨n4, rfl, hn, hnv, hr, hq⟩
  have HN4 := Lib.hid (And.intro hn hnv)
  clear hn hnv
  have G3 := Lib.hid (And.intro hr (And.intro (hq.blk G2.out.2.1 (by omega)) (And.intro (G2.out.2.2.1.trans (hq.below G2.out.2.2.1.size (fun j e => by rw [e]; omega))) (hq.blk G2.out.2.2.2 (by have := HLT.out; omega)))))
  clear hr hq G2
  have gx := G3.out.2.2.2
  obtain ⟨e0, e1, e2, e3, e4, e5, e6, e7, e8, e9, e10⟩ := gx.c11
  have f5 := gx.frozen
  have hX := ((((gx.set_ 4 (.int .i64 n1)).set_ 1 (.string (wdAt all 2))).set_ 2 (.int .i64 n3)).set_ 3 (.int .i64 n4))
  simp only [Cl.arr, List.setIfInBounds_toArray, List.set_cons_zero, List.set_cons_succ] at hX
  have hX : Blk _ w2.heap.size 50 (Cl.arr ⟨5, wdAt all 2, n3, n4, n1, 0, 0, 0, 0, 0, 0⟩) := hX
  have hrX := G3.out.1.keep (((((Keep.refl (fun b => b = w2.heap.size) _).setCell (p := ⟨w2.heap.size, 4, none⟩) (.inl rfl) (.int .i64 n1)).setCell (p := ⟨w2.heap.size, 1, none⟩) (.inl rfl) (.string (wdAt all 2))).setCell (p := ⟨w2.heap.size, 2, none⟩) (.inl rfl) (.int .i64 n3)).setCell (p := ⟨w2.heap.size, 3, none⟩) (.inl rfl) (.int .i64 n4)) (by have := HLT.out; omega) (by have := HLT.out; omega)
  have HX := Lib.hid (And.intro hX (And.intro hrX (And.intro ((((G3.out.2.1.far (p := ⟨w2.heap.size, 4, none⟩) (by have := HLT.out; simp only; omega) (.int .i64 n1)).far (p := ⟨w2.heap.size, 1, none⟩) (by have := HLT.out; simp only; omega) (.string (wdAt all 2))).far (p := ⟨w2.heap.size, 2, none⟩) (by have := HLT.out; simp only; omega) (.int .i64 n3)).far (p := ⟨w2.heap.size, 3, none⟩) (by have := HLT.out; simp only; omega) (.int .i64 n4)) ((((G3.out.2.2.1.setCell (p := ⟨w2.heap.size, 4, none⟩) (by have := HLT.out; simp only; omega) (.int .i64 n1)).setCell (p := ⟨w2.heap.size, 1, none⟩) (by have := HLT.out; simp only; omega) (.string (wdAt all 2))).setCell (p := ⟨w2.heap.size, 2, none⟩) (by have := HLT.out; simp only; omega) (.int .i64 n3)).setCell (p := ⟨w2.heap.size, 3, none⟩) (by have := HLT.out; simp only; omega) (.int .i64 n4)))))
  clear hX hrX gx G3
  have HY := Lib.hid (fun h h2 => HRY.out h h2)
  obtain ⟨off, _, hbx⟩ := HX.out.2.1.box
  have r0 := hbx.cell 0
  have r1 := hbx.cell 1
  simp only [List.getElem?_toArray, List.getElem?_cons_zero, List.getElem?_cons_succ] at r0 r1
  clear hbx
  generalize hbd : ((((false || !(numAt all 1).isSome) || decide (all.length ≤ 2)) || !(numAt all 3).isSome) || !(numAt all 4).isSome) = bd at *
  have HBD := Lib.hid hbd
  clear hbd
  cases bd with
  | true =>
    have HPE : Hid (ps = (Cl.zero, 10)) := Lib.hid (HP1.out (.inl rfl))
    have gz := HX.out.2.2.1
    have hbb := HX.out.2.2.2
    obtain ⟨d0, d1, d2, d3, d4, d5, d6, d7, d8, d9, d10⟩ := gz.c11
    have f0 := gz.frozen
    clear HX
    have z := gz.stCl Cl.zero
    have hz := below_stCl hbb (g := w.heap.size) (Nat.le_refl _) Cl.zero
    have HZ := Lib.hid (And.intro z hz)
    clear z hz gz hbb
    unfold stCl at HZ
    go_wp2
    obtain ⟨z0, z1, z2, z3, z4, z5, z6, z7, z8, z9, z10⟩ := HZ.out.1.c11
    simp only [Cl.zero, Cl.arr] at z0 z1 z2 z3 z4 z5 z6 z7 z8 z9 z10
    exact bodyPost_ret (v := .tuple #[.agg #[.int .i64 0, .string ⟨#[]⟩, .int .i64 0, .int .i64 0, .int .i64 0, .int .i64 0, .int .i64 0, .int .i64 0, .int .i64 0, .int .i64 0, .int .i64 0], .int .i64 10]) (by simp [results, Tryz.results68, go_sem, z0, z1, z2, z3, z4, z5, z6, z7, z8, z9, z10]; try rfl) rfl ⟨by rw [HPE.out]; rfl, HZ.out.2⟩
  | false =>
    by_cases hlg : 5 < all.length
    · have HPE : Hid (ps = (Cl.zero, 10)) := Lib.hid (HP1.out (.inr hlg))
      have hlgI : (0 : Int) < ((all.length - min 5 all.length : Nat) : Int) := by omega
      have hlgN : 0 < all.length - min 5 all.length := by omega
      have gz := HX.out.2.2.1
      have hbb := HX.out.2.2.2
      obtain ⟨d0, d1, d2, d3, d4, d5, d6, d7, d8, d9, d10⟩ := gz.c11
      have f0 := gz.frozen
      clear HX hlg
      generalize all.length - min 5 all.length = rest at *
      have z := gz.stCl Cl.zero
      have hz := below_stCl hbb (g := w.heap.size) (Nat.le_refl _) Cl.zero
      have HZ := Lib.hid (And.intro z hz)
      clear z hz gz hbb
      unfold stCl at HZ
      go_wp2
      obtain ⟨z0, z1, z2, z3, z4, z5, z6, z7, z8, z9, z10⟩ := HZ.out.1.c11
      simp only [Cl.zero, Cl.arr] at z0 z1 z2 z3 z4 z5 z6 z7 z8 z9 z10
      exact bodyPost_ret (v := .tuple #[.agg #[.int .i64 0, .string ⟨#[]⟩, .int .i64 0, .int .i64 0, .int .i64 0, .int .i64 0, .int .i64 0, .int .i64 0, .int .i64 0, .int .i64 0, .int .i64 0], .int .i64 10]) (by simp [results, Tryz.results68, go_sem, z0, z1, z2, z3, z4, z5, z6, z7, z8, z9, z10]; try rfl) rfl ⟨by rw [HPE.out]; rfl, HZ.out.2⟩
    · have hlgI : ((all.length - min 5 all.length : Nat) : Int) = 0 := by omega
      have hlgN : all.length - min 5 all.length = 0 := by omega
      obtain ⟨y1, y3, y4, ey1, ey3, ey4, hrc⟩ := HRY.out (by first | rfl | trivial) hlg
      obtain rfl : n1 = y1 := HN1.out.2 _ ey1
      obtain rfl : n3 = y3 := HN3.out.2 _ ey3
      obtain rfl : n4 = y4 := HN4.out.2 _ ey4
      clear ey1 ey3 ey4
      have hxo : Cl.ok ⟨5, wdAt all 2, n3, n4, n1, 0, 0, 0, 0, 0, 0⟩ := ⟨(show In64 5 from ⟨by decide, by decide⟩), HN3.out.1, HN4.out.1, HN1.out.1, ⟨zero_in, zero_in, zero_in, zero_in, zero_in, zero_in⟩, HIZ.out _⟩
      have HPE := Lib.hid (HP2.out ⟨5, wdAt all 2, n3, n4, n1, 0, 0, 0, 0, 0, 0⟩ hrc)
      have HTC := Lib.hid (fun W hRW => HT.out ⟨5, wdAt all 2, n3, n4, n1, 0, 0, 0, 0, 0, 0⟩ W hRW hxo (show (1 : Int) ≤ 5 by decide) (show (5 : Int) ≤ 8 by decide) hrc)
      obtain ⟨x0, x1, x2, x3, x4, x5, x6, x7, x8, x9, x10⟩ := HX.out.1.c11
      try simp only [Cl.arr] at x0 x1 x2 x3 x4 x5 x6 x7 x8 x9 x10
      clear hxo hrc hlg HP2 HT HRY HP1 HY
      generalize toldC ⟨5, wdAt all 2, n3, n4, n1, 0, 0, 0, 0, 0, 0⟩ s = ts at *
      obtain ⟨ty, te⟩ := ts
      go_wp2_with fail
      refine (HTC.out _ (HR.out.up HX.out.2.2.2)).mono ?_
      rintro y w8 ⟨rfl, hb8⟩
      have gz := HX.out.2.2.1.later hb8
      have hbb := sub_trans HX.out.2.2.2 hb8
      obtain ⟨d0, d1, d2, d3, d4, d5, d6, d7, d8, d9, d10⟩ := gz.c11
      have f0 := gz.frozen
      clear HX hb8 x0 x1 x2 x3 x4 x5 x6 x7 x8 x9 x10
      have z := gz.stCl ty
      have hz := below_stCl hbb (g := w.heap.size) (Nat.le_refl _) ty
      have HZ := Lib.hid (And.intro z hz)
      clear z hz gz hbb
      unfold stCl at HZ
      simp only [Cl.val, Cl.arr]
      go_wp2
      obtain ⟨z0, z1, z2, z3, z4, z5, z6, z7, z8, z9, z10⟩ := HZ.out.1.c11
      exact bodyPost_ret (v := .tuple #[.agg #[.int .i64 ty.k, .string ty.id, .int .i64 ty.tick, .int .i64 ty.value, .int .i64 ty.handle, .int .i64 ty.a, .int .i64 ty.b, .int .i64 ty.c, .int .i64 ty.d, .int .i64 ty.e, .int .i64 ty.f], .int .i64 te]) (by simp [results, Tryz.results68, go_sem, z0, z1, z2, z3, z4, z5, z6, z7, z8, z9, z10]; try rfl) rfl ⟨by rw [HPE.out]; rfl, HZ.out.2⟩
theorem lparse_6 (s : ByteArray) (w : World) (hR : Ready w) (hs : s.size ≤ 1000) (hk : kindW (headW (wordsB 32 s)) = 6) :
    Calls Tryz.prog 68 #[.string s] w fun y w' => y = .returned (.tuple #[(parseC s).1.val, .int .i64 (parseC s).2]) ∧ Below w.heap.size w w' := by
  have hne := wordsB_ne 32 s
  have hwl := wordsB_len 32 s
  have hlen : (wordsB 32 s).length ≤ 1000000 := by omega
  have hlen0 : 0 < (wordsB 32 s).length := List.length_pos_iff.2 hne
  have HP1 := Lib.hid (fun h : ((false || decide ((wordsB 32 s).length ≤ 1)) || !(okUp (wordsB 32 s) 2 6)) = true ∨ 14 < (wordsB 32 s).length => parseC_form (s := s) (by omega) (by rw [hk]; exact read_no_6 hne h))
  have HRY := Lib.hid (fun h h2 => read_yes_6 (all := wordsB 32 s) hne h h2)
  have HP2 := Lib.hid (fun x (hc : readC 6 (wordsB 32 s) = some x) => parseC_told (s := s) (x := x) (by omega) (by rw [hk]; exact hc))
  have HT := Lib.hid (fun x W hRW hx h1 h8 (hc : readC 6 (wordsB 32 s) = some x) => told_any x s W 6 hRW hx h1 h8 hs hc)
  have HSZ : Hid (∀ x ∈ wordsB 32 s, x.size ≤ 1000000) := Lib.hid (fun x hx => by have := wordsB_sizes hx; omega)
  have HIZ : Hid (∀ j, (wdAt (wordsB 32 s) j).size ≤ 100000) := Lib.hid (fun j => by have := wd_size (s := s) j; omega)
  have HKD : Hid (∀ W, Calls Tryz.prog 81 #[.string (wdAt (wordsB 32 s) 0)] W fun y w' => y = .returned (.int .i64 6) ∧ Below W.heap.size W w') := Lib.hid (fun W => by
    have h := kind_any (headW (wordsB 32 s)) W
    rw [hk] at h
    have e : headW (wordsB 32 s) = wdAt (wordsB 32 s) 0 := by
      unfold headW wdAt
      cases wordsB 32 s <;> rfl
    rw [e] at h
    exact h)
  have HSP := Lib.hid (fun W hM => split_any 32 s (by omega) W hM)
  have HR := Lib.hid hR
  clear hR hs hk hne hwl
  generalize parseC s = ps at *
  generalize wordsB 32 s = all at *
  have hba0 : (false || decide (all.length ≤ 0)) = false := by rw [Bool.false_or, decide_eq_false_iff_not]; omega
  have HB00 := Lib.hid hba0
  clear hba0
  obtain ⟨WA, hWA⟩ : ∃ WA, ((w.alloc (.cells Cl.zero.arr 50)).alloc (.cells (all.map Value.string).toArray 9)).alloc (.cells #[.slice (some ⟨w.heap.size + 1, 0, none⟩) all.length all.length, .bool false] 124) = WA := ⟨_, rfl⟩
  have hbA : Below w.heap.size w WA := by rw [← hWA]; exact sub_alloc (sub_alloc (sub_alloc (Below.refl _ w) _) _) _
  have gzA : Blk WA w.heap.size 50 Cl.zero.arr := by rw [← hWA]; exact ((Blk.new_at _ _ _ rfl).alloc _).alloc _
  have hrA : RdAt WA (w.heap.size + 2) (w.heap.size + 1) all (min 0 all.length) false := by
    rw [← hWA, Nat.zero_min]
    exact ⟨⟨0, fun _ => rfl, Blk.new_at _ _ _ (by simp)⟩, (Blk.new_at _ _ _ (by simp)).alloc _, Nat.zero_le _⟩
  have HW0 := Lib.hid (word_any WA (w.heap.size + 2) (w.heap.size + 1) 0 all false hlen hrA)
  have HA := Lib.hid (And.intro hbA gzA)
  have HM0 := Lib.hid ((HR.out.up (sub_alloc (Below.refl _ w) (.cells Cl.zero.arr 50))).max)
  have HWA := Lib.hid hWA
  clear hbA gzA hrA hWA
  go_enter Tryz.func68, Tryz.ntmps68
  go_wp2_with fail
  refine (HSP.out _ HM0.out).mono ?_
  rintro y v0 ⟨rfl, rfl⟩
  go_wp2_with fail
  rw [← HWA.out] at HW0
  refine HW0.out.mono ?_
  rintro y w1 ⟨rfl, hr1, hk1⟩
  rw [HWA.out] at hk1
  rw [HB00.out] at hr1
  have gz1 := hk1.blk HA.out.2 (by omega)
  have hb1 := HA.out.1.trans (hk1.below HA.out.1.size (fun j e => by rw [e]; omega))
  have H1 := Lib.hid (And.intro hr1 (And.intro gz1 hb1))
  clear hr1 gz1 hb1 hk1 HW0
  go_wp2_with fail
  refine (HKD.out _).mono ?_
  rintro y w2 ⟨rfl, hb2⟩
  have hr2 := H1.out.1.up hb2
  have gz2 := H1.out.2.1.later hb2
  have hbb2 := sub_trans H1.out.2.2 hb2
  have hlt2 := hr2.lt
  have H3 := Lib.hid (And.intro (hr2.up (sub_alloc (Below.refl _ w2) (.cells (Cl.arr ⟨6, ⟨#[]⟩, 0, 0, 0, 0, 0, 0, 0, 0, 0⟩) 50))) (And.intro (gz2.alloc (.cells (Cl.arr ⟨6, ⟨#[]⟩, 0, 0, 0, 0, 0, 0, 0, 0, 0⟩) 50)) (And.intro (sub_alloc hbb2 (.cells (Cl.arr ⟨6, ⟨#[]⟩, 0, 0, 0, 0, 0, 0, 0, 0, 0⟩) 50)) (Blk.new_at w2 50 (Cl.arr ⟨6, ⟨#[]⟩, 0, 0, 0, 0, 0, 0, 0, 0, 0⟩) (g := w2.heap.size) rfl))))
  have HLT : Hid (w.heap.size + 2 < w2.heap.size) := Lib.hid hlt2
  clear hr2 gz2 hbb2 hlt2 hb2 H1
  go_wp2_with fail
  refine (word_any _ _ _ 1 all _ hlen H3.out.1).mono ?_
  rintro y u0 ⟨rfl, hr, hq⟩
  have G0 := Lib.hid (And.intro hr (And.intro (hq.blk H3.out.2.1 (by omega)) (And.intro (H3.out.2.2.1.trans (hq.below H3.out.2.2.1.size (fun j e => by rw [e]; omega))) (hq.blk H3.out.2.2.2 (by have := HLT.out; omega)))))
  clear hr hq H3
  go_wp2_with fail
  refine (policy_any w _ _ _ 2 all _ hlen HSZ.out HR.out G0.out.2.2.1 (by omega) G0.out.1).mono ?_
  rintro y u1 ⟨pa, pb, pc, pd, pe, pf, rfl, hn, hnv, hr, hq⟩
  have HNP := Lib.hid (And.intro hn hnv)
  clear hn hnv
  have G1 := Lib.hid (And.intro hr (And.intro (hq.blk G0.out.2.1 (by omega)) (And.intro (G0.out.2.2.1.trans (hq.below G0.out.2.2.1.size (fun j e => by rw [e]; omega))) (hq.blk G0.out.2.2.2 (by have := HLT.out; omega)))))
  clear hr hq G0
  have gx := G1.out.2.2.2
  obtain ⟨e0, e1, e2, e3, e4, e5, e6, e7, e8, e9, e10⟩ := gx.c11
  have f5 := gx.frozen
  have hX := (((((((gx.set_ 1 (.string (wdAt all 1))).set_ 5 (.int .i64 pa)).set_ 6 (.int .i64 pb)).set_ 7 (.int .i64 pc)).set_ 8 (.int .i64 pd)).set_ 9 (.int .i64 pe)).set_ 10 (.int .i64 pf))
  simp only [Cl.arr, List.setIfInBounds_toArray, List.set_cons_zero, List.set_cons_succ] at hX
  have hX : Blk _ w2.heap.size 50 (Cl.arr ⟨6, wdAt all 1, 0, 0, 0, pa, pb, pc, pd, pe, pf⟩) := hX
  have hrX := G1.out.1.keep ((((((((Keep.refl (fun b => b = w2.heap.size) _).setCell (p := ⟨w2.heap.size, 1, none⟩) (.inl rfl) (.string (wdAt all 1))).setCell (p := ⟨w2.heap.size, 5, none⟩) (.inl rfl) (.int .i64 pa)).setCell (p := ⟨w2.heap.size, 6, none⟩) (.inl rfl) (.int .i64 pb)).setCell (p := ⟨w2.heap.size, 7, none⟩) (.inl rfl) (.int .i64 pc)).setCell (p := ⟨w2.heap.size, 8, none⟩) (.inl rfl) (.int .i64 pd)).setCell (p := ⟨w2.heap.size, 9, none⟩) (.inl rfl) (.int .i64 pe)).setCell (p := ⟨w2.heap.size, 10, none⟩) (.inl rfl) (.int .i64 pf)) (by have := HLT.out; omega) (by have := HLT.out; omega)
  have HX := Lib.hid (And.intro hX (And.intro hrX (And.intro (((((((G1.out.2.1.far (p := ⟨w2.heap.size, 1, none⟩) (by have := HLT.out; simp only; omega) (.string (wdAt all 1))).far (p := ⟨w2.heap.size, 5, none⟩) (by have := HLT.out; simp only; omega) (.int .i64 pa)).far (p := ⟨w2.heap.size, 6, none⟩) (by have := HLT.out; simp only; omega) (.int .i64 pb)).far (p := ⟨w2.heap.size, 7, none⟩) (by have := HLT.out; simp only; omega) (.int .i64 pc)).far (p := ⟨w2.heap.size, 8, none⟩) (by have := HLT.out; simp only; omega) (.int .i64 pd)).far (p := ⟨w2.heap.size, 9, none⟩) (by have := HLT.out; simp only; omega) (.int .i64 pe)).far (p := ⟨w2.heap.size, 10, none⟩) (by have := HLT.out; simp only; omega) (.int .i64 pf)) (((((((G1.out.2.2.1.setCell (p := ⟨w2.heap.size, 1, none⟩) (by have := HLT.out; simp only; omega) (.string (wdAt all 1))).setCell (p := ⟨w2.heap.size, 5, none⟩) (by have := HLT.out; simp only; omega) (.int .i64 pa)).setCell (p := ⟨w2.heap.size, 6, none⟩) (by have := HLT.out; simp only; omega) (.int .i64 pb)).setCell (p := ⟨w2.heap.size, 7, none⟩) (by have := HLT.out; simp only; omega) (.int .i64 pc)).setCell (p := ⟨w2.heap.size, 8, none⟩) (by have := HLT.out; simp only; omega) (.int .i64 pd)).setCell (p := ⟨w2.heap.size, 9, none⟩) (by have := HLT.out; simp only; omega) (.int .i64 pe)).setCell (p := ⟨w2.heap.size, 10, none⟩) (by have := HLT.out; simp only; omega) (.int .i64 pf)))))
  clear hX hrX gx G1
  have HY := Lib.hid (fun h h2 => HRY.out h h2)
  obtain ⟨off, _, hbx⟩ := HX.out.2.1.box
  have r0 := hbx.cell 0
  have r1 := hbx.cell 1
  simp only [List.getElem?_toArray, List.getElem?_cons_zero, List.getElem?_cons_succ] at r0 r1
  clear hbx
  generalize hbd : ((false || decide (all.length ≤ 1)) || !(okUp all 2 6)) = bd at *
  have HBD := Lib.hid hbd
  clear hbd
  cases bd with
  | true =>
    have HPE : Hid (ps = (Cl.zero, 10)) := Lib.hid (HP1.out (.inl rfl))
    have gz := HX.out.2.2.1
    have hbb := HX.out.2.2.2
    obtain ⟨d0, d1, d2, d3, d4, d5, d6, d7, d8, d9, d10⟩ := gz.c11
    have f0 := gz.frozen
    clear HX
    have z := gz.stCl Cl.zero
    have hz := below_stCl hbb (g := w.heap.size) (Nat.le_refl _) Cl.zero
    have HZ := Lib.hid (And.intro z hz)
    clear z hz gz hbb
    unfold stCl at HZ
    go_wp2
    obtain ⟨z0, z1, z2, z3, z4, z5, z6, z7, z8, z9, z10⟩ := HZ.out.1.c11
    simp only [Cl.zero, Cl.arr] at z0 z1 z2 z3 z4 z5 z6 z7 z8 z9 z10
    exact bodyPost_ret (v := .tuple #[.agg #[.int .i64 0, .string ⟨#[]⟩, .int .i64 0, .int .i64 0, .int .i64 0, .int .i64 0, .int .i64 0, .int .i64 0, .int .i64 0, .int .i64 0, .int .i64 0], .int .i64 10]) (by simp [results, Tryz.results68, go_sem, z0, z1, z2, z3, z4, z5, z6, z7, z8, z9, z10]; try rfl) rfl ⟨by rw [HPE.out]; rfl, HZ.out.2⟩
  | false =>
    by_cases hlg : 14 < all.length
    · have HPE : Hid (ps = (Cl.zero, 10)) := Lib.hid (HP1.out (.inr hlg))
      have hlgI : (0 : Int) < ((all.length - min 14 all.length : Nat) : Int) := by omega
      have hlgN : 0 < all.length - min 14 all.length := by omega
      have gz := HX.out.2.2.1
      have hbb := HX.out.2.2.2
      obtain ⟨d0, d1, d2, d3, d4, d5, d6, d7, d8, d9, d10⟩ := gz.c11
      have f0 := gz.frozen
      clear HX hlg
      generalize all.length - min 14 all.length = rest at *
      have z := gz.stCl Cl.zero
      have hz := below_stCl hbb (g := w.heap.size) (Nat.le_refl _) Cl.zero
      have HZ := Lib.hid (And.intro z hz)
      clear z hz gz hbb
      unfold stCl at HZ
      go_wp2
      obtain ⟨z0, z1, z2, z3, z4, z5, z6, z7, z8, z9, z10⟩ := HZ.out.1.c11
      simp only [Cl.zero, Cl.arr] at z0 z1 z2 z3 z4 z5 z6 z7 z8 z9 z10
      exact bodyPost_ret (v := .tuple #[.agg #[.int .i64 0, .string ⟨#[]⟩, .int .i64 0, .int .i64 0, .int .i64 0, .int .i64 0, .int .i64 0, .int .i64 0, .int .i64 0, .int .i64 0, .int .i64 0], .int .i64 10]) (by simp [results, Tryz.results68, go_sem, z0, z1, z2, z3, z4, z5, z6, z7, z8, z9, z10]; try rfl) rfl ⟨by rw [HPE.out]; rfl, HZ.out.2⟩
    · have hlgI : ((all.length - min 14 all.length : Nat) : Int) = 0 := by omega
      have hlgN : all.length - min 14 all.length = 0 := by omega
      obtain ⟨y3, y5, y7, y9, y11, y13, ey3, ey5, ey7, ey9, ey11, ey13, hrc⟩ := HRY.out (by first | rfl | trivial) hlg
      obtain rfl : pa = y3 := HNP.out.2 0 _ (by omega) ey3
      obtain rfl : pb = y5 := HNP.out.2 1 _ (by omega) ey5
      obtain rfl : pc = y7 := HNP.out.2 2 _ (by omega) ey7
      obtain rfl : pd = y9 := HNP.out.2 3 _ (by omega) ey9
      obtain rfl : pe = y11 := HNP.out.2 4 _ (by omega) ey11
      obtain rfl : pf = y13 := HNP.out.2 5 _ (by omega) ey13
      clear ey3 ey5 ey7 ey9 ey11 ey13
      have hxo : Cl.ok ⟨6, wdAt all 1, 0, 0, 0, pa, pb, pc, pd, pe, pf⟩ := ⟨(show In64 6 from ⟨by decide, by decide⟩), zero_in, zero_in, zero_in, HNP.out.1, HIZ.out _⟩
      have HPE := Lib.hid (HP2.out ⟨6, wdAt all 1, 0, 0, 0, pa, pb, pc, pd, pe, pf⟩ hrc)
      have HTC := Lib.hid (fun W hRW => HT.out ⟨6, wdAt all 1, 0, 0, 0, pa, pb, pc, pd, pe, pf⟩ W hRW hxo (show (1 : Int) ≤ 6 by decide) (show (6 : Int) ≤ 8 by decide) hrc)
      obtain ⟨x0, x1, x2, x3, x4, x5, x6, x7, x8, x9, x10⟩ := HX.out.1.c11
      try simp only [Cl.arr] at x0 x1 x2 x3 x4 x5 x6 x7 x8 x9 x10
      clear hxo hrc hlg HP2 HT HRY HP1 HY
      generalize toldC ⟨6, wdAt all 1, 0, 0, 0, pa, pb, pc, pd, pe, pf⟩ s = ts at *
      obtain ⟨ty, te⟩ := ts
      go_wp2_with fail
      refine (HTC.out _ (HR.out.up HX.out.2.2.2)).mono ?_
      rintro y w8 ⟨rfl, hb8⟩
      have gz := HX.out.2.2.1.later hb8
      have hbb := sub_trans HX.out.2.2.2 hb8
      obtain ⟨d0, d1, d2, d3, d4, d5, d6, d7, d8, d9, d10⟩ := gz.c11
      have f0 := gz.frozen
      clear HX hb8 x0 x1 x2 x3 x4 x5 x6 x7 x8 x9 x10
      have z := gz.stCl ty
      have hz := below_stCl hbb (g := w.heap.size) (Nat.le_refl _) ty
      have HZ := Lib.hid (And.intro z hz)
      clear z hz gz hbb
      unfold stCl at HZ
      simp only [Cl.val, Cl.arr]
      go_wp2
      obtain ⟨z0, z1, z2, z3, z4, z5, z6, z7, z8, z9, z10⟩ := HZ.out.1.c11
      exact bodyPost_ret (v := .tuple #[.agg #[.int .i64 ty.k, .string ty.id, .int .i64 ty.tick, .int .i64 ty.value, .int .i64 ty.handle, .int .i64 ty.a, .int .i64 ty.b, .int .i64 ty.c, .int .i64 ty.d, .int .i64 ty.e, .int .i64 ty.f], .int .i64 te]) (by simp [results, Tryz.results68, go_sem, z0, z1, z2, z3, z4, z5, z6, z7, z8, z9, z10]; try rfl) rfl ⟨by rw [HPE.out]; rfl, HZ.out.2⟩
theorem lparse_7 (s : ByteArray) (w : World) (hR : Ready w) (hs : s.size ≤ 1000) (hk : kindW (headW (wordsB 32 s)) = 7) :
    Calls Tryz.prog 68 #[.string s] w fun y w' => y = .returned (.tuple #[(parseC s).1.val, .int .i64 (parseC s).2]) ∧ Below w.heap.size w w' := by
  have hne := wordsB_ne 32 s
  have hwl := wordsB_len 32 s
  have hlen : (wordsB 32 s).length ≤ 1000000 := by omega
  have hlen0 : 0 < (wordsB 32 s).length := List.length_pos_iff.2 hne
  have HP1 := Lib.hid (fun h : (false || decide ((wordsB 32 s).length ≤ 1)) = true ∨ 2 < (wordsB 32 s).length => parseC_form (s := s) (by omega) (by rw [hk]; exact read_no_7 hne h))
  have HRY := Lib.hid (fun h h2 => read_yes_7 (all := wordsB 32 s) hne h h2)
  have HP2 := Lib.hid (fun x (hc : readC 7 (wordsB 32 s) = some x) => parseC_told (s := s) (x := x) (by omega) (by rw [hk]; exact hc))
  have HT := Lib.hid (fun x W hRW hx h1 h8 (hc : readC 7 (wordsB 32 s) = some x) => told_any x s W 7 hRW hx h1 h8 hs hc)
  have HSZ : Hid (∀ x ∈ wordsB 32 s, x.size ≤ 1000000) := Lib.hid (fun x hx => by have := wordsB_sizes hx; omega)
  have HIZ : Hid (∀ j, (wdAt (wordsB 32 s) j).size ≤ 100000) := Lib.hid (fun j => by have := wd_size (s := s) j; omega)
  have HKD : Hid (∀ W, Calls Tryz.prog 81 #[.string (wdAt (wordsB 32 s) 0)] W fun y w' => y = .returned (.int .i64 7) ∧ Below W.heap.size W w') := Lib.hid (fun W => by
    have h := kind_any (headW (wordsB 32 s)) W
    rw [hk] at h
    have e : headW (wordsB 32 s) = wdAt (wordsB 32 s) 0 := by
      unfold headW wdAt
      cases wordsB 32 s <;> rfl
    rw [e] at h
    exact h)
  have HSP := Lib.hid (fun W hM => split_any 32 s (by omega) W hM)
  have HR := Lib.hid hR
  clear hR hs hk hne hwl
  generalize parseC s = ps at *
  generalize wordsB 32 s = all at *
  have hba0 : (false || decide (all.length ≤ 0)) = false := by rw [Bool.false_or, decide_eq_false_iff_not]; omega
  have HB00 := Lib.hid hba0
  clear hba0
  obtain ⟨WA, hWA⟩ : ∃ WA, ((w.alloc (.cells Cl.zero.arr 50)).alloc (.cells (all.map Value.string).toArray 9)).alloc (.cells #[.slice (some ⟨w.heap.size + 1, 0, none⟩) all.length all.length, .bool false] 124) = WA := ⟨_, rfl⟩
  have hbA : Below w.heap.size w WA := by rw [← hWA]; exact sub_alloc (sub_alloc (sub_alloc (Below.refl _ w) _) _) _
  have gzA : Blk WA w.heap.size 50 Cl.zero.arr := by rw [← hWA]; exact ((Blk.new_at _ _ _ rfl).alloc _).alloc _
  have hrA : RdAt WA (w.heap.size + 2) (w.heap.size + 1) all (min 0 all.length) false := by
    rw [← hWA, Nat.zero_min]
    exact ⟨⟨0, fun _ => rfl, Blk.new_at _ _ _ (by simp)⟩, (Blk.new_at _ _ _ (by simp)).alloc _, Nat.zero_le _⟩
  have HW0 := Lib.hid (word_any WA (w.heap.size + 2) (w.heap.size + 1) 0 all false hlen hrA)
  have HA := Lib.hid (And.intro hbA gzA)
  have HM0 := Lib.hid ((HR.out.up (sub_alloc (Below.refl _ w) (.cells Cl.zero.arr 50))).max)
  have HWA := Lib.hid hWA
  clear hbA gzA hrA hWA
  go_enter Tryz.func68, Tryz.ntmps68
  go_wp2_with fail
  refine (HSP.out _ HM0.out).mono ?_
  rintro y v0 ⟨rfl, rfl⟩
  go_wp2_with fail
  rw [← HWA.out] at HW0
  refine HW0.out.mono ?_
  rintro y w1 ⟨rfl, hr1, hk1⟩
  rw [HWA.out] at hk1
  rw [HB00.out] at hr1
  have gz1 := hk1.blk HA.out.2 (by omega)
  have hb1 := HA.out.1.trans (hk1.below HA.out.1.size (fun j e => by rw [e]; omega))
  have H1 := Lib.hid (And.intro hr1 (And.intro gz1 hb1))
  clear hr1 gz1 hb1 hk1 HW0
  go_wp2_with fail
  refine (HKD.out _).mono ?_
  rintro y w2 ⟨rfl, hb2⟩
  have hr2 := H1.out.1.up hb2
  have gz2 := H1.out.2.1.later hb2
  have hbb2 := sub_trans H1.out.2.2 hb2
  have hlt2 := hr2.lt
  have H3 := Lib.hid (And.intro (hr2.up (sub_alloc (Below.refl _ w2) (.cells (Cl.arr ⟨7, ⟨#[]⟩, 0, 0, 0, 0, 0, 0, 0, 0, 0⟩) 50))) (And.intro (gz2.alloc (.cells (Cl.arr ⟨7, ⟨#[]⟩, 0, 0, 0, 0, 0, 0, 0, 0, 0⟩) 50)) (And.intro (sub_alloc hbb2 (.cells (Cl.arr ⟨7, ⟨#[]⟩, 0, 0, 0, 0, 0, 0, 0, 0, 0⟩) 50)) (Blk.new_at w2 50 (Cl.arr ⟨7, ⟨#[]⟩, 0, 0, 0, 0, 0, 0, 0, 0, 0⟩) (g := w2.heap.size) rfl))))
  have HLT : Hid (w.heap.size + 2 < w2.heap.size) := Lib.hid hlt2
  clear hr2 gz2 hbb2 hlt2 hb2 H1
  go_wp2_with fail
  refine (word_any _ _ _ 1 all _ hlen H3.out.1).mono ?_
  rintro y u0 ⟨rfl, hr, hq⟩
  have G0 := Lib.hid (And.intro hr (And.intro (hq.blk H3.out.2.1 (by omega)) (And.intro (H3.out.2.2.1.trans (hq.below H3.out.2.2.1.size (fun j e => by rw [e]; omega))) (hq.blk H3.out.2.2.2 (by have := HLT.out; omega)))))
  clear hr hq H3
  have gx := G0.out.2.2.2
  obtain ⟨e0, e1, e2, e3, e4, e5, e6, e7, e8, e9, e10⟩ := gx.c11
  have f5 := gx.frozen
  have hX := (gx.set_ 1 (.string (wdAt all 1)))
  simp only [Cl.arr, List.setIfInBounds_toArray, List.set_cons_zero, List.set_cons_succ] at hX
  have hX : Blk _ w2.heap.size 50 (Cl.arr ⟨7, wdAt all 1, 0, 0, 0, 0, 0, 0, 0, 0, 0⟩) := hX
  have hrX := G0.out.1.keep ((Keep.refl (fun b => b = w2.heap.size) _).setCell (p := ⟨w2.heap.size, 1, none⟩) (.inl rfl) (.string (wdAt all 1))) (by have := HLT.out; omega) (by have := HLT.out; omega)
  have HX := Lib.hid (And.intro hX (And.intro hrX (And.intro (G0.out.2.1.far (p := ⟨w2.heap.size, 1, none⟩) (by have := HLT.out; simp only; omega) (.string (wdAt all 1))) (G0.out.2.2.1.setCell (p := ⟨w2.heap.size, 1, none⟩) (by have := HLT.out; simp only; omega) (.string (wdAt all 1))))))
  clear hX hrX gx G0
  have HY := Lib.hid (fun h h2 => HRY.out h h2)
  obtain ⟨off, _, hbx⟩ := HX.out.2.1.box
  have r0 := hbx.cell 0
  have r1 := hbx.cell 1
  simp only [List.getElem?_toArray, List.getElem?_cons_zero, List.getElem?_cons_succ] at r0 r1
  clear hbx
  generalize hbd : (false || decide (all.length ≤ 1)) = bd at *
  have HBD := Lib.hid hbd
  clear hbd
  cases bd with
  | true =>
    have HPE : Hid (ps = (Cl.zero, 10)) := Lib.hid (HP1.out (.inl rfl))
    have gz := HX.out.2.2.1
    have hbb := HX.out.2.2.2
    obtain ⟨d0, d1, d2, d3, d4, d5, d6, d7, d8, d9, d10⟩ := gz.c11
    have f0 := gz.frozen
    clear HX
    have z := gz.stCl Cl.zero
    have hz := below_stCl hbb (g := w.heap.size) (Nat.le_refl _) Cl.zero
    have HZ := Lib.hid (And.intro z hz)
    clear z hz gz hbb
    unfold stCl at HZ
    go_wp2
    obtain ⟨z0, z1, z2, z3, z4, z5, z6, z7, z8, z9, z10⟩ := HZ.out.1.c11
    simp only [Cl.zero, Cl.arr] at z0 z1 z2 z3 z4 z5 z6 z7 z8 z9 z10
    exact bodyPost_ret (v := .tuple #[.agg #[.int .i64 0, .string ⟨#[]⟩, .int .i64 0, .int .i64 0, .int .i64 0, .int .i64 0, .int .i64 0, .int .i64 0, .int .i64 0, .int .i64 0, .int .i64 0], .int .i64 10]) (by simp [results, Tryz.results68, go_sem, z0, z1, z2, z3, z4, z5, z6, z7, z8, z9, z10]; try rfl) rfl ⟨by rw [HPE.out]; rfl, HZ.out.2⟩
  | false =>
    by_cases hlg : 2 < all.length
    · have HPE : Hid (ps = (Cl.zero, 10)) := Lib.hid (HP1.out (.inr hlg))
      have hlgI : (0 : Int) < ((all.length - min 2 all.length : Nat) : Int) := by omega
      have hlgN : 0 < all.length - min 2 all.length := by omega
      have gz := HX.out.2.2.1
      have hbb := HX.out.2.2.2
      obtain ⟨d0, d1, d2, d3, d4, d5, d6, d7, d8, d9, d10⟩ := gz.c11
      have f0 := gz.frozen
      clear HX hlg
      generalize all.length - min 2 all.length = rest at *
      have z := gz.stCl Cl.zero
      have hz := below_stCl hbb (g := w.heap.size) (Nat.le_refl _) Cl.zero
      have HZ := Lib.hid (And.intro z hz)
      clear z hz gz hbb
      unfold stCl at HZ
      go_wp2
      obtain ⟨z0, z1, z2, z3, z4, z5, z6, z7, z8, z9, z10⟩ := HZ.out.1.c11
      simp only [Cl.zero, Cl.arr] at z0 z1 z2 z3 z4 z5 z6 z7 z8 z9 z10
      exact bodyPost_ret (v := .tuple #[.agg #[.int .i64 0, .string ⟨#[]⟩, .int .i64 0, .int .i64 0, .int .i64 0, .int .i64 0, .int .i64 0, .int .i64 0, .int .i64 0, .int .i64 0, .int .i64 0], .int .i64 10]) (by simp [results, Tryz.results68, go_sem, z0, z1, z2, z3, z4, z5, z6, z7, z8, z9, z10]; try rfl) rfl ⟨by rw [HPE.out]; rfl, HZ.out.2⟩
    · have hlgI : ((all.length - min 2 all.length : Nat) : Int) = 0 := by omega
      have hlgN : all.length - min 2 all.length = 0 := by omega
      have hrc := HRY.out (by first | rfl | trivial) hlg
      have hxo : Cl.ok ⟨7, wdAt all 1, 0, 0, 0, 0, 0, 0, 0, 0, 0⟩ := ⟨(show In64 7 from ⟨by decide, by decide⟩), zero_in, zero_in, zero_in, ⟨zero_in, zero_in, zero_in, zero_in, zero_in, zero_in⟩, HIZ.out _⟩
      have HPE := Lib.hid (HP2.out ⟨7, wdAt all 1, 0, 0, 0, 0, 0, 0, 0, 0, 0⟩ hrc)
      have HTC := Lib.hid (fun W hRW => HT.out ⟨7, wdAt all 1, 0, 0, 0, 0, 0, 0, 0, 0, 0⟩ W hRW hxo (show (1 : Int) ≤ 7 by decide) (show (7 : Int) ≤ 8 by decide) hrc)
      obtain ⟨x0, x1, x2, x3, x4, x5, x6, x7, x8, x9, x10⟩ := HX.out.1.c11
      try simp only [Cl.arr] at x0 x1 x2 x3 x4 x5 x6 x7 x8 x9 x10
      clear hxo hrc hlg HP2 HT HRY HP1 HY
      generalize toldC ⟨7, wdAt all 1, 0, 0, 0, 0, 0, 0, 0, 0, 0⟩ s = ts at *
      obtain ⟨ty, te⟩ := ts
      go_wp2_with fail
      refine (HTC.out _ (HR.out.up HX.out.2.2.2)).mono ?_
      rintro y w8 ⟨rfl, hb8⟩
      have gz := HX.out.2.2.1.later hb8
      have hbb := sub_trans HX.out.2.2.2 hb8
      obtain ⟨d0, d1, d2, d3, d4, d5, d6, d7, d8, d9, d10⟩ := gz.c11
      have f0 := gz.frozen
      clear HX hb8 x0 x1 x2 x3 x4 x5 x6 x7 x8 x9 x10
      have z := gz.stCl ty
      have hz := below_stCl hbb (g := w.heap.size) (Nat.le_refl _) ty
      have HZ := Lib.hid (And.intro z hz)
      clear z hz gz hbb
      unfold stCl at HZ
      simp only [Cl.val, Cl.arr]
      go_wp2
      obtain ⟨z0, z1, z2, z3, z4, z5, z6, z7, z8, z9, z10⟩ := HZ.out.1.c11
      exact bodyPost_ret (v := .tuple #[.agg #[.int .i64 ty.k, .string ty.id, .int .i64 ty.tick, .int .i64 ty.value, .int .i64 ty.handle, .int .i64 ty.a, .int .i64 ty.b, .int .i64 ty.c, .int .i64 ty.d, .int .i64 ty.e, .int .i64 ty.f], .int .i64 te]) (by simp [results, Tryz.results68, go_sem, z0, z1, z2, z3, z4, z5, z6, z7, z8, z9, z10]; try rfl) rfl ⟨by rw [HPE.out]; rfl, HZ.out.2⟩
theorem lparse_8 (s : ByteArray) (w : World) (hR : Ready w) (hs : s.size ≤ 1000) (hk : kindW (headW (wordsB 32 s)) = 8) :
    Calls Tryz.prog 68 #[.string s] w fun y w' => y = .returned (.tuple #[(parseC s).1.val, .int .i64 (parseC s).2]) ∧ Below w.heap.size w w' := by
  have hne := wordsB_ne 32 s
  have hwl := wordsB_len 32 s
  have hlen : (wordsB 32 s).length ≤ 1000000 := by omega
  have hlen0 : 0 < (wordsB 32 s).length := List.length_pos_iff.2 hne
  have HP1 := Lib.hid (fun h : false = true ∨ 1 < (wordsB 32 s).length => parseC_form (s := s) (by omega) (by rw [hk]; exact read_no_8 hne h))
  have HRY := Lib.hid (fun h h2 => read_yes_8 (all := wordsB 32 s) hne h h2)
  have HP2 := Lib.hid (fun x (hc : readC 8 (wordsB 32 s) = some x) => parseC_told (s := s) (x := x) (by omega) (by rw [hk]; exact hc))
  have HT := Lib.hid (fun x W hRW hx h1 h8 (hc : readC 8 (wordsB 32 s) = some x) => told_any x s W 8 hRW hx h1 h8 hs hc)
  have HSZ : Hid (∀ x ∈ wordsB 32 s, x.size ≤ 1000000) := Lib.hid (fun x hx => by have := wordsB_sizes hx; omega)
  have HIZ : Hid (∀ j, (wdAt (wordsB 32 s) j).size ≤ 100000) := Lib.hid (fun j => by have := wd_size (s := s) j; omega)
  have HKD : Hid (∀ W, Calls Tryz.prog 81 #[.string (wdAt (wordsB 32 s) 0)] W fun y w' => y = .returned (.int .i64 8) ∧ Below W.heap.size W w') := Lib.hid (fun W => by
    have h := kind_any (headW (wordsB 32 s)) W
    rw [hk] at h
    have e : headW (wordsB 32 s) = wdAt (wordsB 32 s) 0 := by
      unfold headW wdAt
      cases wordsB 32 s <;> rfl
    rw [e] at h
    exact h)
  have HSP := Lib.hid (fun W hM => split_any 32 s (by omega) W hM)
  have HR := Lib.hid hR
  clear hR hs hk hne hwl
  generalize parseC s = ps at *
  generalize wordsB 32 s = all at *
  have hba0 : (false || decide (all.length ≤ 0)) = false := by rw [Bool.false_or, decide_eq_false_iff_not]; omega
  have HB00 := Lib.hid hba0
  clear hba0
  obtain ⟨WA, hWA⟩ : ∃ WA, ((w.alloc (.cells Cl.zero.arr 50)).alloc (.cells (all.map Value.string).toArray 9)).alloc (.cells #[.slice (some ⟨w.heap.size + 1, 0, none⟩) all.length all.length, .bool false] 124) = WA := ⟨_, rfl⟩
  have hbA : Below w.heap.size w WA := by rw [← hWA]; exact sub_alloc (sub_alloc (sub_alloc (Below.refl _ w) _) _) _
  have gzA : Blk WA w.heap.size 50 Cl.zero.arr := by rw [← hWA]; exact ((Blk.new_at _ _ _ rfl).alloc _).alloc _
  have hrA : RdAt WA (w.heap.size + 2) (w.heap.size + 1) all (min 0 all.length) false := by
    rw [← hWA, Nat.zero_min]
    exact ⟨⟨0, fun _ => rfl, Blk.new_at _ _ _ (by simp)⟩, (Blk.new_at _ _ _ (by simp)).alloc _, Nat.zero_le _⟩
  have HW0 := Lib.hid (word_any WA (w.heap.size + 2) (w.heap.size + 1) 0 all false hlen hrA)
  have HA := Lib.hid (And.intro hbA gzA)
  have HM0 := Lib.hid ((HR.out.up (sub_alloc (Below.refl _ w) (.cells Cl.zero.arr 50))).max)
  have HWA := Lib.hid hWA
  clear hbA gzA hrA hWA
  go_enter Tryz.func68, Tryz.ntmps68
  go_wp2_with fail
  refine (HSP.out _ HM0.out).mono ?_
  rintro y v0 ⟨rfl, rfl⟩
  go_wp2_with fail
  rw [← HWA.out] at HW0
  refine HW0.out.mono ?_
  rintro y w1 ⟨rfl, hr1, hk1⟩
  rw [HWA.out] at hk1
  rw [HB00.out] at hr1
  have gz1 := hk1.blk HA.out.2 (by omega)
  have hb1 := HA.out.1.trans (hk1.below HA.out.1.size (fun j e => by rw [e]; omega))
  have H1 := Lib.hid (And.intro hr1 (And.intro gz1 hb1))
  clear hr1 gz1 hb1 hk1 HW0
  go_wp2_with fail
  refine (HKD.out _).mono ?_
  rintro y w2 ⟨rfl, hb2⟩
  have hr2 := H1.out.1.up hb2
  have gz2 := H1.out.2.1.later hb2
  have hbb2 := sub_trans H1.out.2.2 hb2
  have hlt2 := hr2.lt
  have H3 := Lib.hid (And.intro (hr2.up (sub_alloc (Below.refl _ w2) (.cells (Cl.arr ⟨8, ⟨#[]⟩, 0, 0, 0, 0, 0, 0, 0, 0, 0⟩) 50))) (And.intro (gz2.alloc (.cells (Cl.arr ⟨8, ⟨#[]⟩, 0, 0, 0, 0, 0, 0, 0, 0, 0⟩) 50)) (And.intro (sub_alloc hbb2 (.cells (Cl.arr ⟨8, ⟨#[]⟩, 0, 0, 0, 0, 0, 0, 0, 0, 0⟩) 50)) (Blk.new_at w2 50 (Cl.arr ⟨8, ⟨#[]⟩, 0, 0, 0, 0, 0, 0, 0, 0, 0⟩) (g := w2.heap.size) rfl))))
  have HLT : Hid (w.heap.size + 2 < w2.heap.size) := Lib.hid hlt2
  clear hr2 gz2 hbb2 hlt2 hb2 H1
  have gx := H3.out.2.2.2
  obtain ⟨e0, e1, e2, e3, e4, e5, e6, e7, e8, e9, e10⟩ := gx.c11
  have f5 := gx.frozen
  simp only [Cl.arr] at e0 e1 e2 e3 e4 e5 e6 e7 e8 e9 e10 f5
  have hX := gx
  have hX : Blk _ w2.heap.size 50 (Cl.arr ⟨8, ⟨#[]⟩, 0, 0, 0, 0, 0, 0, 0, 0, 0⟩) := hX
  have hrX := H3.out.1
  have HX := Lib.hid (And.intro hX (And.intro hrX (And.intro H3.out.2.1 H3.out.2.2.1)))
  clear hX hrX gx H3
  have HY := Lib.hid (fun h h2 => HRY.out h h2)
  obtain ⟨off, _, hbx⟩ := HX.out.2.1.box
  have r0 := hbx.cell 0
  have r1 := hbx.cell 1
  simp only [List.getElem?_toArray, List.getElem?_cons_zero, List.getElem?_cons_succ] at r0 r1
  clear hbx
  try skip
  · skip
    by_cases hlg : 1 < all.length
    · have HPE : Hid (ps = (Cl.zero, 10)) := Lib.hid (HP1.out (.inr hlg))
      have hlgI : (0 : Int) < ((all.length - min 1 all.length : Nat) : Int) := by omega
      have hlgN : 0 < all.length - min 1 all.length := by omega
      have gz := HX.out.2.2.1
      have hbb := HX.out.2.2.2
      obtain ⟨d0, d1, d2, d3, d4, d5, d6, d7, d8, d9, d10⟩ := gz.c11
      have f0 := gz.frozen
      simp only [Cl.arr] at d0 d1 d2 d3 d4 d5 d6 d7 d8 d9 d10 f0 r0 r1
      clear HX hlg
      generalize all.length - min 1 all.length = rest at *
      have z := gz.stCl Cl.zero
      have hz := below_stCl hbb (g := w.heap.size) (Nat.le_refl _) Cl.zero
      have HZ := Lib.hid (And.intro z hz)
      clear z hz gz hbb
      unfold stCl at HZ
      go_wp2
      obtain ⟨z0, z1, z2, z3, z4, z5, z6, z7, z8, z9, z10⟩ := HZ.out.1.c11
      simp only [Cl.zero, Cl.arr] at z0 z1 z2 z3 z4 z5 z6 z7 z8 z9 z10
      exact bodyPost_ret (v := .tuple #[.agg #[.int .i64 0, .string ⟨#[]⟩, .int .i64 0, .int .i64 0, .int .i64 0, .int .i64 0, .int .i64 0, .int .i64 0, .int .i64 0, .int .i64 0, .int .i64 0], .int .i64 10]) (by simp [results, Tryz.results68, go_sem, z0, z1, z2, z3, z4, z5, z6, z7, z8, z9, z10]; try rfl) rfl ⟨by rw [HPE.out]; rfl, HZ.out.2⟩
    · have hlgI : ((all.length - min 1 all.length : Nat) : Int) = 0 := by omega
      have hlgN : all.length - min 1 all.length = 0 := by omega
      have hrc := HRY.out (by first | rfl | trivial) hlg
      have hxo : Cl.ok ⟨8, ⟨#[]⟩, 0, 0, 0, 0, 0, 0, 0, 0, 0⟩ := ⟨(show In64 8 from ⟨by decide, by decide⟩), zero_in, zero_in, zero_in, ⟨zero_in, zero_in, zero_in, zero_in, zero_in, zero_in⟩, (by show (⟨#[]⟩ : ByteArray).size ≤ 100000; decide)⟩
      have HPE := Lib.hid (HP2.out ⟨8, ⟨#[]⟩, 0, 0, 0, 0, 0, 0, 0, 0, 0⟩ hrc)
      have HTC := Lib.hid (fun W hRW => HT.out ⟨8, ⟨#[]⟩, 0, 0, 0, 0, 0, 0, 0, 0, 0⟩ W hRW hxo (show (1 : Int) ≤ 8 by decide) (show (8 : Int) ≤ 8 by decide) hrc)
      obtain ⟨x0, x1, x2, x3, x4, x5, x6, x7, x8, x9, x10⟩ := HX.out.1.c11
      try simp only [Cl.arr] at x0 x1 x2 x3 x4 x5 x6 x7 x8 x9 x10
      simp only [Cl.arr] at r0 r1
      clear hxo hrc hlg HP2 HT HRY HP1 HY
      generalize toldC ⟨8, ⟨#[]⟩, 0, 0, 0, 0, 0, 0, 0, 0, 0⟩ s = ts at *
      obtain ⟨ty, te⟩ := ts
      go_wp2_with fail
      refine (HTC.out _ (HR.out.up HX.out.2.2.2)).mono ?_
      rintro y w8 ⟨rfl, hb8⟩
      have gz := HX.out.2.2.1.later hb8
      have hbb := sub_trans HX.out.2.2.2 hb8
      obtain ⟨d0, d1, d2, d3, d4, d5, d6, d7, d8, d9, d10⟩ := gz.c11
      have f0 := gz.frozen
      clear HX hb8 x0 x1 x2 x3 x4 x5 x6 x7 x8 x9 x10
      have z := gz.stCl ty
      have hz := below_stCl hbb (g := w.heap.size) (Nat.le_refl _) ty
      have HZ := Lib.hid (And.intro z hz)
      clear z hz gz hbb
      unfold stCl at HZ
      simp only [Cl.val, Cl.arr]
      go_wp2
      obtain ⟨z0, z1, z2, z3, z4, z5, z6, z7, z8, z9, z10⟩ := HZ.out.1.c11
      exact bodyPost_ret (v := .tuple #[.agg #[.int .i64 ty.k, .string ty.id, .int .i64 ty.tick, .int .i64 ty.value, .int .i64 ty.handle, .int .i64 ty.a, .int .i64 ty.b, .int .i64 ty.c, .int .i64 ty.d, .int .i64 ty.e, .int .i64 ty.f], .int .i64 te]) (by simp [results, Tryz.results68, go_sem, z0, z1, z2, z3, z4, z5, z6, z7, z8, z9, z10]; try rfl) rfl ⟨by rw [HPE.out]; rfl, HZ.out.2⟩
theorem lparse_any (s : ByteArray) (w : World) (hR : Ready w) (hs : s.size ≤ 1000) :
    Calls Tryz.prog 68 #[.string s] w fun y w' => y = .returned (.tuple #[(parseC s).1.val, .int .i64 (parseC s).2]) ∧ Below w.heap.size w w' := by
  have h := kindW_le (headW (wordsB 32 s))
  obtain ⟨k, hk⟩ : ∃ k, kindW (headW (wordsB 32 s)) = k := ⟨_, rfl⟩
  have hor : k = 0 ∨ k = 1 ∨ k = 2 ∨ k = 3 ∨ k = 4 ∨ k = 5 ∨ k = 6 ∨ k = 7 ∨ k = 8 := by omega
  rcases hor with rfl | rfl | rfl | rfl | rfl | rfl | rfl | rfl | rfl
  · exact lparse_0 s w hR hs hk
  · exact lparse_1 s w hR hs hk
  · exact lparse_2 s w hR hs hk
  · exact lparse_3 s w hR hs hk
  · exact lparse_4 s w hR hs hk
  · exact lparse_5 s w hR hs hk
  · exact lparse_6 s w hR hs hk
  · exact lparse_7 s w hR hs hk
  · exact lparse_8 s w hR hs hk
end Go.Proofs.YteljecehppeamaaGreatDoor
