/-
  The reference's text of a policy, walked (chapter 12). Condition: none.
-/
import Derived.Test.YteljecehppeamaaGreatDoorJ03
import Derived.Test.YteljecehppeamaaGreatDoorJ05
namespace Go.Proofs.YteljecehppeamaaGreatDoor
open Go.RowKit Go.Fw
set_option maxHeartbeats 2000000
set_option maxRecDepth 100000
set_option linter.unusedVariables false
set_option linter.unusedSimpArgs false
theorem poltextr_any (a b c d e f : Int) (h6 : In6 a b c d e f) (w : World) :
    Calls Tryz.prog 51 #[.agg #[.int .i64 a, .int .i64 b, .int .i64 c, .int .i64 d, .int .i64 e, .int .i64 f]] w fun x w' => x = .returned (.string (polB a b c d e f)) ∧ Below w.heap.size w w' := by
  have hd0 := fun w => dec_any a h6.1 w
  have hz0 := decB_size h6.1.1 h6.1.2
  have hl0 := decB_list a
  have hd1 := fun w => dec_any b h6.2.1 w
  have hz1 := decB_size h6.2.1.1 h6.2.1.2
  have hl1 := decB_list b
  have hd2 := fun w => dec_any c h6.2.2.1 w
  have hz2 := decB_size h6.2.2.1.1 h6.2.2.1.2
  have hl2 := decB_list c
  have hd3 := fun w => dec_any d h6.2.2.2.1 w
  have hz3 := decB_size h6.2.2.2.1.1 h6.2.2.2.1.2
  have hl3 := decB_list d
  have hd4 := fun w => dec_any e h6.2.2.2.2.1 w
  have hz4 := decB_size h6.2.2.2.2.1.1 h6.2.2.2.2.1.2
  have hl4 := decB_list e
  have hd5 := fun w => dec_any f h6.2.2.2.2.2 w
  have hz5 := decB_size h6.2.2.2.2.2.1 h6.2.2.2.2.2.2
  have hl5 := decB_list f
  clear h6
  generalize decB a = A0 at *
  generalize decB b = A1 at *
  generalize decB c = A2 at *
  generalize decB d = A3 at *
  generalize decB e = A4 at *
  generalize decB f = A5 at *
  have hfin : ((((((⟨#[109, 105, 110, 32]⟩ ++ A0 : ByteArray) ++ ⟨#[32, 109, 97, 120, 32]⟩ ++ A1) ++ ⟨#[32, 116, 97, 114, 103, 101, 116, 32]⟩ ++ A2) ++ ⟨#[32, 116, 111, 108, 101, 114, 97, 110, 99, 101, 32]⟩ ++ A3) ++ ⟨#[32, 119, 105, 110, 100, 111, 119, 32]⟩ ++ A4) ++ ⟨#[32, 104, 111, 108, 100, 32]⟩ ++ A5) = polB a b c d e f := polB_of (by
    simp only [app_list, hl0, hl1, hl2, hl3, hl4, hl5, polK_6, polK_5, polK_4, polK_3, polK_2, polK_1]
    simp)
  have HF := Lib.hid hfin
  clear hfin
  have HD0 := Lib.hid hd0
  clear hd0 hl0
  have HD1 := Lib.hid hd1
  clear hd1 hl1
  have HD2 := Lib.hid hd2
  clear hd2 hl2
  have HD3 := Lib.hid hd3
  clear hd3 hl3
  have HD4 := Lib.hid hd4
  clear hd4 hl4
  have HD5 := Lib.hid hd5
  clear hd5 hl5
  have hb0 : ¬ 9223372036854775807 < 4 + A0.size := by omega
  have hb1 : ¬ 9223372036854775807 < 4 + A0.size + 5 := by omega
  have hb2 : ¬ 9223372036854775807 < 4 + A0.size + 5 + A1.size := by omega
  have hb3 : ¬ 9223372036854775807 < 4 + A0.size + 5 + A1.size + 8 := by omega
  have hb4 : ¬ 9223372036854775807 < 4 + A0.size + 5 + A1.size + 8 + A2.size := by omega
  have hb5 : ¬ 9223372036854775807 < 4 + A0.size + 5 + A1.size + 8 + A2.size + 11 := by omega
  have hb6 : ¬ 9223372036854775807 < 4 + A0.size + 5 + A1.size + 8 + A2.size + 11 + A3.size := by omega
  have hb7 : ¬ 9223372036854775807 < 4 + A0.size + 5 + A1.size + 8 + A2.size + 11 + A3.size + 8 := by omega
  have hb8 : ¬ 9223372036854775807 < 4 + A0.size + 5 + A1.size + 8 + A2.size + 11 + A3.size + 8 + A4.size := by omega
  have hb9 : ¬ 9223372036854775807 < 4 + A0.size + 5 + A1.size + 8 + A2.size + 11 + A3.size + 8 + A4.size + 6 := by omega
  have hb10 : ¬ 9223372036854775807 < 4 + A0.size + 5 + A1.size + 8 + A2.size + 11 + A3.size + 8 + A4.size + 6 + A5.size := by omega
  go_enter Tryz.func51, Tryz.ntmps51
  go_wp2
  refine any_start (S := fun W => W = (w.alloc (.cells #[.int .i64 a, .int .i64 b, .int .i64 c, .int .i64 d, .int .i64 e, .int .i64 f] 48)).drew) (by kernel_rfl) rfl ?_
  have hS0 : (w.alloc (.cells #[.int .i64 a, .int .i64 b, .int .i64 c, .int .i64 d, .int .i64 e, .int .i64 f] 48)).drew = (w.alloc (.cells #[.int .i64 a, .int .i64 b, .int .i64 c, .int .i64 d, .int .i64 e, .int .i64 f] 48)).drew := rfl
  simp only [List.length_cons, List.length_nil, Nat.reduceAdd, List.size_toArray]
  refine any_pure 0 (v := ?_) rfl (by kernel_rfl) (by intro _ _ _ h; exact h) (by assumption) (by rfl) (fun W hW => ?_) ?_
  rotate_left
  · first | (go_simp; done) | (go_simp; with_reducible rfl)
  try simp only [Act.put, List.setIfInBounds_toArray, List.set_cons_zero, List.set_cons_succ]
  refine any_pure 1 (v := ?_) rfl (by kernel_rfl) (by intro _ _ _ h; exact h) (by assumption) (by rfl) (fun W hW => ?_) ?_
  rotate_left
  · subst hW; first | (go_simp; done) | (go_simp; with_reducible rfl)
  try simp only [Act.put, List.setIfInBounds_toArray, List.set_cons_zero, List.set_cons_succ]
  refine any_call 2 34 #[.int .i64 a] (.string A0) rfl (by kernel_rfl) (by intro _ _ _ h; exact h) (by assumption) (by rfl) (fun _ => by go_simp) (fun W hW => ?_) ?_
  · exact HD0.out W
  try simp only [Act.put, List.setIfInBounds_toArray, List.set_cons_zero, List.set_cons_succ]
  refine any_pure 3 (v := ?_) rfl (by kernel_rfl) (by intro _ _ _ h; exact h) (by assumption) (by rfl) (fun W hW => ?_) ?_
  rotate_left
  · first | (go_simp; done) | (go_simp; with_reducible rfl)
  try simp only [Act.put, List.setIfInBounds_toArray, List.set_cons_zero, List.set_cons_succ]
  refine any_pure 4 (v := ?_) rfl (by kernel_rfl) (by intro _ _ _ h; exact h) (by assumption) (by rfl) (fun W hW => ?_) ?_
  rotate_left
  · first | (go_simp; done) | (go_simp; with_reducible rfl)
  try simp only [Act.put, List.setIfInBounds_toArray, List.set_cons_zero, List.set_cons_succ]
  refine any_pure 5 (v := ?_) rfl (by kernel_rfl) (by intro _ _ _ h; exact h) (by assumption) (by rfl) (fun W hW => ?_) ?_
  rotate_left
  · first | (go_simp; done) | (go_simp; with_reducible rfl)
  try simp only [Act.put, List.setIfInBounds_toArray, List.set_cons_zero, List.set_cons_succ]
  refine any_pure 6 (v := ?_) rfl (by kernel_rfl) (by intro _ _ _ h; exact h) (by assumption) (by rfl) (fun W hW => ?_) ?_
  rotate_left
  · subst hW; first | (go_simp; done) | (go_simp; with_reducible rfl)
  try simp only [Act.put, List.setIfInBounds_toArray, List.set_cons_zero, List.set_cons_succ]
  refine any_call 7 34 #[.int .i64 b] (.string A1) rfl (by kernel_rfl) (by intro _ _ _ h; exact h) (by assumption) (by rfl) (fun _ => by go_simp) (fun W hW => ?_) ?_
  · exact HD1.out W
  try simp only [Act.put, List.setIfInBounds_toArray, List.set_cons_zero, List.set_cons_succ]
  refine any_pure 8 (v := ?_) rfl (by kernel_rfl) (by intro _ _ _ h; exact h) (by assumption) (by rfl) (fun W hW => ?_) ?_
  rotate_left
  · first | (go_simp; done) | (go_simp; with_reducible rfl)
  try simp only [Act.put, List.setIfInBounds_toArray, List.set_cons_zero, List.set_cons_succ]
  refine any_pure 9 (v := ?_) rfl (by kernel_rfl) (by intro _ _ _ h; exact h) (by assumption) (by rfl) (fun W hW => ?_) ?_
  rotate_left
  · first | (go_simp; done) | (go_simp; with_reducible rfl)
  try simp only [Act.put, List.setIfInBounds_toArray, List.set_cons_zero, List.set_cons_succ]
  refine any_pure 10 (v := ?_) rfl (by kernel_rfl) (by intro _ _ _ h; exact h) (by assumption) (by rfl) (fun W hW => ?_) ?_
  rotate_left
  · first | (go_simp; done) | (go_simp; with_reducible rfl)
  try simp only [Act.put, List.setIfInBounds_toArray, List.set_cons_zero, List.set_cons_succ]
  refine any_pure 11 (v := ?_) rfl (by kernel_rfl) (by intro _ _ _ h; exact h) (by assumption) (by rfl) (fun W hW => ?_) ?_
  rotate_left
  · subst hW; first | (go_simp; done) | (go_simp; with_reducible rfl)
  try simp only [Act.put, List.setIfInBounds_toArray, List.set_cons_zero, List.set_cons_succ]
  refine any_call 12 34 #[.int .i64 c] (.string A2) rfl (by kernel_rfl) (by intro _ _ _ h; exact h) (by assumption) (by rfl) (fun _ => by go_simp) (fun W hW => ?_) ?_
  · exact HD2.out W
  try simp only [Act.put, List.setIfInBounds_toArray, List.set_cons_zero, List.set_cons_succ]
  refine any_pure 13 (v := ?_) rfl (by kernel_rfl) (by intro _ _ _ h; exact h) (by assumption) (by rfl) (fun W hW => ?_) ?_
  rotate_left
  · first | (go_simp; done) | (go_simp; with_reducible rfl)
  try simp only [Act.put, List.setIfInBounds_toArray, List.set_cons_zero, List.set_cons_succ]
  refine any_pure 14 (v := ?_) rfl (by kernel_rfl) (by intro _ _ _ h; exact h) (by assumption) (by rfl) (fun W hW => ?_) ?_
  rotate_left
  · first | (go_simp; done) | (go_simp; with_reducible rfl)
  try simp only [Act.put, List.setIfInBounds_toArray, List.set_cons_zero, List.set_cons_succ]
  refine any_pure 15 (v := ?_) rfl (by kernel_rfl) (by intro _ _ _ h; exact h) (by assumption) (by rfl) (fun W hW => ?_) ?_
  rotate_left
  · first | (go_simp; done) | (go_simp; with_reducible rfl)
  try simp only [Act.put, List.setIfInBounds_toArray, List.set_cons_zero, List.set_cons_succ]
  refine any_pure 16 (v := ?_) rfl (by kernel_rfl) (by intro _ _ _ h; exact h) (by assumption) (by rfl) (fun W hW => ?_) ?_
  rotate_left
  · subst hW; first | (go_simp; done) | (go_simp; with_reducible rfl)
  try simp only [Act.put, List.setIfInBounds_toArray, List.set_cons_zero, List.set_cons_succ]
  refine any_call 17 34 #[.int .i64 d] (.string A3) rfl (by kernel_rfl) (by intro _ _ _ h; exact h) (by assumption) (by rfl) (fun _ => by go_simp) (fun W hW => ?_) ?_
  · exact HD3.out W
  try simp only [Act.put, List.setIfInBounds_toArray, List.set_cons_zero, List.set_cons_succ]
  refine any_pure 18 (v := ?_) rfl (by kernel_rfl) (by intro _ _ _ h; exact h) (by assumption) (by rfl) (fun W hW => ?_) ?_
  rotate_left
  · first | (go_simp; done) | (go_simp; with_reducible rfl)
  try simp only [Act.put, List.setIfInBounds_toArray, List.set_cons_zero, List.set_cons_succ]
  refine any_pure 19 (v := ?_) rfl (by kernel_rfl) (by intro _ _ _ h; exact h) (by assumption) (by rfl) (fun W hW => ?_) ?_
  rotate_left
  · first | (go_simp; done) | (go_simp; with_reducible rfl)
  try simp only [Act.put, List.setIfInBounds_toArray, List.set_cons_zero, List.set_cons_succ]
  refine any_pure 20 (v := ?_) rfl (by kernel_rfl) (by intro _ _ _ h; exact h) (by assumption) (by rfl) (fun W hW => ?_) ?_
  rotate_left
  · first | (go_simp; done) | (go_simp; with_reducible rfl)
  try simp only [Act.put, List.setIfInBounds_toArray, List.set_cons_zero, List.set_cons_succ]
  refine any_pure 21 (v := ?_) rfl (by kernel_rfl) (by intro _ _ _ h; exact h) (by assumption) (by rfl) (fun W hW => ?_) ?_
  rotate_left
  · subst hW; first | (go_simp; done) | (go_simp; with_reducible rfl)
  try simp only [Act.put, List.setIfInBounds_toArray, List.set_cons_zero, List.set_cons_succ]
  refine any_call 22 34 #[.int .i64 e] (.string A4) rfl (by kernel_rfl) (by intro _ _ _ h; exact h) (by assumption) (by rfl) (fun _ => by go_simp) (fun W hW => ?_) ?_
  · exact HD4.out W
  try simp only [Act.put, List.setIfInBounds_toArray, List.set_cons_zero, List.set_cons_succ]
  refine any_pure 23 (v := ?_) rfl (by kernel_rfl) (by intro _ _ _ h; exact h) (by assumption) (by rfl) (fun W hW => ?_) ?_
  rotate_left
  · first | (go_simp; done) | (go_simp; with_reducible rfl)
  try simp only [Act.put, List.setIfInBounds_toArray, List.set_cons_zero, List.set_cons_succ]
  refine any_pure 24 (v := ?_) rfl (by kernel_rfl) (by intro _ _ _ h; exact h) (by assumption) (by rfl) (fun W hW => ?_) ?_
  rotate_left
  · first | (go_simp; done) | (go_simp; with_reducible rfl)
  try simp only [Act.put, List.setIfInBounds_toArray, List.set_cons_zero, List.set_cons_succ]
  refine any_pure 25 (v := ?_) rfl (by kernel_rfl) (by intro _ _ _ h; exact h) (by assumption) (by rfl) (fun W hW => ?_) ?_
  rotate_left
  · first | (go_simp; done) | (go_simp; with_reducible rfl)
  try simp only [Act.put, List.setIfInBounds_toArray, List.set_cons_zero, List.set_cons_succ]
  refine any_pure 26 (v := ?_) rfl (by kernel_rfl) (by intro _ _ _ h; exact h) (by assumption) (by rfl) (fun W hW => ?_) ?_
  rotate_left
  · subst hW; first | (go_simp; done) | (go_simp; with_reducible rfl)
  try simp only [Act.put, List.setIfInBounds_toArray, List.set_cons_zero, List.set_cons_succ]
  refine any_call 27 34 #[.int .i64 f] (.string A5) rfl (by kernel_rfl) (by intro _ _ _ h; exact h) (by assumption) (by rfl) (fun _ => by go_simp) (fun W hW => ?_) ?_
  · exact HD5.out W
  try simp only [Act.put, List.setIfInBounds_toArray, List.set_cons_zero, List.set_cons_succ]
  refine any_pure 28 (v := ?_) rfl (by kernel_rfl) (by intro _ _ _ h; exact h) (by assumption) (by rfl) (fun W hW => ?_) ?_
  rotate_left
  · first | (go_simp; done) | (go_simp; with_reducible rfl)
  try simp only [Act.put, List.setIfInBounds_toArray, List.set_cons_zero, List.set_cons_succ]
  refine any_pure 29 (v := ?_) rfl (by kernel_rfl) (by intro _ _ _ h; exact h) (by assumption) (by rfl) (fun W hW => ?_) ?_
  rotate_left
  · first | (go_simp; done) | (go_simp; with_reducible rfl)
  try simp only [Act.put, List.setIfInBounds_toArray, List.set_cons_zero, List.set_cons_succ]
  refine any_done (by kernel_rfl) ?_
  go_wp2
  go_ret
  exact ⟨ret_s HF.out, (sub_alloc (Below.refl _ w) _).drew⟩
end Go.Proofs.YteljecehppeamaaGreatDoor
