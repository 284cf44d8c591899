/-
  ZigPuts, its walk: numbers have the document's bytes, and are read from them. Condition: none.
-/
import Derived.Test.YtomncdnkiommfaaZigGets
import Derived.Test.YtomncdnkiommfaaZigAll
import Derived.Test.YtomncdnkiommfaaRegion
namespace Go.Proofs.Ytomncdnkiommfaa
open Go.RowKit Go.Fw
set_option maxHeartbeats 400000
set_option maxRecDepth 4000
set_option linter.unusedVariables false
set_option linter.unusedSimpArgs false

theorem put_at (l : List Int) (n : Nat) (hl : n ≤ 100000) (hs : Small l) (A : Option Addr) (c : Nat) (w : World) (hr : Reads w w.heap.size 1 A n (i64s l)) :
    Calls Try.prog 12 #[.slice A n c] w fun e w' => ∃ v, e = .returned v ∧ Mine w w' 5 v (bys (putL l)) := by
  obtain rfl : n = l.length := by have := hr.len; rwa [i64s_length] at this
  exact put_any l hl hs A c w hr
theorem all_at (l : List UInt8) (n : Nat) (hl : n ≤ 100000) (A : Option Addr) (c : Nat) (hc : n ≤ c) (w : World) (hr : Reads w w.heap.size 1 A n (bys l)) :
    Calls Try.prog 13 #[.slice A n c] w fun e w' => ∃ v, e = .returned (.tuple #[v, .int .i64 (perr (readL l).2)]) ∧ Mine w w' 2 v (i64s (readL l).1) := by
  obtain rfl : n = l.length := by have := hr.len; rwa [bys_length] at this
  exact all_any l A c w hr hl hc
theorem small_mem {l : List Int} (h : Small l) : ∀ x ∈ l, -9223372036854775808 ≤ x ∧ x ≤ 9223372036854775807 := by
  intro x hx
  obtain ⟨k, hk, rfl⟩ := List.getElem_of_mem hx
  exact h k hk

set_option maxHeartbeats 4000000 in
theorem zigPuts_walk (l : List Int) (A : Option Addr) (c : Nat) (n : Int) (w : World) (hr : Reads w w.heap.size 1 A l.length (i64s l)) (hs : Small l) (hlc : l.length ≤ maxLen ∧ l.length ≤ c)
    (hn : -9223372036854775808 ≤ n ∧ n ≤ 9223372036854775807) :
    Calls Try.prog 4 #[.slice A l.length c, .int .i64 n] w fun e w' => e = .returned (.bool true) ∧ Below w.heap.size w w' := by
  obtain ⟨hl, hcc⟩ := hlc
  obtain ⟨h0, h1⟩ := hn
  unfold maxLen at hl
  by_cases h : l.length ≤ 100
  · have hrd : readL (putL l) = (l, 0) := by rw [readL, readF_put l (small_mem hs) _ _ (Nat.le_refl _), List.nil_append]
    have HRD := Lib.hid hrd
    have hln := putL_length l
    clear hrd
    have hz := zig_bd n h0 h1
    have HZ := Lib.hid (zag_zig n)
    have e0 : (perr 0 == 0) = true := by decide
    go_enter Try.func4, Try.ntmps4
    go_wp2_with fail
    refine (awake_any w).mono ?_
    rintro e w1 ⟨rfl, hb⟩
    have hr1 := (hr.below hb).more hb.size
    go_wp2_with fail
    refine (put_at l _ (by omega) hs _ _ _ hr1).mono ?_
    rintro e w2 ⟨v2, rfl, hm2⟩
    have hb2 := sub_trans hb hm2.below
    obtain ⟨A2, c2, rfl, hc2, _, hq2⟩ := hm2.form
    rw [bys_length] at hc2
    go_wp2_with fail
    refine (all_at (putL l) _ (by rw [bys_length]; omega) _ _ (by rw [bys_length]; omega) _ hq2).mono ?_
    rintro e w3 ⟨v3, rfl, hm3⟩
    rw [HRD.out] at hm3 ⊢
    have hb3 := sub_trans hb2 hm3.below
    obtain ⟨A3, c3, rfl, _, _, hq3⟩ := hm3.form
    have hr3 := (hr.below hb3).more hb3.size
    have hq2' := hq2.below hm3.below
    have hcv2 := run_str_reads (P := Try.prog) 22 9 5 c2 Try.underlying22 Try.underlying5 Try.underlying9 hq2'.drew
    have hs3 := hm3.below.size
    clear hq2 hr1 hr hb2 hb hm3 hm2
    go_wp2_with fail
    obtain ⟨hz0, hz1⟩ := hz
    have hb3d := hb3.drew
    have hr3d := hr3.drew
    have hq3d := hq3.drew
    clear hln hl hcc hb3 hr3 hq3
    have hS3 := (Below.refl w3.heap.size w3).drew
    refine any_start (S := fun W => Below w3.heap.size w3 W) (by kernel_rfl) hS3 ?_
    simp only [List.length_cons, List.length_nil, Nat.reduceAdd, List.size_toArray]
    refine any_pure 0 (v := ?_) rfl (by kernel_rfl) (by intro _ _ _ h; exact h) (by assumption) (by rfl) (fun W hW => ?_) ?_
    rotate_left
    · first | (go_simp; done) | (go_simp; with_reducible rfl)
    try simp only [Act.put, List.setIfInBounds_toArray, List.set_cons_zero, List.set_cons_succ]
    refine any_pure 1 (v := ?_) rfl (by kernel_rfl) (by intro _ _ _ h; exact h) (by assumption) (by rfl) (fun W hW => ?_) ?_
    rotate_left
    · have hc := run_str_reads (P := Try.prog) 22 9 5 c2 Try.underlying22 Try.underlying5 Try.underlying9 (hq2'.below (Below.mono (B := w3.heap.size) hW hs3)); first | (go_simp; done) | (go_simp; with_reducible rfl)
    try simp only [Act.put, List.setIfInBounds_toArray, List.set_cons_zero, List.set_cons_succ]
    refine any_pure 2 (v := ?_) rfl (by kernel_rfl) (by intro _ _ _ h; exact h) (by assumption) (by rfl) (fun W hW => ?_) ?_
    rotate_left
    · first | (go_simp; done) | (go_simp; with_reducible rfl)
    try simp only [Act.put, List.setIfInBounds_toArray, List.set_cons_zero, List.set_cons_succ]
    refine any_one 3 (by kernel_rfl) rfl (by rfl) (fun K hK => ?_)
    go_simp
    refine (rall_any l (by omega) hs _ _ _ hr3d).mono ?_
    rintro e w4 ⟨v4, rfl, hm4⟩
    obtain ⟨A4, c4, rfl, _, _, hq4⟩ := hm4.form
    have hb4 := sub_trans hb3d hm4.below
    have hr4 := hr3d.up hm4.below
    have hq34 := hq3d.up hm4.below
    refine hK _ _ (sub_trans hS3 hm4.below) (any_narrow (S' := fun W => Below w4.heap.size w4 W) (fun _ h => sub_trans (sub_trans hS3 hm4.below) h) _ _ _ _ ?_)
    have hS4 := Below.refl w4.heap.size w4
    clear hK hm4 hS3 hb3d hr3d hq3d
    try simp only [Act.put, List.setIfInBounds_toArray, List.set_cons_zero, List.set_cons_succ]
    refine any_pure 4 (v := ?_) rfl (by kernel_rfl) (by intro _ _ _ h; exact h) (by assumption) (by rfl) (fun W hW => ?_) ?_
    rotate_left
    · have hc := run_str_reads (P := Try.prog) 22 9 5 c4 Try.underlying22 Try.underlying5 Try.underlying9 (hq4.up hW); first | (go_simp; done) | (go_simp; with_reducible rfl)
    try simp only [Act.put, List.setIfInBounds_toArray, List.set_cons_zero, List.set_cons_succ]
    refine any_pure 5 (v := ?_) rfl (by kernel_rfl) (by intro _ _ _ h; exact h) (by assumption) (by rfl) (fun W hW => ?_) ?_
    rotate_left
    · first | (go_simp; done) | (go_simp; with_reducible rfl)
    try simp only [Act.put, List.setIfInBounds_toArray, List.set_cons_zero, List.set_cons_succ]
    refine any_pure 6 (v := ?_) rfl (by kernel_rfl) (by intro _ _ _ h; exact h) (by assumption) (by rfl) (fun W hW => ?_) ?_
    rotate_left
    · first | (go_simp; done) | (go_simp; with_reducible rfl)
    try simp only [Act.put, List.setIfInBounds_toArray, List.set_cons_zero, List.set_cons_succ]
    refine any_pure 7 (v := ?_) rfl (by kernel_rfl) (by intro _ _ _ h; exact h) (by assumption) (by rfl) (fun W hW => ?_) ?_
    rotate_left
    · first | (go_simp; done) | (go_simp; with_reducible rfl)
    try simp only [Act.put, List.setIfInBounds_toArray, List.set_cons_zero, List.set_cons_succ]
    refine any_pure 8 (v := ?_) rfl (by kernel_rfl) (by intro _ _ _ h; exact h) (by assumption) (by rfl) (fun W hW => ?_) ?_
    rotate_left
    · first | (go_simp; done) | (go_simp; with_reducible rfl)
    try simp only [Act.put, List.setIfInBounds_toArray, List.set_cons_zero, List.set_cons_succ]
    refine any_one 9 (by kernel_rfl) rfl (by rfl) (fun K hK => ?_)
    go_simp
    refine (same_any l l _ _ _ _ _ _ w4.heap.size _ hq34 hr4 (by rw [i64s_length]; omega) (by omega) hs hs).mono ?_
    rintro e w5 ⟨rfl, hb5⟩
    have hb6 := sub_trans hb4 hb5
    refine hK _ _ hb5 (any_narrow (S' := fun W => Below w5.heap.size w5 W) (fun _ h => sub_trans hb5 h) _ _ _ _ ?_)
    have hS5 := Below.refl w5.heap.size w5
    clear hK hb4 hb5 hS4
    try simp only [Act.put, List.setIfInBounds_toArray, List.set_cons_zero, List.set_cons_succ]
    refine any_pure 10 (v := ?_) rfl (by kernel_rfl) (by intro _ _ _ h; exact h) (by assumption) (by rfl) (fun W hW => ?_) ?_
    rotate_left
    · first | (go_simp; done) | (go_simp; with_reducible rfl)
    try simp only [Act.put, List.setIfInBounds_toArray, List.set_cons_zero, List.set_cons_succ]
    refine any_pure 11 (v := ?_) rfl (by kernel_rfl) (by intro _ _ _ h; exact h) (by assumption) (by rfl) (fun W hW => ?_) ?_
    rotate_left
    · first | (go_simp; done) | (go_simp; with_reducible rfl)
    try simp only [Act.put, List.setIfInBounds_toArray, List.set_cons_zero, List.set_cons_succ]
    refine any_pure 12 (v := ?_) rfl (by kernel_rfl) (by intro _ _ _ h; exact h) (by assumption) (by rfl) (fun W hW => ?_) ?_
    rotate_left
    · first | (go_simp; done) | (go_simp; with_reducible rfl)
    try simp only [Act.put, List.setIfInBounds_toArray, List.set_cons_zero, List.set_cons_succ]
    refine any_pure 13 (v := ?_) rfl (by kernel_rfl) (by intro _ _ _ h; exact h) (by assumption) (by rfl) (fun W hW => ?_) ?_
    rotate_left
    · first | (go_simp; done) | (go_simp; with_reducible rfl)
    try simp only [Act.put, List.setIfInBounds_toArray, List.set_cons_zero, List.set_cons_succ]
    refine any_pure 14 (v := ?_) rfl (by kernel_rfl) (by intro _ _ _ h; exact h) (by assumption) (by rfl) (fun W hW => ?_) ?_
    rotate_left
    · first | (go_simp; done) | (go_simp; with_reducible rfl)
    try simp only [Act.put, List.setIfInBounds_toArray, List.set_cons_zero, List.set_cons_succ]
    refine any_pure 15 (v := ?_) rfl (by kernel_rfl) (by intro _ _ _ h; exact h) (by assumption) (by rfl) (fun W hW => ?_) ?_
    rotate_left
    · first | (go_simp; done) | (go_simp; with_reducible rfl)
    try simp only [Act.put, List.setIfInBounds_toArray, List.set_cons_zero, List.set_cons_succ]
    refine any_pure 16 (v := ?_) rfl (by kernel_rfl) (by intro _ _ _ h; exact h) (by assumption) (by rfl) (fun W hW => ?_) ?_
    rotate_left
    · first | (go_simp; done) | (go_simp; with_reducible rfl)
    try simp only [Act.put, List.setIfInBounds_toArray, List.set_cons_zero, List.set_cons_succ]
    refine any_pure 18 (v := ?_) rfl (by kernel_rfl) (by intro _ _ _ h; exact h) (by assumption) (by rfl) (fun W hW => ?_) ?_
    rotate_left
    · first | (go_simp; done) | (go_simp; with_reducible rfl)
    try simp only [Act.put, List.setIfInBounds_toArray, List.set_cons_zero, List.set_cons_succ]
    refine any_one 17 (by kernel_rfl) rfl (by rfl) (fun K hK => ?_)
    go_simp
    refine (zig_any _ _ h0 h1).mono ?_
    rintro e w6 ⟨rfl, rfl⟩
    refine hK _ _ (by assumption) ?_
    clear hK
    try simp only [Act.put, List.setIfInBounds_toArray, List.set_cons_zero, List.set_cons_succ]
    refine any_one 19 (by kernel_rfl) rfl (by rfl) (fun K hK => ?_)
    go_simp
    refine (rzig_any _ _ h0 h1).mono ?_
    rintro e w6 ⟨rfl, rfl⟩
    refine hK _ _ (by assumption) ?_
    clear hK
    try simp only [Act.put, List.setIfInBounds_toArray, List.set_cons_zero, List.set_cons_succ]
    refine any_pure 20 (v := ?_) rfl (by kernel_rfl) (by intro _ _ _ h; exact h) (by assumption) (by rfl) (fun W hW => ?_) ?_
    rotate_left
    · first | (go_simp; done) | (go_simp; with_reducible rfl)
    try simp only [Act.put, List.setIfInBounds_toArray, List.set_cons_zero, List.set_cons_succ]
    refine any_pure 21 (v := ?_) rfl (by kernel_rfl) (by intro _ _ _ h; exact h) (by assumption) (by rfl) (fun W hW => ?_) ?_
    rotate_left
    · first | (go_simp; done) | (go_simp; with_reducible rfl)
    try simp only [Act.put, List.setIfInBounds_toArray, List.set_cons_zero, List.set_cons_succ]
    refine any_pure 22 (v := ?_) rfl (by kernel_rfl) (by intro _ _ _ h; exact h) (by assumption) (by rfl) (fun W hW => ?_) ?_
    rotate_left
    · first | (go_simp; done) | (go_simp; with_reducible rfl)
    try simp only [Act.put, List.setIfInBounds_toArray, List.set_cons_zero, List.set_cons_succ]
    refine any_pure 23 (v := ?_) rfl (by kernel_rfl) (by intro _ _ _ h; exact h) (by assumption) (by rfl) (fun W hW => ?_) ?_
    rotate_left
    · first | (go_simp; done) | (go_simp; with_reducible rfl)
    try simp only [Act.put, List.setIfInBounds_toArray, List.set_cons_zero, List.set_cons_succ]
    refine any_pure 26 (v := ?_) rfl (by kernel_rfl) (by intro _ _ _ h; exact h) (by assumption) (by rfl) (fun W hW => ?_) ?_
    rotate_left
    · first | (go_simp; done) | (go_simp; with_reducible rfl)
    try simp only [Act.put, List.setIfInBounds_toArray, List.set_cons_zero, List.set_cons_succ]
    refine any_one 24 (by kernel_rfl) rfl (by rfl) (fun K hK => ?_)
    go_simp
    refine (zig_any _ _ h0 h1).mono ?_
    rintro e w6 ⟨rfl, rfl⟩
    refine hK _ _ (by assumption) ?_
    clear hK
    try simp only [Act.put, List.setIfInBounds_toArray, List.set_cons_zero, List.set_cons_succ]
    refine any_one 25 (by kernel_rfl) rfl (by rfl) (fun K hK => ?_)
    go_simp
    refine (zag_any _ _ hz0 hz1).mono ?_
    rintro e w6 ⟨rfl, rfl⟩
    rw [HZ.out]
    refine hK _ _ (by assumption) ?_
    clear hK
    try simp only [Act.put, List.setIfInBounds_toArray, List.set_cons_zero, List.set_cons_succ]
    refine any_pure 27 (v := ?_) rfl (by kernel_rfl) (by intro _ _ _ h; exact h) (by assumption) (by rfl) (fun W hW => ?_) ?_
    rotate_left
    · first | (go_simp; done) | (go_simp; with_reducible rfl)
    try simp only [Act.put, List.setIfInBounds_toArray, List.set_cons_zero, List.set_cons_succ]
    refine any_pure 28 (v := ?_) rfl (by kernel_rfl) (by intro _ _ _ h; exact h) (by assumption) (by rfl) (fun W hW => ?_) ?_
    rotate_left
    · first | (go_simp; done) | (go_simp; with_reducible rfl)
    try simp only [Act.put, List.setIfInBounds_toArray, List.set_cons_zero, List.set_cons_succ]
    refine any_pure 29 (v := ?_) rfl (by kernel_rfl) (by intro _ _ _ h; exact h) (by assumption) (by rfl) (fun W hW => ?_) ?_
    rotate_left
    · first | (go_simp; done) | (go_simp; with_reducible rfl)
    try simp only [Act.put, List.setIfInBounds_toArray, List.set_cons_zero, List.set_cons_succ]
    refine any_done (by kernel_rfl) ?_
    go_wp2
    go_ret
    exact ⟨rfl, hb6⟩
  · go_enter Try.func4, Try.ntmps4
    go_wp2_with fail
    refine (awake_any w).mono ?_
    rintro e w1 ⟨rfl, hb⟩
    go_wp2
    go_ret
    exact ⟨rfl, hb⟩
end Go.Proofs.Ytomncdnkiommfaa
