/-
  ZigReads, its walk: what is read is put as the same bytes; the first number that can't be read is told. Condition: none.
-/
import Derived.Test.YtomncdnkiommfaaZigPuts
namespace Go.Proofs.Ytomncdnkiommfaa
open Go.RowKit Go.Fw
set_option maxHeartbeats 400000
set_option maxRecDepth 4000
set_option linter.unusedVariables false
set_option linter.unusedSimpArgs false

set_option maxHeartbeats 4000000 in
theorem zigReads_walk (l : List UInt8) (A : Option Addr) (c : Nat) (n : Int) (w : World) (hr : Reads w w.heap.size 1 A l.length (bys l)) (hlc : l.length ≤ maxLen ∧ l.length ≤ c)
    (hn : 0 ≤ n ∧ n < 18446744073709551616) :
    Calls Try.prog 5 #[.slice A l.length c, .int .u64 n] w fun e w' => e = .returned (.bool true) ∧ Below w.heap.size w w' := by
  obtain ⟨hl, hcc⟩ := hlc
  obtain ⟨h0, h1⟩ := hn
  unfold maxLen at hl
  by_cases h : l.length ≤ 300
  · rcases hg : readL l with ⟨res, e⟩
    have hrd := readF_get l.length l [] res e (Nat.le_refl _) hg
    have hres : res.length ≤ 300 := by rcases hrd with ⟨_, _, _, h4⟩ | ⟨rfl, _⟩ <;> simp at * <;> omega
    have hsm : Small res := by
      rcases hrd with ⟨_, _, h3, _⟩ | ⟨rfl, _⟩
      · exact small_of fun x hx => by rcases h3 x hx with h | h; simp at h; exact h
      · exact small_of (by simp)
    have HG := Lib.hid hg
    have HD := Lib.hid hrd
    have hz := zag_bd n h0 h1
    have HZ := Lib.hid (zig_zag n h0)
    obtain ⟨hz0, hz1⟩ := hz
    have he : e = 0 ∨ e = 1 ∨ e = 2 := by rcases hrd with ⟨h, _⟩ | ⟨_, h⟩ <;> omega
    clear hg hrd
    go_enter Try.func5, Try.ntmps5
    go_wp2_with fail
    refine (awake_any w).mono ?_
    rintro e1 w1 ⟨rfl, hb⟩
    have hr1 := hr.up hb
    go_wp2_with fail
    refine (all_any l _ _ _ hr1 (by omega) hcc).mono ?_
    rintro e2 w2 ⟨v2, rfl, hm2⟩
    rw [HG.out] at hm2 ⊢
    obtain ⟨A2, c2, rfl, _, _, hq2⟩ := hm2.form
    have hr2 := hr1.up hm2.below
    have hb2 := sub_trans hb hm2.below
    go_wp2_with fail
    refine (read_any l _ _ _ hr2 (by omega) hcc).mono ?_
    rintro e3 w3 ⟨v3, rfl, hm3⟩
    rw [HG.out] at hm3 ⊢
    obtain ⟨A3, c3, rfl, _, _, hq3⟩ := hm3.form
    have hr3 := hr2.up hm3.below
    have hb3 := sub_trans hb2 hm3.below
    have hq2' := hq2.up hm3.below
    clear hm2 hm3 hq2 hr2 hr1 hr hb hb2
    go_wp2_with fail
    refine (same_any res res _ _ _ _ _ _ w3.heap.size _ hq2' hq3 (by rw [i64s_length]; omega) (by rw [i64s_length]; omega) hsm hsm).mono ?_
    rintro e4 w4 ⟨rfl, hb4⟩
    have hb5 := sub_trans hb3 hb4
    have hq4 := hq2'.up hb4
    have hq5 := hq3.up hb4
    go_wp2_with (go_at_call 11; refine (code_any _ _ he).mono ?_; rintro e5 w5 ⟨rfl, rfl⟩)
    have hr5 := hr3.up hb4
    have hb6 := hb5.drew
    have hq6 := hq4.drew
    have hr6 := hr5.drew
    have hS := (Below.refl w4.heap.size w4).drew
    clear hb3 hb4 hr3 hq2' hq3 hq5
    by_cases h0e : e = 0
    · have h3 : (perr e != 0) = false := by rw [h0e]; decide
      have hput : putL res = l := by
        rcases HD.out with ⟨_, h2, _⟩ | ⟨_, h2⟩
        · simpa [putL] using h2
        · omega
      have HP := Lib.hid hput
      clear hput h0e he
      refine any_start (S := fun W => Below w4.heap.size w4 W) (by kernel_rfl) hS ?_
      simp only [List.length_cons, List.length_nil, Nat.reduceAdd, List.size_toArray]
      refine any_pure 0 (v := ?_) rfl (by kernel_rfl) (by intro _ _ _ h; exact h) (by assumption) (by rfl) (fun W hW => ?_) ?_
      rotate_left
      · first | (go_simp; done) | (go_simp; with_reducible rfl)
      try simp only [Act.put, List.setIfInBounds_toArray, List.set_cons_zero, List.set_cons_succ]
      refine any_pure 1 (v := ?_) rfl (by kernel_rfl) (by intro _ _ _ h; exact h) (by assumption) (by rfl) (fun W hW => ?_) ?_
      rotate_left
      · first | (go_simp; done) | (go_simp; with_reducible rfl)
      try simp only [Act.put, List.setIfInBounds_toArray, List.set_cons_zero, List.set_cons_succ]
      refine any_pure 2 (v := ?_) rfl (by kernel_rfl) (by intro _ _ _ h; exact h) (by assumption) (by rfl) (fun W hW => ?_) ?_
      rotate_left
      · first | (go_simp; done) | (go_simp; with_reducible rfl)
      try simp only [Act.put, List.setIfInBounds_toArray, List.set_cons_zero, List.set_cons_succ]
      refine any_pure 3 (v := ?_) rfl (by kernel_rfl) (by intro _ _ _ h; exact h) (by assumption) (by rfl) (fun W hW => ?_) ?_
      rotate_left
      · first | (go_simp; done) | (go_simp; with_reducible rfl)
      try simp only [Act.put, List.setIfInBounds_toArray, List.set_cons_zero, List.set_cons_succ]
      refine any_pure 6 (v := ?_) rfl (by kernel_rfl) (by intro _ _ _ h; exact h) (by assumption) (by rfl) (fun W hW => ?_) ?_
      rotate_left
      · first | (go_simp; done) | (go_simp; with_reducible rfl)
      try simp only [Act.put, List.setIfInBounds_toArray, List.set_cons_zero, List.set_cons_succ]
      refine any_pure 7 (v := ?_) rfl (by kernel_rfl) (by intro _ _ _ h; exact h) (by assumption) (by rfl) (fun W hW => ?_) ?_
      rotate_left
      · have hc := run_str_reads (P := Try.prog) 22 9 5 c Try.underlying22 Try.underlying5 Try.underlying9 (hr5.up hW); first | (go_simp; done) | (go_simp; with_reducible rfl)
      try simp only [Act.put, List.setIfInBounds_toArray, List.set_cons_zero, List.set_cons_succ]
      refine any_one 4 (by kernel_rfl) rfl (by rfl) (fun K hK => ?_)
      go_simp
      refine (put_at res _ (by rw [i64s_length]; omega) hsm _ _ _ hq6).mono ?_
      rintro e6 w6 ⟨v6, rfl, hm6⟩
      rw [HP.out] at hm6
      obtain ⟨A6, c6, rfl, _, _, hq7⟩ := hm6.form
      have hb7 := sub_trans hb6 hm6.below
      have hr7 := hr6.up hm6.below
      refine hK _ _ (sub_trans hS hm6.below) (any_narrow (S' := fun W => Below w6.heap.size w6 W) (fun _ h => sub_trans (sub_trans hS hm6.below) h) _ _ _ _ ?_)
      have hS6 := Below.refl w6.heap.size w6
      clear hK hm6 hS hb6 hq6 hr6 hb5
      try simp only [Act.put, List.setIfInBounds_toArray, List.set_cons_zero, List.set_cons_succ]
      refine any_pure 5 (v := ?_) rfl (by kernel_rfl) (by intro _ _ _ h; exact h) (by assumption) (by rfl) (fun W hW => ?_) ?_
      rotate_left
      · have hc := run_str_reads (P := Try.prog) 22 9 5 c6 Try.underlying22 Try.underlying5 Try.underlying9 (hq7.up hW); first | (go_simp; done) | (go_simp; with_reducible rfl)
      try simp only [Act.put, List.setIfInBounds_toArray, List.set_cons_zero, List.set_cons_succ]
      refine any_pure 8 (v := ?_) rfl (by kernel_rfl) (by intro _ _ _ h; exact h) (by assumption) (by rfl) (fun W hW => ?_) ?_
      rotate_left
      · first | (go_simp; done) | (go_simp; with_reducible rfl)
      try simp only [Act.put, List.setIfInBounds_toArray, List.set_cons_zero, List.set_cons_succ]
      refine any_pure 9 (v := ?_) rfl (by kernel_rfl) (by intro _ _ _ h; exact h) (by assumption) (by rfl) (fun W hW => ?_) ?_
      rotate_left
      · first | (go_simp; done) | (go_simp; with_reducible rfl)
      try simp only [Act.put, List.setIfInBounds_toArray, List.set_cons_zero, List.set_cons_succ]
      refine any_pure 10 (v := ?_) rfl (by kernel_rfl) (by intro _ _ _ h; exact h) (by assumption) (by rfl) (fun W hW => ?_) ?_
      rotate_left
      · first | (go_simp; done) | (go_simp; with_reducible rfl)
      try simp only [Act.put, List.setIfInBounds_toArray, List.set_cons_zero, List.set_cons_succ]
      refine any_pure 11 (v := ?_) rfl (by kernel_rfl) (by intro _ _ _ h; exact h) (by assumption) (by rfl) (fun W hW => ?_) ?_
      rotate_left
      · first | (go_simp; done) | (go_simp; with_reducible rfl)
      try simp only [Act.put, List.setIfInBounds_toArray, List.set_cons_zero, List.set_cons_succ]
      refine any_pure 14 (v := ?_) rfl (by kernel_rfl) (by intro _ _ _ h; exact h) (by assumption) (by rfl) (fun W hW => ?_) ?_
      rotate_left
      · first | (go_simp; done) | (go_simp; with_reducible rfl)
      try simp only [Act.put, List.setIfInBounds_toArray, List.set_cons_zero, List.set_cons_succ]
      refine any_one 12 (by kernel_rfl) rfl (by rfl) (fun K hK => ?_)
      go_simp
      refine (zag_any _ _ h0 h1).mono ?_
      rintro e6 w6 ⟨rfl, rfl⟩
      refine hK _ _ (by assumption) ?_
      clear hK
      try simp only [Act.put, List.setIfInBounds_toArray, List.set_cons_zero, List.set_cons_succ]
      refine any_one 13 (by kernel_rfl) rfl (by rfl) (fun K hK => ?_)
      go_simp
      refine (zig_any _ _ hz0 hz1).mono ?_
      rintro e6 w6 ⟨rfl, rfl⟩
      rw [HZ.out]
      refine hK _ _ (by assumption) ?_
      clear hK
      try simp only [Act.put, List.setIfInBounds_toArray, List.set_cons_zero, List.set_cons_succ]
      refine any_pure 15 (v := ?_) rfl (by kernel_rfl) (by intro _ _ _ h; exact h) (by assumption) (by rfl) (fun W hW => ?_) ?_
      rotate_left
      · first | (go_simp; done) | (go_simp; with_reducible rfl)
      try simp only [Act.put, List.setIfInBounds_toArray, List.set_cons_zero, List.set_cons_succ]
      refine any_pure 16 (v := ?_) rfl (by kernel_rfl) (by intro _ _ _ h; exact h) (by assumption) (by rfl) (fun W hW => ?_) ?_
      rotate_left
      · first | (go_simp; done) | (go_simp; with_reducible rfl)
      try simp only [Act.put, List.setIfInBounds_toArray, List.set_cons_zero, List.set_cons_succ]
      refine any_pure 17 (v := ?_) rfl (by kernel_rfl) (by intro _ _ _ h; exact h) (by assumption) (by rfl) (fun W hW => ?_) ?_
      rotate_left
      · first | (go_simp; done) | (go_simp; with_reducible rfl)
      try simp only [Act.put, List.setIfInBounds_toArray, List.set_cons_zero, List.set_cons_succ]
      refine any_pure 18 (v := ?_) rfl (by kernel_rfl) (by intro _ _ _ h; exact h) (by assumption) (by rfl) (fun W hW => ?_) ?_
      rotate_left
      · first | (go_simp; done) | (go_simp; with_reducible rfl)
      try simp only [Act.put, List.setIfInBounds_toArray, List.set_cons_zero, List.set_cons_succ]
      refine any_pure 20 (v := ?_) rfl (by kernel_rfl) (by intro _ _ _ h; exact h) (by assumption) (by rfl) (fun W hW => ?_) ?_
      rotate_left
      · first | (go_simp; done) | (go_simp; with_reducible rfl)
      try simp only [Act.put, List.setIfInBounds_toArray, List.set_cons_zero, List.set_cons_succ]
      refine any_one 19 (by kernel_rfl) rfl (by rfl) (fun K hK => ?_)
      go_simp
      refine (zag_any _ _ h0 h1).mono ?_
      rintro e6 w6 ⟨rfl, rfl⟩
      refine hK _ _ (by assumption) ?_
      clear hK
      try simp only [Act.put, List.setIfInBounds_toArray, List.set_cons_zero, List.set_cons_succ]
      refine any_one 21 (by kernel_rfl) rfl (by rfl) (fun K hK => ?_)
      go_simp
      refine (rzag_any _ _ h0 h1).mono ?_
      rintro e6 w6 ⟨rfl, rfl⟩
      refine hK _ _ (by assumption) ?_
      clear hK
      try simp only [Act.put, List.setIfInBounds_toArray, List.set_cons_zero, List.set_cons_succ]
      refine any_pure 22 (v := ?_) rfl (by kernel_rfl) (by intro _ _ _ h; exact h) (by assumption) (by rfl) (fun W hW => ?_) ?_
      rotate_left
      · first | (go_simp; done) | (go_simp; with_reducible rfl)
      try simp only [Act.put, List.setIfInBounds_toArray, List.set_cons_zero, List.set_cons_succ]
      refine any_pure 23 (v := ?_) rfl (by kernel_rfl) (by intro _ _ _ h; exact h) (by assumption) (by rfl) (fun W hW => ?_) ?_
      rotate_left
      · first | (go_simp; done) | (go_simp; with_reducible rfl)
      try simp only [Act.put, List.setIfInBounds_toArray, List.set_cons_zero, List.set_cons_succ]
      refine any_pure 24 (v := ?_) rfl (by kernel_rfl) (by intro _ _ _ h; exact h) (by assumption) (by rfl) (fun W hW => ?_) ?_
      rotate_left
      · first | (go_simp; done) | (go_simp; with_reducible rfl)
      try simp only [Act.put, List.setIfInBounds_toArray, List.set_cons_zero, List.set_cons_succ]
      refine any_done (by kernel_rfl) ?_
      go_wp2
      go_ret
      exact ⟨rfl, hb7⟩
    · have h3 : (perr e != 0) = true := by rcases he with rfl | rfl | rfl <;> first | (exfalso; exact h0e rfl) | decide
      clear h0e he
      refine any_start (S := fun W => Below w4.heap.size w4 W) (by kernel_rfl) hS ?_
      simp only [List.length_cons, List.length_nil, Nat.reduceAdd, List.size_toArray]
      refine any_pure 0 (v := ?_) rfl (by kernel_rfl) (by intro _ _ _ h; exact h) (by assumption) (by rfl) (fun W hW => ?_) ?_
      rotate_left
      · first | (go_simp; done) | (go_simp; with_reducible rfl)
      try simp only [Act.put, List.setIfInBounds_toArray, List.set_cons_zero, List.set_cons_succ]
      refine any_pure 1 (v := ?_) rfl (by kernel_rfl) (by intro _ _ _ h; exact h) (by assumption) (by rfl) (fun W hW => ?_) ?_
      rotate_left
      · first | (go_simp; done) | (go_simp; with_reducible rfl)
      try simp only [Act.put, List.setIfInBounds_toArray, List.set_cons_zero, List.set_cons_succ]
      refine any_pure 2 (v := ?_) rfl (by kernel_rfl) (by intro _ _ _ h; exact h) (by assumption) (by rfl) (fun W hW => ?_) ?_
      rotate_left
      · first | (go_simp; done) | (go_simp; with_reducible rfl)
      try simp only [Act.put, List.setIfInBounds_toArray, List.set_cons_zero, List.set_cons_succ]
      refine any_skip 3 rfl (by kernel_rfl) (by intro _ _ _ h; exact h) (by assumption) (by rfl) ?_
      try simp only [Act.put, List.setIfInBounds_toArray, List.set_cons_zero, List.set_cons_succ]
      refine any_skip 4 rfl (by kernel_rfl) (by intro _ _ _ h; exact h) (by assumption) (by rfl) ?_
      try simp only [Act.put, List.setIfInBounds_toArray, List.set_cons_zero, List.set_cons_succ]
      refine any_skip 5 rfl (by kernel_rfl) (by intro _ _ _ h; exact h) (by assumption) (by rfl) ?_
      try simp only [Act.put, List.setIfInBounds_toArray, List.set_cons_zero, List.set_cons_succ]
      refine any_skip 6 rfl (by kernel_rfl) (by intro _ _ _ h; exact h) (by assumption) (by rfl) ?_
      try simp only [Act.put, List.setIfInBounds_toArray, List.set_cons_zero, List.set_cons_succ]
      refine any_skip 7 rfl (by kernel_rfl) (by intro _ _ _ h; exact h) (by assumption) (by rfl) ?_
      try simp only [Act.put, List.setIfInBounds_toArray, List.set_cons_zero, List.set_cons_succ]
      refine any_skip 8 rfl (by kernel_rfl) (by intro _ _ _ h; exact h) (by assumption) (by rfl) ?_
      try simp only [Act.put, List.setIfInBounds_toArray, List.set_cons_zero, List.set_cons_succ]
      refine any_pure 9 (v := ?_) rfl (by kernel_rfl) (by intro _ _ _ h; exact h) (by assumption) (by rfl) (fun W hW => ?_) ?_
      rotate_left
      · first | (go_simp; done) | (go_simp; with_reducible rfl)
      try simp only [Act.put, List.setIfInBounds_toArray, List.set_cons_zero, List.set_cons_succ]
      refine any_pure 10 (v := ?_) rfl (by kernel_rfl) (by intro _ _ _ h; exact h) (by assumption) (by rfl) (fun W hW => ?_) ?_
      rotate_left
      · first | (go_simp; done) | (go_simp; with_reducible rfl)
      try simp only [Act.put, List.setIfInBounds_toArray, List.set_cons_zero, List.set_cons_succ]
      refine any_pure 11 (v := ?_) rfl (by kernel_rfl) (by intro _ _ _ h; exact h) (by assumption) (by rfl) (fun W hW => ?_) ?_
      rotate_left
      · first | (go_simp; done) | (go_simp; with_reducible rfl)
      try simp only [Act.put, List.setIfInBounds_toArray, List.set_cons_zero, List.set_cons_succ]
      refine any_pure 14 (v := ?_) rfl (by kernel_rfl) (by intro _ _ _ h; exact h) (by assumption) (by rfl) (fun W hW => ?_) ?_
      rotate_left
      · first | (go_simp; done) | (go_simp; with_reducible rfl)
      try simp only [Act.put, List.setIfInBounds_toArray, List.set_cons_zero, List.set_cons_succ]
      refine any_one 12 (by kernel_rfl) rfl (by rfl) (fun K hK => ?_)
      go_simp
      refine (zag_any _ _ h0 h1).mono ?_
      rintro e6 w6 ⟨rfl, rfl⟩
      refine hK _ _ (by assumption) ?_
      clear hK
      try simp only [Act.put, List.setIfInBounds_toArray, List.set_cons_zero, List.set_cons_succ]
      refine any_one 13 (by kernel_rfl) rfl (by rfl) (fun K hK => ?_)
      go_simp
      refine (zig_any _ _ hz0 hz1).mono ?_
      rintro e6 w6 ⟨rfl, rfl⟩
      rw [HZ.out]
      refine hK _ _ (by assumption) ?_
      clear hK
      try simp only [Act.put, List.setIfInBounds_toArray, List.set_cons_zero, List.set_cons_succ]
      refine any_pure 15 (v := ?_) rfl (by kernel_rfl) (by intro _ _ _ h; exact h) (by assumption) (by rfl) (fun W hW => ?_) ?_
      rotate_left
      · first | (go_simp; done) | (go_simp; with_reducible rfl)
      try simp only [Act.put, List.setIfInBounds_toArray, List.set_cons_zero, List.set_cons_succ]
      refine any_pure 16 (v := ?_) rfl (by kernel_rfl) (by intro _ _ _ h; exact h) (by assumption) (by rfl) (fun W hW => ?_) ?_
      rotate_left
      · first | (go_simp; done) | (go_simp; with_reducible rfl)
      try simp only [Act.put, List.setIfInBounds_toArray, List.set_cons_zero, List.set_cons_succ]
      refine any_pure 17 (v := ?_) rfl (by kernel_rfl) (by intro _ _ _ h; exact h) (by assumption) (by rfl) (fun W hW => ?_) ?_
      rotate_left
      · first | (go_simp; done) | (go_simp; with_reducible rfl)
      try simp only [Act.put, List.setIfInBounds_toArray, List.set_cons_zero, List.set_cons_succ]
      refine any_pure 18 (v := ?_) rfl (by kernel_rfl) (by intro _ _ _ h; exact h) (by assumption) (by rfl) (fun W hW => ?_) ?_
      rotate_left
      · first | (go_simp; done) | (go_simp; with_reducible rfl)
      try simp only [Act.put, List.setIfInBounds_toArray, List.set_cons_zero, List.set_cons_succ]
      refine any_pure 20 (v := ?_) rfl (by kernel_rfl) (by intro _ _ _ h; exact h) (by assumption) (by rfl) (fun W hW => ?_) ?_
      rotate_left
      · first | (go_simp; done) | (go_simp; with_reducible rfl)
      try simp only [Act.put, List.setIfInBounds_toArray, List.set_cons_zero, List.set_cons_succ]
      refine any_one 19 (by kernel_rfl) rfl (by rfl) (fun K hK => ?_)
      go_simp
      refine (zag_any _ _ h0 h1).mono ?_
      rintro e6 w6 ⟨rfl, rfl⟩
      refine hK _ _ (by assumption) ?_
      clear hK
      try simp only [Act.put, List.setIfInBounds_toArray, List.set_cons_zero, List.set_cons_succ]
      refine any_one 21 (by kernel_rfl) rfl (by rfl) (fun K hK => ?_)
      go_simp
      refine (rzag_any _ _ h0 h1).mono ?_
      rintro e6 w6 ⟨rfl, rfl⟩
      refine hK _ _ (by assumption) ?_
      clear hK
      try simp only [Act.put, List.setIfInBounds_toArray, List.set_cons_zero, List.set_cons_succ]
      refine any_pure 22 (v := ?_) rfl (by kernel_rfl) (by intro _ _ _ h; exact h) (by assumption) (by rfl) (fun W hW => ?_) ?_
      rotate_left
      · first | (go_simp; done) | (go_simp; with_reducible rfl)
      try simp only [Act.put, List.setIfInBounds_toArray, List.set_cons_zero, List.set_cons_succ]
      refine any_pure 23 (v := ?_) rfl (by kernel_rfl) (by intro _ _ _ h; exact h) (by assumption) (by rfl) (fun W hW => ?_) ?_
      rotate_left
      · first | (go_simp; done) | (go_simp; with_reducible rfl)
      try simp only [Act.put, List.setIfInBounds_toArray, List.set_cons_zero, List.set_cons_succ]
      refine any_pure 24 (v := ?_) rfl (by kernel_rfl) (by intro _ _ _ h; exact h) (by assumption) (by rfl) (fun W hW => ?_) ?_
      rotate_left
      · first | (go_simp; done) | (go_simp; with_reducible rfl)
      try simp only [Act.put, List.setIfInBounds_toArray, List.set_cons_zero, List.set_cons_succ]
      refine any_done (by kernel_rfl) ?_
      go_wp2
      go_ret
      exact ⟨rfl, hb6⟩
  · go_enter Try.func5, Try.ntmps5
    go_wp2_with fail
    refine (awake_any w).mono ?_
    rintro e w1 ⟨rfl, hb⟩
    go_wp2
    go_ret
    exact ⟨rfl, hb⟩
end Go.Proofs.Ytomncdnkiommfaa
