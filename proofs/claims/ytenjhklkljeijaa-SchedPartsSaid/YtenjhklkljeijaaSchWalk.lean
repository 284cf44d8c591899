/-
  The walks of First, Ready, Over, Step and can of chapter 27. Conditions: few tasks, small numbers.
-/
import Derived.Test.YtenjhklkljeijaaSchPlain
namespace Go.Proofs.Ytenjhklkljeijaa
open Go.RowKit Go.Fw
set_option maxHeartbeats 1000000
set_option maxRecDepth 4000
set_option linter.unusedVariables false
set_option linter.unusedSimpArgs false

theorem first_any (pick n : Int) (w : World) (hp : In64 pick) (hn : In64 n) :
    Calls Try.prog 16 #[.int .i64 pick, .int .i64 n] w fun e w' => e = .returned (.int .i64 (firstN pick n)) ∧ w = w' := by
  obtain ⟨hp0, hp1⟩ := hp
  obtain ⟨hn0, hn1⟩ := hn
  by_cases h1 : n < 1
  · have HF : Hid (firstN pick n = -1) := by show _ = _; unfold firstN; rw [if_pos h1]
    go_enter Try.func16, Try.ntmps16
    go_wp2
    go_ret
    exact ⟨ret_i HF.out.symm, rfl⟩
  · have HF : Hid (firstN pick n = pick % n) := by show _ = _; unfold firstN; rw [if_neg h1]
    have hm0 : 0 ≤ pick % n := Int.emod_nonneg _ (by omega)
    have hm1 : pick % n < n := Int.emod_lt_of_pos _ (by omega)
    have hnz : (n == 0) = false := by simp; omega
    by_cases h2 : 0 ≤ pick
    · have ht : pick.tmod n = pick % n := Int.tmod_eq_emod_of_nonneg h2
      have hlt : ¬ pick.tmod n < 0 := by rw [ht]; omega
      have hlt2 : ¬ pick % n < 0 := by omega
      have HT := Lib.hid ht
      clear ht
      go_enter Try.func16, Try.ntmps16
      go_wp2
      go_ret
      exact ⟨ret_i HF.out.symm, rfl⟩
    · have ht := Int.tmod_eq_emod (a := pick) (b := n)
      by_cases hd : n ∣ pick
      · rw [if_pos (.inr hd), Int.emod_eq_zero_of_dvd hd] at ht
        have HZ : Hid ((0 : Int) = firstN pick n) := by show _ = _; rw [HF.out, Int.emod_eq_zero_of_dvd hd]
        have ht0 : pick.tmod n = 0 := by rw [ht]; rfl
        clear ht hm0 hm1 hd
        go_enter Try.func16, Try.ntmps16
        go_wp2
        go_ret
        exact ⟨ret_i HZ.out, rfl⟩
      · have hna : ((n.natAbs : Nat) : Int) = n := by omega
        rw [if_neg (by intro h; rcases h with h | h; exact h2 h; exact hd h), hna] at ht
        have hlt : pick.tmod n < 0 := by omega
        have hge : -n ≤ pick.tmod n := by omega
        have HT : Hid (pick.tmod n + n = firstN pick n) := by show _ = _; rw [HF.out]; omega
        clear ht hm0 hm1 hd
        go_enter Try.func16, Try.ntmps16
        go_wp2
        go_ret
        exact ⟨ret_i HT.out, rfl⟩

theorem rfirst_any (pick n : Int) (w : World) (hp : In64 pick) (hn : In64 n) :
    Calls Try.prog 17 #[.int .i64 pick, .int .i64 n] w fun e w' => e = .returned (.int .i64 (firstN pick n)) ∧ w = w' := by
  obtain ⟨hp0, hp1⟩ := hp
  obtain ⟨hn0, hn1⟩ := hn
  by_cases h1 : n < 1
  · have HF : Hid (firstN pick n = -1) := by show _ = _; unfold firstN; rw [if_pos h1]
    go_enter Try.func17, Try.ntmps17
    go_wp2
    go_ret
    exact ⟨ret_i HF.out.symm, rfl⟩
  · have HF : Hid (firstN pick n = pick % n) := by show _ = _; unfold firstN; rw [if_neg h1]
    have hm0 : 0 ≤ pick % n := Int.emod_nonneg _ (by omega)
    have hm1 : pick % n < n := Int.emod_lt_of_pos _ (by omega)
    have hnz : (n == 0) = false := by simp; omega
    by_cases h2 : 0 ≤ pick
    · have ht : pick.tmod n = pick % n := Int.tmod_eq_emod_of_nonneg h2
      have hlt : ¬ pick.tmod n < 0 := by rw [ht]; omega
      have hlt2 : ¬ pick % n < 0 := by omega
      have HT := Lib.hid ht
      clear ht
      go_enter Try.func17, Try.ntmps17
      go_wp2
      go_ret
      exact ⟨ret_i HF.out.symm, rfl⟩
    · have ht := Int.tmod_eq_emod (a := pick) (b := n)
      by_cases hd : n ∣ pick
      · rw [if_pos (.inr hd), Int.emod_eq_zero_of_dvd hd] at ht
        have HZ : Hid ((0 : Int) = firstN pick n) := by show _ = _; rw [HF.out, Int.emod_eq_zero_of_dvd hd]
        have ht0 : pick.tmod n = 0 := by rw [ht]; rfl
        clear ht hm0 hm1 hd
        go_enter Try.func17, Try.ntmps17
        go_wp2
        go_ret
        exact ⟨ret_i HZ.out, rfl⟩
      · have hna : ((n.natAbs : Nat) : Int) = n := by omega
        rw [if_neg (by intro h; rcases h with h | h; exact h2 h; exact hd h), hna] at ht
        have hlt : pick.tmod n < 0 := by omega
        have hge : -n ≤ pick.tmod n := by omega
        have HT : Hid (pick.tmod n + n = firstN pick n) := by show _ = _; rw [HF.out]; omega
        clear ht hm0 hm1 hd
        go_enter Try.func17, Try.ntmps17
        go_wp2
        go_ret
        exact ⟨ret_i HT.out, rfl⟩

theorem rready_any (t : Toy) (u : Int) (w : World) (hok : t.ok) (hf : t.few) (hu : 0 ≤ u ∧ u ≤ 100000) :
    Calls Try.prog 22 #[.agg #[.int .i64 t.left, .int .i64 t.gap, .int .i64 t.phase], .int .i64 u] w fun e w' => e = .returned (.bool (readyT t u)) ∧ Below w.heap.size w w' := by
  obtain ⟨l, g, p⟩ := t
  obtain ⟨hl, hg, hp⟩ := hok
  obtain ⟨f1, f2, f3⟩ := hf
  obtain ⟨u0, u1⟩ := hu
  obtain ⟨g0, g1⟩ := hg
  simp only at *
  have hb := sub_alloc (Below.refl w.heap.size w) (.cells #[.int .i64 l, .int .i64 g, .int .i64 p] 49)
  by_cases h1 : l < 1
  · have HF : Hid (readyT ⟨l, g, p⟩ u = false) := by show _ = _; unfold readyT; rw [if_pos h1]
    go_enter Try.func22, Try.ntmps22
    go_wp2
    go_ret
    exact ⟨ret_b HF.out.symm, hb⟩
  · by_cases h2 : g < 2
    · have HF : Hid (readyT ⟨l, g, p⟩ u = true) := by show _ = _; unfold readyT; rw [if_neg h1]; simp [h2]
      go_enter Try.func22, Try.ntmps22
      go_wp2
      go_ret
      exact ⟨ret_b HF.out.symm, hb⟩
    · have HF : Hid (readyT ⟨l, g, p⟩ u = ((u + p) % g != 0)) := by show _ = _; unfold readyT; rw [if_neg h1]; simp [h2]
      have hgz : (g == 0) = false := by simp; omega
      go_enter Try.func22, Try.ntmps22
      go_wp2
      go_ret
      exact ⟨ret_b (by rw [HF.out]), hb⟩

theorem over_any (p cb : Nat) (t : Toy) (w : World) (h : Blk w p 54 (toyC t cb)) :
    Calls Try.prog 39 #[.pointer (some ⟨p, 0, none⟩)] w fun e w' => e = .returned (.bool (decide (t.left < 1))) ∧ w = w' := by
  have c0 := h.cell 0
  simp [toyC] at c0
  go_enter Try.func39, Try.ntmps39
  go_wp2
  go_ret
  exact ⟨rfl, rfl⟩

theorem ready_any (p cb : Nat) (t : Toy) (u : Int) (w : World) (h : Blk w p 54 (toyC t cb)) (hc : Blk w cb 51 #[.int .i64 u]) (hok : t.ok) (hf : t.few) (hu : 0 ≤ u ∧ u ≤ 100000) :
    Calls Try.prog 40 #[.pointer (some ⟨p, 0, none⟩)] w fun e w' => e = .returned (.bool (readyT t u)) ∧ Below w.heap.size w w' := by
  have c0 := h.cell 0
  have c1 := h.cell 1
  have c2 := h.cell 2
  have c3 := h.cell 3
  have d0 := hc.cell 0
  simp [toyC] at c0 c1 c2 c3 d0
  have lp := h.lt
  have lc := hc.lt
  go_enter Try.func40, Try.ntmps40
  go_wp2
  have hS := (Below.refl w.heap.size w).drew
  refine any_start (S := fun W => Below w.heap.size w W) (by kernel_rfl) hS ?_
  simp only [List.length_cons, List.length_nil, Nat.reduceAdd, List.size_toArray]
  refine any_pure 0 (v := ?_) rfl (by kernel_rfl) (by intro _ _ _ h; exact h) (by assumption) (by rfl) (fun W hW => ?_) ?_
  rotate_left
  · first | (go_simp; done) | (go_simp; with_reducible rfl)
  try simp only [Act.put, List.setIfInBounds_toArray, List.set_cons_zero, List.set_cons_succ]
  refine any_pure 1 (v := ?_) rfl (by kernel_rfl) (by intro _ _ _ h; exact h) (by assumption) (by rfl) (fun W hW => ?_) ?_
  rotate_left
  · first | (go_simp; done) | (go_simp; with_reducible rfl)
  try simp only [Act.put, List.setIfInBounds_toArray, List.set_cons_zero, List.set_cons_succ]
  refine any_pure 2 (v := ?_) rfl (by kernel_rfl) (by intro _ _ _ h; exact h) (by assumption) (by rfl) (fun W hW => ?_) ?_
  rotate_left
  · first | (go_simp; done) | (go_simp; with_reducible rfl)
  try simp only [Act.put, List.setIfInBounds_toArray, List.set_cons_zero, List.set_cons_succ]
  refine any_pure 3 (v := ?_) rfl (by kernel_rfl) (by intro _ _ _ h; exact h) (by assumption) (by rfl) (fun W hW => ?_) ?_
  rotate_left
  · have e0 := (Below.cell hW (p := ⟨p, 0, none⟩) lp).trans c0; have e1 := (Below.cell hW (p := ⟨p, 1, none⟩) lp).trans c1; have e2 := (Below.cell hW (p := ⟨p, 2, none⟩) lp).trans c2; first | (go_simp; done) | (go_simp; with_reducible rfl)
  try simp only [Act.put, List.setIfInBounds_toArray, List.set_cons_zero, List.set_cons_succ]
  refine any_pure 4 (v := ?_) rfl (by kernel_rfl) (by intro _ _ _ h; exact h) (by assumption) (by rfl) (fun W hW => ?_) ?_
  rotate_left
  · first | (go_simp; done) | (go_simp; with_reducible rfl)
  try simp only [Act.put, List.setIfInBounds_toArray, List.set_cons_zero, List.set_cons_succ]
  refine any_pure 5 (v := ?_) rfl (by kernel_rfl) (by intro _ _ _ h; exact h) (by assumption) (by rfl) (fun W hW => ?_) ?_
  rotate_left
  · first | (go_simp; done) | (go_simp; with_reducible rfl)
  try simp only [Act.put, List.setIfInBounds_toArray, List.set_cons_zero, List.set_cons_succ]
  refine any_pure 6 (v := ?_) rfl (by kernel_rfl) (by intro _ _ _ h; exact h) (by assumption) (by rfl) (fun W hW => ?_) ?_
  rotate_left
  · first | (go_simp; done) | (go_simp; with_reducible rfl)
  try simp only [Act.put, List.setIfInBounds_toArray, List.set_cons_zero, List.set_cons_succ]
  refine any_pure 7 (v := ?_) rfl (by kernel_rfl) (by intro _ _ _ h; exact h) (by assumption) (by rfl) (fun W hW => ?_) ?_
  rotate_left
  · have e3 := (Below.cell hW (p := ⟨p, 3, none⟩) lp).trans c3; first | (go_simp; done) | (go_simp; with_reducible rfl)
  try simp only [Act.put, List.setIfInBounds_toArray, List.set_cons_zero, List.set_cons_succ]
  refine any_pure 8 (v := ?_) rfl (by kernel_rfl) (by intro _ _ _ h; exact h) (by assumption) (by rfl) (fun W hW => ?_) ?_
  rotate_left
  · first | (go_simp; done) | (go_simp; with_reducible rfl)
  try simp only [Act.put, List.setIfInBounds_toArray, List.set_cons_zero, List.set_cons_succ]
  refine any_pure 9 (v := ?_) rfl (by kernel_rfl) (by intro _ _ _ h; exact h) (by assumption) (by rfl) (fun W hW => ?_) ?_
  rotate_left
  · first | (go_simp; done) | (go_simp; with_reducible rfl)
  try simp only [Act.put, List.setIfInBounds_toArray, List.set_cons_zero, List.set_cons_succ]
  refine any_pure 10 (v := ?_) rfl (by kernel_rfl) (by intro _ _ _ h; exact h) (by assumption) (by rfl) (fun W hW => ?_) ?_
  rotate_left
  · have e0 := (Below.cell hW (p := ⟨cb, 0, none⟩) lc).trans d0; first | (go_simp; done) | (go_simp; with_reducible rfl)
  try simp only [Act.put, List.setIfInBounds_toArray, List.set_cons_zero, List.set_cons_succ]
  refine any_one 11 (by kernel_rfl) rfl (by rfl) (fun K hK => ?_)
  go_simp
  refine (rready_any t u _ hok hf hu).mono ?_
  rintro e1 w1 ⟨rfl, hb1⟩
  refine hK _ _ (sub_trans hS hb1) ?_
  have hS1 := sub_trans hS hb1
  clear hK
  try simp only [Act.put, List.setIfInBounds_toArray, List.set_cons_zero, List.set_cons_succ]
  refine any_pure 12 (v := ?_) rfl (by kernel_rfl) (by intro _ _ _ h; exact h) (by assumption) (by rfl) (fun W hW => ?_) ?_
  rotate_left
  · first | (go_simp; done) | (go_simp; with_reducible rfl)
  try simp only [Act.put, List.setIfInBounds_toArray, List.set_cons_zero, List.set_cons_succ]
  refine any_done (by kernel_rfl) ?_
  go_wp2
  go_ret
  exact ⟨rfl, hS1⟩

theorem step_any (p cb : Nat) (t : Toy) (u : Int) (w : World) (h : Blk w p 54 (toyC t cb)) (hc : Blk w cb 51 #[.int .i64 u]) (hpc : p ≠ cb) (hl : 1 ≤ t.left ∧ t.left ≤ 1000) (hu : 0 ≤ u ∧ u ≤ 100000) :
    Calls Try.prog 41 #[.pointer (some ⟨p, 0, none⟩)] w fun e w' => e = .returned (.tuple #[]) ∧ (w.setCell ⟨p, 0, none⟩ (.int .i64 (t.left - 1))).setCell ⟨cb, 0, none⟩ (.int .i64 (u + 1)) = w' := by
  have c0 := h.cell 0
  have c3 := h.cell 3
  have d0 := hc.cell 0
  have f0 := h.frozen 0
  have f1 := hc.frozen 0
  simp [toyC] at c0 c3 d0
  obtain ⟨hl0, hl1⟩ := hl
  obtain ⟨hu0, hu1⟩ := hu
  generalize t.left = x at *
  go_enter Try.func41, Try.ntmps41
  go_wp2
  go_end0
  exact ⟨rfl, rfl⟩
end Go.Proofs.Ytenjhklkljeijaa
