/-
  'told' of chapter 25, walked. Conditions: short lists.
-/
import Derived.Test.YtlkappmielllcaaRwRefD
namespace Go.Proofs.Ytlkappmielllcaa
open Go.RowKit Go.Fw
set_option maxHeartbeats 1000000
set_option maxRecDepth 4000
set_option linter.unusedVariables false
set_option linter.unusedSimpArgs false
theorem told_any (p B : Nat) (sl a b c d : Value) (l : Lk) (x : Rf) (w : World) (h : LockAt w p B 27 [] sl l) (hr : RelL l x) (hx : RfAt w a b c d x) (hn : x.tot ≤ 900) :
    Calls Try.prog 17 #[.pointer (some ⟨p, 0, none⟩), .agg #[a, b, c, d]] w fun e w' => e = .returned (.bool true) ∧ Below w.heap.size w w' := by
  obtain ⟨A0, p0, rfl, _, _, _⟩ := hx.rd.form
  obtain ⟨A1, p1, rfl, _, _, _⟩ := hx.wr.form
  obtain ⟨A2, p2, rfl, _, _, _⟩ := hx.ln.form
  obtain ⟨A3, p3, rfl, _, _, _⟩ := hx.wt.form
  have hb := sub_alloc (Below.refl _ w) (.cells #[.slice A0 x.rd.length p0, .slice A1 x.wr.length p1, .slice A2 x.line.length p2, .slice A3 x.line.length p3] 42)
  have k0 := Blk.new_at w 42 #[.slice A0 x.rd.length p0, .slice A1 x.wr.length p1, .slice A2 x.line.length p2, .slice A3 x.line.length p3] (g := w.heap.size) rfl
  have HX := Lib.hid (And.intro (h.up hb) (And.intro (hx.up hb) (And.intro k0 hb)))
  have HN := Lib.hid hn
  clear h hx k0 hb hn
  go_enter Try.func17, Try.ntmps17
  go_wp2
  generalize hw1 : w.alloc (.cells #[.slice A0 x.rd.length p0, .slice A1 x.wr.length p1, .slice A2 x.line.length p2, .slice A3 x.line.length p3] 42) = w1 at *
  have hsz1 : w.heap.size < w1.heap.size := by rw [← hw1]; simp
  clear hw1
  go_loopw [5] (fun i wr => ∃ j : Nat, j ≤ 34 ∧ i = .int .i64 ((j : Int) - 1) ∧ Below w1.heap.size w1 wr) (fun i _ => 34 - (intOf i + 1).toNat)
  case atStart => exact ⟨0, by omega, rfl, Below.refl _ _⟩
  case round =>
    obtain ⟨j, hj, rfl, hbw⟩ := hrel
    have k1 := HX.out.2.2.1.later hbw
    have c0 := k1.cell 0
    have c1 := k1.cell 1
    have c2 := k1.cell 2
    have c3 := k1.cell 3
    simp at c0 c1 c2 c3
    have HW := Lib.hid hbw
    clear k1 hbw
    by_cases hlt : j < 34
    · have hhe := held_any _ _ _ _ _ _ ((j : Int) - 1) wr.drew ((HX.out.1.up HW.out).up (sub_drewN (Below.refl _ _) 1)) hr.ok (by omega)
      rw [hr.held] at hhe
      have hrh := rheld_any _ _ _ _ x ((j : Int) - 1) wr.drew (HX.out.2.1.up HW.out).drew (Rf.tot_short (Nat.le_trans HN.out (by decide)))
      generalize heldR x ((j : Int) - 1) = hv at *
      have HH := Lib.hid hhe
      have HR := Lib.hid hrh
      clear hhe hrh
      go_wp2
      refine still_start 5 (by kernel_rfl) (by kernel_rfl) ?_
      simp only [List.take_succ_cons, List.take_zero, List.drop_succ_cons, List.drop_zero]
      repeat still_step
      still_call (HH.out.mono fun e w1 h => ⟨h.1, h.2.symm⟩)
      repeat still_step
      refine wpStill_nil ?_
      go_wp2_with fail
      refine HR.out.mono ?_
      rintro e w6 ⟨rfl, hb6⟩
      have HB6 := Lib.hid (sub_trans HW.out (drew_below hb6))
      clear hb6
      go_wp2
      go_roundw
      case rel => exact ⟨j + 1, by omega, by congr 1; push_cast; omega, HB6.out⟩
      case measure => simp [intOf]; omega
    · have hj34 : j = 34 := by omega
      subst hj34
      have lg : w.heap.size < wr.heap.size := Nat.lt_of_lt_of_le hsz1 HW.out.size
      have hf := free_any _ _ _ _ _ _ wr.drew ((HX.out.1.up HW.out).up (sub_drewN (Below.refl _ _) 1)) hr.ok
      rw [RelL.free hr] at hf
      obtain ⟨fb, hfb⟩ : ∃ fb, decide (x.rd.length + x.wr.length = 0) = fb := ⟨_, rfl⟩
      have hq : (((x.rd.length : Int) + (x.wr.length : Int)) == 0) = fb := by
        rw [← hfb, Bool.eq_iff_iff]
        simp only [beq_iff_eq, decide_eq_true_eq]
        omega
      rw [hfb] at hf
      have HF := Lib.hid hf
      have hll : x.rd.length + x.wr.length + x.line.length ≤ 900 := HN.out
      have hr2 : x.rd.length ≤ 900 := by omega
      have hw2 : x.wr.length ≤ 900 := by omega
      have hl2 : x.line.length ≤ 900 := by omega
      clear hf hfb
      go_wp2
      have hS0 : Below wr.heap.size wr wr.drew := sub_drewN (Below.refl _ _) 1
      refine any_start (S := fun W => Below wr.heap.size wr W) (by kernel_rfl) hS0 ?_
      simp only [List.length_cons, List.length_nil, Nat.reduceAdd, List.size_toArray]
      refine any_pure 0 (v := ?_) rfl (by kernel_rfl) (by intro _ _ _ h; exact h) (by assumption) (by rfl) (fun W hW => ?_) ?_
      rotate_left
      · first | (go_simp; done) | (go_simp; with_reducible rfl)
      try simp only [Act.put, List.setIfInBounds_toArray, List.set_cons_zero, List.set_cons_succ]
      refine any_pure 2 (v := ?_) rfl (by kernel_rfl) (by intro _ _ _ h; exact h) (by assumption) (by rfl) (fun W hW => ?_) ?_
      rotate_left
      · first | (go_simp; done) | (go_simp; with_reducible rfl)
      try simp only [Act.put, List.setIfInBounds_toArray, List.set_cons_zero, List.set_cons_succ]
      refine any_pure 3 (v := ?_) rfl (by kernel_rfl) (by intro _ _ _ h; exact h) (by assumption) (by rfl) (fun W hW => ?_) ?_
      rotate_left
      · have e0 := (Below.cell hW (p := ⟨w.heap.size, 0, none⟩) lg).trans c0; first | (go_simp; done) | (go_simp; with_reducible rfl)
      try simp only [Act.put, List.setIfInBounds_toArray, List.set_cons_zero, List.set_cons_succ]
      refine any_pure 4 (v := ?_) rfl (by kernel_rfl) (by intro _ _ _ h; exact h) (by assumption) (by rfl) (fun W hW => ?_) ?_
      rotate_left
      · first | (go_simp; done) | (go_simp; with_reducible rfl)
      try simp only [Act.put, List.setIfInBounds_toArray, List.set_cons_zero, List.set_cons_succ]
      refine any_pure 5 (v := ?_) rfl (by kernel_rfl) (by intro _ _ _ h; exact h) (by assumption) (by rfl) (fun W hW => ?_) ?_
      rotate_left
      · first | (go_simp; done) | (go_simp; with_reducible rfl)
      try simp only [Act.put, List.setIfInBounds_toArray, List.set_cons_zero, List.set_cons_succ]
      refine any_pure 6 (v := ?_) rfl (by kernel_rfl) (by intro _ _ _ h; exact h) (by assumption) (by rfl) (fun W hW => ?_) ?_
      rotate_left
      · have e0 := (Below.cell hW (p := ⟨w.heap.size, 1, none⟩) lg).trans c1; first | (go_simp; done) | (go_simp; with_reducible rfl)
      try simp only [Act.put, List.setIfInBounds_toArray, List.set_cons_zero, List.set_cons_succ]
      refine any_pure 7 (v := ?_) rfl (by kernel_rfl) (by intro _ _ _ h; exact h) (by assumption) (by rfl) (fun W hW => ?_) ?_
      rotate_left
      · first | (go_simp; done) | (go_simp; with_reducible rfl)
      try simp only [Act.put, List.setIfInBounds_toArray, List.set_cons_zero, List.set_cons_succ]
      refine any_pure 8 (v := ?_) rfl (by kernel_rfl) (by intro _ _ _ h; exact h) (by assumption) (by rfl) (fun W hW => ?_) ?_
      rotate_left
      · first | (go_simp; done) | (go_simp; with_reducible rfl)
      try simp only [Act.put, List.setIfInBounds_toArray, List.set_cons_zero, List.set_cons_succ]
      refine any_pure 9 (v := ?_) rfl (by kernel_rfl) (by intro _ _ _ h; exact h) (by assumption) (by rfl) (fun W hW => ?_) ?_
      rotate_left
      · first | (go_simp; done) | (go_simp; with_reducible rfl)
      try simp only [Act.put, List.setIfInBounds_toArray, List.set_cons_zero, List.set_cons_succ]
      refine any_one 1 (by kernel_rfl) rfl (by rfl) (fun K hK => ?_)
      go_simp
      refine HF.out.mono ?_
      rintro e1 w3 ⟨rfl, m, rfl⟩
      refine hK _ _ (sub_drewN hS0 m) ?_
      have hS3 := sub_drewN hS0 m
      clear hK
      have hwr : IntKind.i64.wrap ((x.rd.length : Int) + (x.wr.length : Int)) = (x.rd.length : Int) + (x.wr.length : Int) := by rw [IntKind.wrap_i64]; omega
      simp only [hwr, hq]
      try simp only [Act.put, List.setIfInBounds_toArray, List.set_cons_zero, List.set_cons_succ]
      refine any_pure 10 (v := ?_) rfl (by kernel_rfl) (by intro _ _ _ h; exact h) (by assumption) (by rfl) (fun W hW => ?_) ?_
      rotate_left
      · first | (go_simp; done) | (go_simp; with_reducible rfl)
      try simp only [Act.put, List.setIfInBounds_toArray, List.set_cons_zero, List.set_cons_succ]
      refine any_pure 11 (v := ?_) rfl (by kernel_rfl) (by intro _ _ _ h; exact h) (by assumption) (by rfl) (fun W hW => ?_) ?_
      rotate_left
      · first | (go_simp; done) | (go_simp; with_reducible rfl)
      try simp only [Act.put, List.setIfInBounds_toArray, List.set_cons_zero, List.set_cons_succ]
      refine any_pure 12 (v := ?_) rfl (by kernel_rfl) (by intro _ _ _ h; exact h) (by assumption) (by rfl) (fun W hW => ?_) ?_
      rotate_left
      · first | (go_simp; done) | (go_simp; with_reducible rfl)
      try simp only [Act.put, List.setIfInBounds_toArray, List.set_cons_zero, List.set_cons_succ]
      refine any_pure 14 (v := ?_) rfl (by kernel_rfl) (by intro _ _ _ h; exact h) (by assumption) (by rfl) (fun W hW => ?_) ?_
      rotate_left
      · first | (go_simp; done) | (go_simp; with_reducible rfl)
      try simp only [Act.put, List.setIfInBounds_toArray, List.set_cons_zero, List.set_cons_succ]
      refine any_pure 15 (v := ?_) rfl (by kernel_rfl) (by intro _ _ _ h; exact h) (by assumption) (by rfl) (fun W hW => ?_) ?_
      rotate_left
      · have e0 := (Below.cell hW (p := ⟨w.heap.size, 2, none⟩) lg).trans c2; first | (go_simp; done) | (go_simp; with_reducible rfl)
      try simp only [Act.put, List.setIfInBounds_toArray, List.set_cons_zero, List.set_cons_succ]
      refine any_one 13 (by kernel_rfl) rfl (by rfl) (fun K hK => ?_)
      go_simp
      have hS3b : Below wr.heap.size wr (wr.drewN (1 + m)) := sub_drewN (Below.refl _ _) _
      refine (waiting_any _ _ _ _ _ _ _ (HX.out.1.up (sub_trans HW.out hS3b)) (by rw [hr.line]; omega)).mono ?_
      rintro e1 w4 ⟨v4, rfl, hm4⟩
      obtain ⟨A4, q4, rfl, _, _, hr4⟩ := hm4.form
      have hS4 := sub_trans hS3b hm4.below
      refine hK _ _ hS4 ?_
      clear hK
      try simp only [Act.put, List.setIfInBounds_toArray, List.set_cons_zero, List.set_cons_succ]
      refine any_one 16 (by kernel_rfl) rfl (by rfl) (fun K hK => ?_)
      go_simp
      have hln4 := (HX.out.2.1.up (sub_trans HW.out hS4)).ln
      obtain ⟨A2', p2', e2, _, _, hr5⟩ := hln4.form
      injection e2 with e21 _ e22
      subst e21 e22
      have etl : tasksL l.line = tsk x.line := by rw [hr.line]; rfl
      rw [etl] at hr4
      have hsmall : Small (tsk x.line) := small_of fun u hu => by
        obtain ⟨y, hy, rfl⟩ := List.mem_map.1 hu
        have := hr.rng y hy
        omega
      refine (same7_any (tsk x.line) (tsk x.line) _ _ _ _ _ _ _ _ hr4 hr5 (by rw [hr.line]; omega) (by omega) hsmall hsmall).mono ?_
      rintro e1 w5 ⟨rfl, hb5⟩
      rw [show decide (tsk x.line = tsk x.line) = true by simp]
      refine hK _ _ (sub_trans hS4 hb5) ?_
      have hS5 := sub_trans hS4 hb5
      clear hK
      try simp only [Act.put, List.setIfInBounds_toArray, List.set_cons_zero, List.set_cons_succ]
      refine any_pure 17 (v := ?_) rfl (by kernel_rfl) (by intro _ _ _ h; exact h) (by assumption) (by rfl) (fun W hW => ?_) ?_
      rotate_left
      · first | (go_simp; done) | (go_simp; with_reducible rfl)
      try simp only [Act.put, List.setIfInBounds_toArray, List.set_cons_zero, List.set_cons_succ]
      refine any_pure 18 (v := ?_) rfl (by kernel_rfl) (by intro _ _ _ h; exact h) (by assumption) (by rfl) (fun W hW => ?_) ?_
      rotate_left
      · first | (go_simp; done) | (go_simp; with_reducible rfl)
      try simp only [Act.put, List.setIfInBounds_toArray, List.set_cons_zero, List.set_cons_succ]
      refine any_done (by kernel_rfl) ?_
      go_wp2
      go_ret
      exact ⟨rfl, HX.out.2.2.2.trans ((sub_trans HW.out hS5).mono HX.out.2.2.2.size)⟩
end Go.Proofs.Ytlkappmielllcaa
