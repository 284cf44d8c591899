/-
  The walk of HistoryTells, whatever the input. Condition: none.
-/
import Derived.Test.YtgmgddccdfmiiaaHisT
import Derived.ChangeKeysEq
namespace Go.Proofs.Ytgmgddccdfmiiaa
open Go.RowKit Go.Fw
set_option maxHeartbeats 4000000
set_option maxRecDepth 100000
set_option linter.unusedVariables false
set_option linter.unusedSimpArgs false
theorem arr_eql (y0 y1 y2 y3 y4 y5 y6 : Int) (w : World) : (binOp .eql 57 (.agg #[.int .i64 y0, .int .i64 y1, .int .i64 y2, .int .i64 y3, .int .i64 y4, .int .i64 y5, .int .i64 y6]) (.agg #[.int .i64 y0, .int .i64 y1, .int .i64 y2, .int .i64 y3, .int .i64 y4, .int .i64 y5, .int .i64 y6])).run Try.prog w = .ok (.bool true) w := by
  obtain ⟨i, hi⟩ := info_of_underlying Try.underlying3
  have hC : Try.prog.cellsOf 3 = 1 := by kernel_rfl
  simp only [binOp, Op.equal, Op.maxDepth, Sem.run_bind]
  rw [run_equalIn_array w 9999 _ _ Try.underlying57 hi, hC]
  simp [Op.eqItems, List.range, List.range.loop, go_sem, Try.underlying3]
theorem tells_rel {w wr : World} {k j nq : Nat} {l : List Adv} {ys : List Int} {v x : Int} {T : TypeId} {o : Obj} (h : Below w.heap.size w wr ∧ Blk wr w.heap.size T (iarr ys)) (hy : reas l k = ys) (hs : reas l (k + 1) = bump (reas l k) x) (hj : why1 x = j) (hv : v = ys.getD j 0 + 1) :
    Below w.heap.size w (((wr.alloc o).drewN nq).setCell ⟨w.heap.size, j, none⟩ (.int .i64 v)) ∧ Blk (((wr.alloc o).drewN nq).setCell ⟨w.heap.size, j, none⟩ (.int .i64 v)) w.heap.size T (iarr (reas l (k + 1))) := by
  obtain ⟨h1, h3⟩ := h
  refine ⟨(sub_drewN (sub_alloc h1 o) nq).setCell (Nat.le_refl _) _, ?_⟩
  have h4 := ((h3.alloc o).drewN nq).set_ j (.int .i64 v)
  have e : (iarr ys).setIfInBounds j (.int .i64 v) = iarr (reas l (k + 1)) := by
    rw [hs, hy, hv]
    unfold bump
    rw [hj]
    simp [iarr, i64s, List.map_set]
  rw [e] at h4
  exact h4
theorem htells_long (tick hold : Int) (l : List Adv) (A : Option Addr) (c : Nat) (W : World) (hl : 100 < l.length) (hm : l.length ≤ maxLen) :
    Calls Try.prog 8 #[.slice A l.length c, .int .i64 tick, .int .i64 hold] W fun e w' => e = .returned (.bool true) ∧ Below W.heap.size W w' := by
  unfold maxLen at hm
  go_enter Try.func8, Try.ntmps8
  go_wp2_with fail
  refine (hawake_any _).mono ?_
  rintro e w1 ⟨rfl, b1⟩
  go_wp2
  go_ret
  exact ⟨rfl, b1⟩
theorem htells_few (tick hold : Int) (l : List Adv) (A : Option Addr) (c : Nat) (W0 : World) (hR : Reads W0 W0.heap.size 5 A l.length (advs l)) (hl : l.length ≤ 100) (ht : In64 tick) (hh : In64 hold) (hall : ∀ (k : Nat) (h : k < l.length), In64 l[k].tick ∧ In64 l[k].want) :
    Calls Try.prog 8 #[.slice A l.length c, .int .i64 tick, .int .i64 hold] W0 fun e w' => e = .returned (.bool true) ∧ Below W0.heap.size W0 w' := by
  go_enter Try.func8, Try.ntmps8
  go_wp2_with fail
  refine (hawake_any _).mono ?_
  rintro e w1 ⟨rfl, b1⟩
  have hR1 := hR.up b1
  have hlen : ¬ 100 < l.length := by omega
  clear hR
  go_wp2_with fail
  refine (highest_any l A c _ tick hold _ hR1 (by omega) ht hh hall).mono ?_
  rintro e w2 ⟨rfl, b2⟩
  have b12 := sub_trans b1 b2
  have hR2 := hR1.up b2
  clear b1 b2 hR1
  go_wp2_with fail
  refine (rhighest_any l A c _ tick hold _ hR2 (by omega) ht hh hall).mono ?_
  rintro e w3 ⟨rfl, rfl⟩
  have HALL := Lib.hid hall
  clear hall
  generalize (highest l tick hold).1 = hi1
  generalize (highest l tick hold).2 = hi2
  have b3 := Blk.new_at w2 57 (iarr [0, 0, 0, 0, 0, 0, 0]) rfl
  have hb0 := sub_alloc (Below.refl w2.heap.size w2) (.cells (iarr [0, 0, 0, 0, 0, 0, 0]) 57)
  have ez : iarr [0, 0, 0, 0, 0, 0, 0] = #[.int .i64 0, .int .i64 0, .int .i64 0, .int .i64 0, .int .i64 0, .int .i64 0, .int .i64 0] := rfl
  rw [ez] at hb0 b3
  clear ez
  go_wp2
  go_loopw [11, 36] (fun ch i wr => ∃ (k : Nat), k ≤ l.length ∧ i = .int .i64 k ∧ ch = .int .i64 (chg l k : Int) ∧ Hid (Below w2.heap.size w2 wr ∧ Blk wr w2.heap.size 57 (iarr (reas l k)))) (fun _ i _ => l.length - (intOf i).toNat)
  case atStart => exact ⟨0, Nat.zero_le _, rfl, rfl, Lib.hid ⟨hb0, b3⟩⟩
  case round =>
    obtain ⟨k, hk, rfl, rfl, HH⟩ := hrel
    clear hb0 b3
    by_cases hlt : k < l.length
    · obtain ⟨hb, b3⟩ := HH.out
      have hbd := reas_bd l k
      obtain ⟨y0, y1, y2, y3, y4, y5, y6, hy⟩ := seven (reas_len l k)
      have hy0 := hbd 0
      have hy1 := hbd 1
      have hy2 := hbd 2
      have hy3 := hbd 3
      have hy4 := hbd 4
      have hy5 := hbd 5
      have hy6 := hbd 6
      rw [hy] at hy0 hy1 hy2 hy3 hy4 hy5 hy6 b3
      simp at hy0 hy1 hy2 hy3 hy4 hy5 hy6
      have HB := Lib.hid (And.intro hb b3)
      have HY := Lib.hid hy
      have hcl := chg_le l k
      clear hy hbd HH
      obtain ⟨b, o, rfl, hbw, p0, p1, p2, p3, p4⟩ := adv_at (hR2.below hb) hlt
      have hrs : reas l (k + 1) = bump (reas l k) l[k].why := by
        show bump (reas l k) (l.getD k _).why = _
        simp [List.getD_eq_getElem?_getD, hlt]
      have hcs : chg l (k + 1) = chg l k + (if chgB l k then 1 else 0) := rfl
      have hcb : chgB l k = (decide (0 < k) && l[k].reps != (l.getD (k - 1) ⟨0, 0, 0, 0, 0⟩).reps) := by
        unfold chgB
        simp [List.getD_eq_getElem?_getD, hlt]
      have hprev : 0 < k → ∃ z : Adv, l.getD (k - 1) ⟨0, 0, 0, 0, 0⟩ = z ∧ wr.cell? ⟨b, o + (k - 1) * 5 + 3, none⟩ = some (.int .i64 z.reps) := by
        intro h0
        obtain ⟨b2, o2, e2, _, r0, r1, r2, r3, r4⟩ := adv_at (hR2.below hb) (show k - 1 < l.length by omega)
        injection e2 with e2
        injection e2 with e2 e3 _
        subst e2 e3
        exact ⟨_, by simp [List.getD_eq_getElem?_getD, show k - 1 < l.length by omega], r3⟩
      have HS := Lib.hid hrs
      have hbx := sub_alloc (Below.refl wr.heap.size wr) (.cells (Adv.arr l[k]) 53)
      have bx := Blk.new_at wr 53 (Adv.arr l[k]) rfl
      have b33 := b3.alloc (.cells (Adv.arr l[k]) 53)
      have hbl : b < wr.heap.size := Nat.lt_of_lt_of_le hbw hb.size
      have HPREV := Lib.hid hprev
      have HCS := Lib.hid (And.intro hcs hcb)
      clear hrs hcs hcb hprev hb b3
      generalize l[k] = x at *
      obtain ⟨x1, x2, x3, x4, x5⟩ := x
      obtain ⟨g0, g1, g2, g3, g4⟩ := bx.five
      obtain ⟨s0, s1, s2, s3, s4, s5, s6⟩ := Blk.seven b33
      have f0 := b33.frozen 0
      have f1 := b33.frozen 1
      have f2 := b33.frozen 2
      have f3 := b33.frozen 3
      have f4 := b33.frozen 4
      have f5 := b33.frozen 5
      have f6 := b33.frozen 6
      have HBX := Lib.hid hbx
      have HR2 := Lib.hid hR2
      unfold Adv.arr at *
      simp only at g0 g1 g2 g3 g4 p0 p1 p2 p3 p4 s0 s1 s2 s3 s4 s5 s6
      clear bx b33 hbx hR2
      have hlen : (k : Int) < (l.length : Int) := by omega
      by_cases h0 : 0 < k
      · obtain ⟨z, hz, r3⟩ := HPREV.out h0
        have r33 := (Below.cell HBX.out (p := ⟨b, o + (k - 1) * 5 + 3, none⟩) hbl).trans r3
        obtain ⟨j, hj⟩ : ∃ j, k - 1 = j := ⟨_, rfl⟩
        rw [hj] at r3 r33
        obtain ⟨_, _, _, z4, _⟩ := z
        simp only at r3 r33
        have hw : IntKind.i64.wrap ((k : Int) - 1) = (j : Int) := by rw [IntWalk.i64_in _ ⟨by omega, by omega⟩]; omega
        have hlen2 : (j : Int) < (l.length : Int) := by omega
        have hk0 : 0 < (k : Int) := by omega
        have HZ := Lib.hid (And.intro hz hj)
        clear hz hj
        by_cases hxy : x4 = z4
        · have h2 : (x4 != z4) = false := by simp [hxy]
          have HD : Hid (chg l (k + 1) = chg l k) := by
            have h := HCS.out
            rw [HZ.out.1] at h
            rw [h.1, h.2]
            exact Lib.hid (by simp [hxy])
          clear hxy
          rcases why_cases x5 with rfl | rfl | rfl | rfl | rfl | rfl | hc | hc
          all_goals
            go_wp2
            go_quiet (fail)
            go_wp2
            go_roundw
            case rel => exact ⟨k + 1, by omega, by go_num, by rw [HD.out], Lib.hid (tells_rel HB.out HY.out HS.out (by first | rfl | (simp [why1]; omega)) (by rfl))⟩
            case measure => simp [intOf]; omega
        · have h2 : (x4 != z4) = true := by simp [hxy]
          have HD : Hid (chg l (k + 1) = chg l k + 1) := by
            have h := HCS.out
            rw [HZ.out.1] at h
            rw [h.1, h.2]
            exact Lib.hid (by simp [hxy, h0])
          clear hxy
          rcases why_cases x5 with rfl | rfl | rfl | rfl | rfl | rfl | hc | hc
          all_goals
            go_wp2
            go_quiet (fail)
            go_wp2
            go_roundw
            case rel => exact ⟨k + 1, by omega, by go_num, by rw [HD.out]; go_num, Lib.hid (tells_rel HB.out HY.out HS.out (by first | rfl | (simp [why1]; omega)) (by rfl))⟩
            case measure => simp [intOf]; omega
      · have hk0 : ¬ 0 < (k : Int) := by omega
        have hk1 : decide (0 < (k : Int)) = false := by simp; omega
        have HD : Hid (chg l (k + 1) = chg l k) := by
          have h := HCS.out
          rw [h.1, h.2]
          exact Lib.hid (by simp [h0])
        rcases why_cases x5 with rfl | rfl | rfl | rfl | rfl | rfl | hc | hc
        all_goals
          go_wp2
          go_quiet (fail)
          go_wp2
          go_roundw
          case rel => exact ⟨k + 1, by omega, by go_num, by rw [HD.out], Lib.hid (tells_rel HB.out HY.out HS.out (by first | rfl | (simp [why1]; omega)) (by rfl))⟩
          case measure => simp [intOf]; omega
    · obtain rfl : k = l.length := by omega
      obtain ⟨y0, y1, y2, y3, y4, y5, y6, hy⟩ := seven (reas_len l l.length)
      obtain ⟨hb, b3⟩ := HH.out
      rw [hy] at b3
      obtain ⟨q0, q1, q2, q3, q4, q5, q6⟩ := Blk.seven b3
      have hgl := b3.lt
      have hq : Value.agg (iarr (reas l l.length)) = .agg #[.int .i64 y0, .int .i64 y1, .int .i64 y2, .int .i64 y3, .int .i64 y4, .int .i64 y5, .int .i64 y6] := by rw [hy]; rfl
      have HQ := Lib.hid (And.intro hq (And.intro hb (And.intro hR2 b12)))
      have hae := arr_eql y0 y1 y2 y3 y4 y5 y6
      have HAE := Lib.hid hae
      clear hq hb hR2 b12 hy HH b3 hae
      go_upto_region 18 with fail
      have hS0 : Below wr.heap.size wr wr.drew := (Below.refl _ _).drew
      refine any_start (S := fun W => Below wr.heap.size wr W) (by kernel_rfl) hS0 ?_
      simp only [List.length_cons, List.length_nil, Nat.reduceAdd, List.size_toArray]
      refine any_pure 0 (v := ?_) rfl (by kernel_rfl) (by intro _ _ _ h; exact h) (by assumption) (by rfl) (fun W hW => ?_) ?_
      rotate_left
      · first | (go_simp; done) | (go_simp; with_reducible rfl)
      try simp only [Act.put, List.setIfInBounds_toArray, List.set_cons_zero, List.set_cons_succ]
      refine any_pure 1 (v := ?_) rfl (by kernel_rfl) (by intro _ _ _ h; exact h) (by assumption) (by rfl) (fun W hW => ?_) ?_
      rotate_left
      · first | (go_simp; done) | (go_simp; with_reducible rfl)
      try simp only [Act.put, List.setIfInBounds_toArray, List.set_cons_zero, List.set_cons_succ]
      refine any_pure 2 (v := ?_) rfl (by kernel_rfl) (by intro _ _ _ h; exact h) (by assumption) (by rfl) (fun W hW => ?_) ?_
      rotate_left
      · first | (go_simp; done) | (go_simp; with_reducible rfl)
      try simp only [Act.put, List.setIfInBounds_toArray, List.set_cons_zero, List.set_cons_succ]
      refine any_pure 3 (v := ?_) rfl (by kernel_rfl) (by intro _ _ _ h; exact h) (by assumption) (by rfl) (fun W hW => ?_) ?_
      rotate_left
      · first | (go_simp; done) | (go_simp; with_reducible rfl)
      try simp only [Act.put, List.setIfInBounds_toArray, List.set_cons_zero, List.set_cons_succ]
      refine any_pure 4 (v := ?_) rfl (by kernel_rfl) (by intro _ _ _ h; exact h) (by assumption) (by rfl) (fun W hW => ?_) ?_
      rotate_left
      · first | (go_simp; done) | (go_simp; with_reducible rfl)
      try simp only [Act.put, List.setIfInBounds_toArray, List.set_cons_zero, List.set_cons_succ]
      refine any_pure 5 (v := ?_) rfl (by kernel_rfl) (by intro _ _ _ h; exact h) (by assumption) (by rfl) (fun W hW => ?_) ?_
      rotate_left
      · first | (go_simp; done) | (go_simp; with_reducible rfl)
      try simp only [Act.put, List.setIfInBounds_toArray, List.set_cons_zero, List.set_cons_succ]
      refine any_pure 6 (v := ?_) rfl (by kernel_rfl) (by intro _ _ _ h; exact h) (by assumption) (by rfl) (fun W hW => ?_) ?_
      rotate_left
      · first | (go_simp; done) | (go_simp; with_reducible rfl)
      try simp only [Act.put, List.setIfInBounds_toArray, List.set_cons_zero, List.set_cons_succ]
      refine any_pure 7 (v := ?_) rfl (by kernel_rfl) (by intro _ _ _ h; exact h) (by assumption) (by rfl) (fun W hW => ?_) ?_
      rotate_left
      · first | (go_simp; done) | (go_simp; with_reducible rfl)
      try simp only [Act.put, List.setIfInBounds_toArray, List.set_cons_zero, List.set_cons_succ]
      refine any_pure 8 (v := ?_) rfl (by kernel_rfl) (by intro _ _ _ h; exact h) (by assumption) (by rfl) (fun W hW => ?_) ?_
      rotate_left
      · first | (go_simp; done) | (go_simp; with_reducible rfl)
      try simp only [Act.put, List.setIfInBounds_toArray, List.set_cons_zero, List.set_cons_succ]
      refine any_pure 9 (v := ?_) rfl (by kernel_rfl) (by intro _ _ _ h; exact h) (by assumption) (by rfl) (fun W hW => ?_) ?_
      rotate_left
      · first | (go_simp; done) | (go_simp; with_reducible rfl)
      try simp only [Act.put, List.setIfInBounds_toArray, List.set_cons_zero, List.set_cons_succ]
      refine any_pure 11 (v := ?_) rfl (by kernel_rfl) (by intro _ _ _ h; exact h) (by assumption) (by rfl) (fun W hW => ?_) ?_
      rotate_left
      · first | (go_simp; done) | (go_simp; with_reducible rfl)
      try simp only [Act.put, List.setIfInBounds_toArray, List.set_cons_zero, List.set_cons_succ]
      refine any_one 10 (by kernel_rfl) rfl (by rfl) (fun K hK => ?_)
      go_simp
      refine (changes_any l A c _ _ ((HQ.out.2.2.1.up HQ.out.2.1).up hS0) (by omega)).mono ?_
      rintro e4 w4 ⟨rfl, b4⟩
      have hS4 := sub_trans hS0 b4
      refine hK _ _ hS4 ?_
      clear hK b4
      try simp only [Act.put, List.setIfInBounds_toArray, List.set_cons_zero, List.set_cons_succ]
      refine any_pure 12 (v := ?_) rfl (by kernel_rfl) (by intro _ _ _ h; exact h) (by assumption) (by rfl) (fun W hW => ?_) ?_
      rotate_left
      · first | (go_simp; done) | (go_simp; with_reducible rfl)
      try simp only [Act.put, List.setIfInBounds_toArray, List.set_cons_zero, List.set_cons_succ]
      refine any_pure 13 (v := ?_) rfl (by kernel_rfl) (by intro _ _ _ h; exact h) (by assumption) (by rfl) (fun W hW => ?_) ?_
      rotate_left
      · first | (go_simp; done) | (go_simp; with_reducible rfl)
      try simp only [Act.put, List.setIfInBounds_toArray, List.set_cons_zero, List.set_cons_succ]
      refine any_pure 14 (v := ?_) rfl (by kernel_rfl) (by intro _ _ _ h; exact h) (by assumption) (by rfl) (fun W hW => ?_) ?_
      rotate_left
      · first | (go_simp; done) | (go_simp; with_reducible rfl)
      try simp only [Act.put, List.setIfInBounds_toArray, List.set_cons_zero, List.set_cons_succ]
      refine any_pure 15 (v := ?_) rfl (by kernel_rfl) (by intro _ _ _ h; exact h) (by assumption) (by rfl) (fun W hW => ?_) ?_
      rotate_left
      · first | (go_simp; done) | (go_simp; with_reducible rfl)
      try simp only [Act.put, List.setIfInBounds_toArray, List.set_cons_zero, List.set_cons_succ]
      refine any_pure 17 (v := ?_) rfl (by kernel_rfl) (by intro _ _ _ h; exact h) (by assumption) (by rfl) (fun W hW => ?_) ?_
      rotate_left
      · have e0 := (Below.cell hW (p := ⟨w2.heap.size, 0, none⟩) hgl).trans q0; have e1 := (Below.cell hW (p := ⟨w2.heap.size, 1, none⟩) hgl).trans q1; have e2 := (Below.cell hW (p := ⟨w2.heap.size, 2, none⟩) hgl).trans q2; have e3 := (Below.cell hW (p := ⟨w2.heap.size, 3, none⟩) hgl).trans q3; have e4 := (Below.cell hW (p := ⟨w2.heap.size, 4, none⟩) hgl).trans q4; have e5 := (Below.cell hW (p := ⟨w2.heap.size, 5, none⟩) hgl).trans q5; have e6 := (Below.cell hW (p := ⟨w2.heap.size, 6, none⟩) hgl).trans q6; first | (go_simp; done) | (go_simp; with_reducible rfl)
      try simp only [Act.put, List.setIfInBounds_toArray, List.set_cons_zero, List.set_cons_succ]
      refine any_one 16 (by kernel_rfl) rfl (by rfl) (fun K hK => ?_)
      go_simp
      refine (reasons_any l A c _ _ ((HQ.out.2.2.1.up HQ.out.2.1).up hS4) (by omega)).mono ?_
      rintro e5 w5 ⟨rfl, b5⟩
      rw [HQ.out.1]
      have hS5 := sub_trans hS4 b5
      refine hK _ _ hS5 ?_
      clear hK b5
      try simp only [Act.put, List.setIfInBounds_toArray, List.set_cons_zero, List.set_cons_succ]
      refine any_pure 18 (v := ?_) rfl (by kernel_rfl) (by intro _ _ _ h; exact h) (by assumption) (by rfl) (fun W hW => ?_) ?_
      rotate_left
      · have hae := HAE.out; first | (go_simp; done) | (go_simp; with_reducible rfl)
      try simp only [Act.put, List.setIfInBounds_toArray, List.set_cons_zero, List.set_cons_succ]
      refine any_pure 19 (v := ?_) rfl (by kernel_rfl) (by intro _ _ _ h; exact h) (by assumption) (by rfl) (fun W hW => ?_) ?_
      rotate_left
      · first | (go_simp; done) | (go_simp; with_reducible rfl)
      try simp only [Act.put, List.setIfInBounds_toArray, List.set_cons_zero, List.set_cons_succ]
      refine any_pure 20 (v := ?_) rfl (by kernel_rfl) (by intro _ _ _ h; exact h) (by assumption) (by rfl) (fun W hW => ?_) ?_
      rotate_left
      · first | (go_simp; done) | (go_simp; with_reducible rfl)
      try simp only [Act.put, List.setIfInBounds_toArray, List.set_cons_zero, List.set_cons_succ]
      refine any_done (by kernel_rfl) ?_
      go_wp2
      go_ret
      refine ⟨by simp, ?_⟩
      exact (sub_trans HQ.out.2.2.2 HQ.out.2.1).trans (hS5.mono (by have h1 := HQ.out.2.2.2.size; have h2 := HQ.out.2.1.size; omega))
theorem historyTells_walk (l : List Adv) (A : Option Addr) (c : Nat) (tick hold : Int) (W : World) (hR : Reads W W.heap.size 5 A l.length (advs l)) (hok : ∀ x ∈ l, x.ok) (hl : l.length ≤ maxLen ∧ l.length ≤ c) (ht : In64 tick) (hh : In64 hold) :
    Calls Try.prog 8 #[.slice A l.length c, .int .i64 tick, .int .i64 hold] W fun e w' => e = .returned (.bool true) ∧ Below W.heap.size W w' := by
  by_cases h100 : 100 < l.length
  · exact htells_long tick hold l A c W h100 hl.1
  · exact htells_few tick hold l A c W hR (by omega) ht hh fun k hk => ⟨(hok _ (List.getElem_mem hk)).tick, (hok _ (List.getElem_mem hk)).want⟩
end Go.Proofs.Ytgmgddccdfmiiaa
