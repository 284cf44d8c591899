/-
  The walk of TraceParts, whatever the input. Condition: none.
-/
import Derived.Test.YtbjibpghbaemfaaReplies
import Derived.Test.YtbjibpghbaemfaaEvS
namespace Go.Proofs.Ytbjibpghbaemfaa
open Go.RowKit Go.Fw Go.Shelf
set_option maxHeartbeats 4000000
set_option maxRecDepth 4000
set_option linter.unusedVariables false
set_option linter.unusedSimpArgs false
theorem tparts_long (l : List Ev) (A : Option Addr) (c : Nat) (t kd : Int) (W : World) (hl : 60 < l.length) (hm : l.length ≤ maxLen) :
    Calls Try.prog 5 #[.slice A l.length c, .int .i64 t, .int .i64 kd] W fun e w' => e = .returned (.bool true) ∧ Below W.heap.size W w' := by
  unfold maxLen at hm
  go_enter Try.func5, Try.ntmps5
  go_wp2_with fail
  refine (tawake_any _).mono ?_
  rintro e w1 ⟨rfl, b1⟩
  go_wp2
  go_ret
  exact ⟨rfl, b1⟩
theorem tparts_few (l : List Ev) (A : Option Addr) (c : Nat) (t kd : Int) (W0 : World) (ho : ∀ e ∈ l, EvOk e) (hR : Reads W0 W0.heap.size 34 A l.length (evs l)) (hl : l.length ≤ 60) :
    Calls Try.prog 5 #[.slice A l.length c, .int .i64 t, .int .i64 kd] W0 fun e w' => e = .returned (.bool true) ∧ Below W0.heap.size W0 w' := by
  have hof : (l.filter fun x => x.task == t).length ≤ 60 := Nat.le_trans (List.length_filter_le _ _) hl
  have hkd : (l.filter fun x => x.kind == kd).length ≤ 60 := Nat.le_trans (List.length_filter_le _ _) hl
  have hpt : (l.filter fun x => x.kind == 2 || x.kind == 6).length ≤ 60 := Nat.le_trans (List.length_filter_le _ _) hl
  obtain ⟨rs, hrs⟩ : ∃ rs, rs = ((l.filter fun x => x.task == t).filter fun x => x.kind == 3) := ⟨_, rfl⟩
  have HRS := Lib.hid hrs
  have hrp : rs.length ≤ 60 := by rw [hrs]; exact Nat.le_trans (List.length_filter_le _ _) hof
  have oof : ∀ e ∈ (l.filter fun x => x.task == t), EvOk e := fun e he => ho e (List.mem_filter.1 he).1
  have okd : ∀ e ∈ (l.filter fun x => x.kind == kd), EvOk e := fun e he => ho e (List.mem_filter.1 he).1
  have opt : ∀ e ∈ (l.filter fun x => x.kind == 2 || x.kind == 6), EvOk e := fun e he => ho e (List.mem_filter.1 he).1
  have orp : ∀ e ∈ rs, EvOk e := fun e he => oof e (by rw [hrs] at he; exact (List.mem_filter.1 he).1)
  have HO := Lib.hid (And.intro ho (And.intro oof (And.intro okd (And.intro opt orp))))
  clear ho oof okd opt orp hrs
  go_enter Try.func5, Try.ntmps5
  go_wp2_with fail
  refine (tawake_any _).mono ?_
  rintro e w1 ⟨rfl, b1⟩
  have hR1 := hR.up b1
  have hlen : ¬ 60 < l.length := by omega
  clear hR
  go_wp2_with fail
  refine (events_any l A c _ _ HO.out.1 hR1 (by omega)).mono ?_
  rintro e w2 ⟨v2, rfl, hm2⟩
  obtain ⟨A2, c2, rfl, _, _, r2⟩ := hm2.form
  have b2 := sub_trans b1 hm2.below
  have hR2 := hR1.up hm2.below
  clear hm2 b1 hR1
  go_wp2_with fail
  refine (replies_any l A2 c2 _ t _ HO.out.1 r2 (by omega)).mono ?_
  rintro e w3 ⟨v3, rfl, hm3⟩
  rw [← HRS.out] at hm3
  obtain ⟨A3, c3, rfl, _, _, r3⟩ := hm3.form
  have b3 := sub_trans b2 hm3.below
  have hR3 := hR2.up hm3.below
  have r23 := r2.up hm3.below
  clear hm3 b2 hR2 r2
  go_wp2_with fail
  refine (rof_any l A c _ t _ HO.out.1 hR3 (by omega)).mono ?_
  rintro e w4 ⟨v4, rfl, hm4⟩
  obtain ⟨A4, c4, rfl, _, _, r4⟩ := hm4.form
  have b4 := sub_trans b3 hm4.below
  have hR4 := hR3.up hm4.below
  have r24 := r23.up hm4.below
  have r34 := r3.up hm4.below
  clear hm4 b3 hR3 r23 r3
  go_wp2_with fail
  refine (rkind_any _ A4 c4 _ 3 _ HO.out.2.1 r4 (by omega)).mono ?_
  rintro e w5 ⟨v5, rfl, hm5⟩
  rw [← HRS.out] at hm5
  obtain ⟨A5, c5, rfl, _, _, r5⟩ := hm5.form
  have b5 := sub_trans b4 hm5.below
  have hR5 := hR4.up hm5.below
  have r25 := r24.up hm5.below
  have r35 := r34.up hm5.below
  clear hm5 b4 hR4 r24 r34 r4
  have e5 : ((rs.length : Int) != (rs.length : Int)) = false := by simp
  have HB := Lib.hid (And.intro b5 (And.intro hR5 (And.intro r25 (And.intro r35 r5))))
  clear b5 hR5 r25 r35 r5
  go_wp2
  go_loopw [33] (fun i wr => ∃ (k : Nat), k ≤ rs.length ∧ i = .int .i64 k ∧ Hid (Below w5.heap.size w5 wr)) (fun i _ => rs.length - (intOf i).toNat)
  case atStart => exact ⟨0, Nat.zero_le _, rfl, Lib.hid (Below.refl _ _)⟩
  case round =>
    obtain ⟨k, hk, rfl, HW⟩ := hrel
    by_cases hlt : k < rs.length
    · obtain ⟨_, _, _, R3, R5⟩ := HB.out
      have hev := HO.out.2.2.2.2
      obtain ⟨b, o, rfl, hb3, hc⟩ := rep_at hev (R3.up HW.out) rfl hlt
      obtain ⟨b2, o2, rfl, hb5, hc2⟩ := ev_at hev (R5.up HW.out) hlt
      have hx := hev _ (List.getElem_mem hlt)
      clear R3 R5 hev
      generalize rs[k] = x at *
      have ha : ∀ j v, x.rep.toList[j]? = some v → wr.cell? ((⟨b, o + k * 13, none⟩ : Addr).add j) = some v := fun j v hv => by
        rw [show (⟨b, o + k * 13, none⟩ : Addr).add j = ⟨b, o + k * 13 + j, none⟩ by unfold Addr.add; split <;> simp_all]
        exact hc j v hv
      have hb : ∀ j v, x.rep.toList[j]? = some v → wr.cell? ((⟨b2, o2 + k * 34 + 14, none⟩ : Addr).add j) = some v := fun j v hv => by
        rw [show (⟨b2, o2 + k * 34 + 14, none⟩ : Addr).add j = ⟨b2, o2 + k * 34 + (14 + j), none⟩ by unfold Addr.add; split <;> simp_all [Nat.add_assoc]]
        exact hc2 (14 + j) v (hx.rep_get hv)
      have HALL := Lib.hid (And.intro hx.rep_size (And.intro hx.rep_all (And.intro ha (And.intro hb hx))))
      clear hc hc2 hx ha hb
      have hw1 : Below w5.heap.size w5 (wr.alloc (.cells x.rep 43)) := sub_alloc HW.out _
      have hn1 : ∀ j v, x.rep.toList[j]? = some v → (wr.alloc (.cells x.rep 43)).cell? ((⟨wr.heap.size, 0, none⟩ : Addr).add j) = some v := new_cells wr 43 x.rep
      have hn2 : ∀ j v, x.rep.toList[j]? = some v → (wr.alloc (.cells x.rep 43)).cell? ((⟨b2, o2 + k * 34 + 14, none⟩ : Addr).add j) = some v := fun j v hv => by
        have hj := HALL.out.2.2.2.1 j v hv
        have hlt2 : b2 < wr.heap.size := hb5
        rw [World.cell?_alloc_lt] <;> first | exact hj | (unfold Addr.add; split <;> simpa using hlt2)
      have HN := Lib.hid (And.intro hw1 (And.intro hn1 hn2))
      clear hw1 hn1 hn2
      have hlen : (k : Int) < (rs.length : Int) := by omega
      go_upto_region 13 with (first | (refine wpList_load_at rowR rfl (.tmp 36) rfl ⟨b, o + k * 13, none⟩ (by rfl) x.rep HALL.out.1 HALL.out.2.2.1 ?_) | (refine wpList_alloc_row rowR rfl rfl ?_) | (refine wpList_store_new rowR rfl (.tmp 11) (.tmp 37) rfl _ rfl (by rfl) x.rep _ (by rfl) _ HALL.out.1 rowR.zc_size HALL.out.2.1 ?_))
      generalize (wr.alloc (.cells x.rep 43)) = wn at *
      have hS0 : wn.drew.heap = wn.heap := rfl
      refine any_start (S := fun W => W.heap = wn.heap) (by kernel_rfl) hS0 ?_
      simp only [List.length_cons, List.length_nil, Nat.reduceAdd, List.size_toArray]
      refine any_pure 0 (v := ?_) rfl (by kernel_rfl) (by intro _ _ _ h; exact h) (by assumption) (by rfl) (fun W hW => ?_) ?_
      rotate_left
      · refine exec_load_at rowR (.tmp 11) ?_ ⟨wr.heap.size, 0, none⟩ ?_ x.rep HALL.out.1 ?_; exact rfl; exact rfl; exact (fun j v hv => (World.cell?_of_block (by rw [hW])).trans (HN.out.2.1 j v hv))
      try simp only [Act.put, List.setIfInBounds_toArray, List.set_cons_zero, List.set_cons_succ]
      refine any_pure 1 (v := ?_) rfl (by kernel_rfl) (by intro _ _ _ h; exact h) (by assumption) (by rfl) (fun W hW => ?_) ?_
      rotate_left
      · first | (go_simp; done) | (go_simp; with_reducible rfl)
      try simp only [Act.put, List.setIfInBounds_toArray, List.set_cons_zero, List.set_cons_succ]
      refine any_pure 2 (v := ?_) rfl (by kernel_rfl) (by intro _ _ _ h; exact h) (by assumption) (by rfl) (fun W hW => ?_) ?_
      rotate_left
      · first | (go_simp; done) | (go_simp; with_reducible rfl)
      try simp only [Act.put, List.setIfInBounds_toArray, List.set_cons_zero, List.set_cons_succ]
      refine any_pure 3 (v := ?_) rfl (by kernel_rfl) (by intro _ _ _ h; exact h) (by assumption) (by rfl) (fun W hW => ?_) ?_
      rotate_left
      · first | (go_simp; done) | (go_simp; with_reducible rfl)
      try simp only [Act.put, List.setIfInBounds_toArray, List.set_cons_zero, List.set_cons_succ]
      refine any_pure 4 (v := ?_) rfl (by kernel_rfl) (by intro _ _ _ h; exact h) (by assumption) (by rfl) (fun W hW => ?_) ?_
      rotate_left
      · first | (go_simp; done) | (go_simp; with_reducible rfl)
      try simp only [Act.put, List.setIfInBounds_toArray, List.set_cons_zero, List.set_cons_succ]
      refine any_pure 5 (v := ?_) rfl (by kernel_rfl) (by intro _ _ _ h; exact h) (by assumption) (by rfl) (fun W hW => ?_) ?_
      rotate_left
      · refine exec_load_at rowR (.tmp 42) ?_ ⟨b2, o2 + k * 34 + 14, none⟩ ?_ x.rep HALL.out.1 ?_; exact rfl; exact rfl; exact (fun j v hv => (World.cell?_of_block (by rw [hW])).trans (HN.out.2.2 j v hv))
      try simp only [Act.put, List.setIfInBounds_toArray, List.set_cons_zero, List.set_cons_succ]
      refine any_pure 6 (v := ?_) rfl (by kernel_rfl) (by intro _ _ _ h; exact h) (by assumption) (by rfl) (fun W hW => ?_) ?_
      rotate_left
      · refine exec_bin_agg .neq 43 43 (.tmp 38) (.tmp 43) ?_ x.rep x.rep ?_ ?_ (by kernel_rfl) (.bool false) (rep_neq x HALL.out.2.2.2.2 _); exact rfl; exact rfl; exact rfl
      try simp only [Act.put, List.setIfInBounds_toArray, List.set_cons_zero, List.set_cons_succ]
      refine any_done (by kernel_rfl) ?_
      go_wp2
      go_roundw
      case rel => exact ⟨k + 1, by omega, by go_num, Lib.hid HN.out.1.drew⟩
      case measure => simp [intOf]; omega
    · obtain rfl : k = rs.length := by omega
      obtain ⟨b5, R0, R2, _, _⟩ := HB.out
      have c1 := sub_trans b5 HW.out
      have q0 := R0.up HW.out
      have q2 := R2.up HW.out
      clear b5 R0 R2
      go_wp2_with fail
      refine (of_any l A2 c2 _ t _ HO.out.1 q2 (by omega)).mono ?_
      rintro e x1 ⟨y1, rfl, m1⟩
      obtain ⟨B1, k1, rfl, _, _, s1⟩ := m1.form
      have c2' := sub_trans c1 m1.below
      have q02 := q0.up m1.below
      have q22 := q2.up m1.below
      clear m1 c1 q0 q2
      go_wp2_with fail
      refine (rof_any l A c _ t _ HO.out.1 q02 (by omega)).mono ?_
      rintro e x2 ⟨y2, rfl, m2⟩
      obtain ⟨B2, k2, rfl, _, _, s2⟩ := m2.form
      have c3' := sub_trans c2' m2.below
      have q03 := q02.up m2.below
      have q23 := q22.up m2.below
      have s12 := s1.up m2.below
      clear m2 c2' q02 q22 s1
      go_wp2_with fail
      refine (same_any (l.filter fun x => x.task == t) B1 B2 k1 k2 _ _ _ x2 HO.out.2.1 s12 s2 (by omega)).mono ?_
      rintro e x3 ⟨rfl, m3⟩
      have c4' := sub_trans c3' m3
      have q04 := q03.up m3
      have q24 := q23.up m3
      clear m3 c3' q03 q23 s12 s2
      go_wp2_with fail
      refine (kind_any l A2 c2 _ kd _ HO.out.1 q24 (by omega)).mono ?_
      rintro e x4 ⟨y4, rfl, m4⟩
      obtain ⟨B4, k4, rfl, _, _, s4⟩ := m4.form
      have c5' := sub_trans c4' m4.below
      have q05 := q04.up m4.below
      have q25 := q24.up m4.below
      clear m4 c4' q04 q24
      go_wp2_with fail
      refine (rkind_any l A c _ kd _ HO.out.1 q05 (by omega)).mono ?_
      rintro e x5 ⟨y5, rfl, m5⟩
      obtain ⟨B5, k5, rfl, _, _, s5⟩ := m5.form
      have c6' := sub_trans c5' m5.below
      have q06 := q05.up m5.below
      have q26 := q25.up m5.below
      have s45 := s4.up m5.below
      clear m5 c5' q05 q25 s4
      go_wp2_with fail
      refine (same_any (l.filter fun x => x.kind == kd) B4 B5 k4 k5 _ _ _ x5 HO.out.2.2.1 s45 s5 (by omega)).mono ?_
      rintro e x6 ⟨rfl, m6⟩
      have c7' := sub_trans c6' m6
      have q07 := q06.up m6
      have q27 := q26.up m6
      clear m6 c6' q06 q26 s45 s5
      go_wp2_with fail
      refine (points_any l A2 c2 _ _ HO.out.1 q27 (by omega)).mono ?_
      rintro e x7 ⟨y7, rfl, m7⟩
      obtain ⟨B7, k7, rfl, _, _, s7⟩ := m7.form
      have c8' := sub_trans c7' m7.below
      have q08 := q07.up m7.below
      clear m7 c7' q07 q27
      go_wp2_with fail
      refine (rpoints_any l A c _ _ HO.out.1 q08 (by omega)).mono ?_
      rintro e x8 ⟨y8, rfl, m8⟩
      obtain ⟨B8, k8, rfl, _, _, s8⟩ := m8.form
      have c9' := sub_trans c8' m8.below
      have s78 := s7.up m8.below
      clear m8 c8' q08 s7
      go_wp2_with fail
      refine (same_any (l.filter fun x => x.kind == 2 || x.kind == 6) B7 B8 k7 k8 _ _ _ x8 HO.out.2.2.2.1 s78 s8 (by omega)).mono ?_
      rintro e x9 ⟨rfl, m9⟩
      have c10' := sub_trans c9' m9
      clear m9 c9' s78 s8
      go_wp2
      go_ret
      exact ⟨by first | rfl | simp, c10'⟩
theorem traceParts_walk (l : List Ev) (A : Option Addr) (c : Nat) (t kd : Int) (W : World) (hR : Reads W W.heap.size 34 A l.length (evs l)) (ho : ∀ e ∈ l, EvOk e) (hl : l.length ≤ maxLen ∧ l.length ≤ c) (h1 : In64 t) (h2 : In64 kd) :
    Calls Try.prog 5 #[.slice A l.length c, .int .i64 t, .int .i64 kd] W fun e w' => e = .returned (.bool true) ∧ Below W.heap.size W w' := by
  by_cases h60 : 60 < l.length
  · exact tparts_long l A c t kd W h60 hl.1
  · exact tparts_few l A c t kd W ho hR (by omega)
end Go.Proofs.Ytbjibpghbaemfaa
