/-
  SteadyHolds and SteadyTells: the walks of both laws. Condition: none.
-/
import Derived.Test.YtgmgddccdfmiiaaSteadyOf
import Derived.Test.YtgmgddccdfmiiaaArgs
namespace Go.Proofs.Ytgmgddccdfmiiaa
open Go.RowKit Go.Fw
set_option maxHeartbeats 1000000
set_option maxRecDepth 4000
set_option linter.unusedVariables false
set_option linter.unusedSimpArgs false

theorem row_at (l : List Int) (A : Option Addr) (c n : Nat) (w : World) (hr : Reads w w.heap.size 1 A n (i64s l)) (hl : n ≤ 1000) :
    Calls Try.prog 47 #[.slice A n c] w fun e w' => ∃ B d, e = .returned (.slice B n d) ∧ Below w.heap.size w w' ∧ Reads w' w'.heap.size 5 B n (advs (l.map rowA)) := by
  refine (row_any l A c n w hr hl).mono ?_
  rintro e w' ⟨v, rfl, hm⟩
  obtain ⟨B, d, rfl, _, _, hq⟩ := hm.form
  exact ⟨B, d, rfl, hm.below, hq⟩

theorem ofS_law (l : List Adv) (tick hold want : Int) : want ≤ (ofS l tick hold want).1 ∧ (ofS l tick hold want).2 = decide (want < (ofS l tick hold want).1) := by
  unfold ofS
  split
  · rename_i h
    exact ⟨by have := h.2; simp only; omega, by simp [h.2]⟩
  · exact ⟨Int.le_refl _, by simp⟩

theorem awake15_any (w : World) : Calls Try.prog 23 #[] w fun e w' => e = .returned (.bool true) ∧ Below w.heap.size w w' := by
  have e1 : ofS [rowA 5] 2 2 3 = (5, true) := by decide
  have e2 : turnsL ([1, 2, 2, 1].map rowA) = 1 := by decide
  have e3 : streakL ([1, 2, 2].map rowA) = 2 := by decide
  have E1 := Lib.hid e1
  have E2 := Lib.hid e2
  have E3 := Lib.hid e3
  clear e1 e2 e3
  go_enter Try.func23, Try.ntmps23
  go_wp2_with fail
  refine (row_at [5] _ _ _ _ (reads_new_at w 2 #[.int .i64 5] 1 _ _ rfl rfl (by simp)) (by decide)).mono ?_
  rintro e w1 ⟨A1, c1, rfl, hb1, hq1⟩
  have hb1' := sub_trans (sub_alloc (Below.refl _ w) _) hb1
  go_wp2_with fail
  refine (of_any [rowA 5] _ _ _ 0 0 0 0 0 2 2 3 _ hq1 (by decide) ⟨by decide, by decide⟩ ⟨by decide, by decide⟩ ?_).mono ?_
  · intro k hk
    obtain rfl : k = 0 := by simp at hk; exact hk
    show In64 1 ∧ In64 5
    exact ⟨⟨by decide, by decide⟩, ⟨by decide, by decide⟩⟩
  rintro e w2 ⟨rfl, hb2⟩
  have hb2' := sub_trans hb1' hb2
  rw [E1.out]
  clear hb1 hb2 hq1 hb1'
  go_wp2_with fail
  refine (row_at [1, 2, 2, 1] _ _ _ _ (reads_new_at w2 2 #[.int .i64 1, .int .i64 2, .int .i64 2, .int .i64 1] 4 _ _ rfl rfl (by simp)) (by decide)).mono ?_
  rintro e w3 ⟨A3, c3, rfl, hb3, hq3⟩
  have hb3' := sub_trans (sub_alloc hb2' _) hb3
  go_wp2_with fail
  refine (turns_any _ _ _ _ _ hq3 (by decide)).mono ?_
  rintro e w4 ⟨rfl, hb4⟩
  have hb4' := sub_trans hb3' hb4
  rw [E2.out]
  clear hb3 hb4 hq3 hb3' hb2'
  go_wp2_with fail
  refine (row_at [1, 2, 2] _ _ _ _ (reads_new_at w4 2 #[.int .i64 1, .int .i64 2, .int .i64 2] 3 _ _ rfl rfl (by simp)) (by decide)).mono ?_
  rintro e w5 ⟨A5, c5, rfl, hb5, hq5⟩
  have hb5' := sub_trans (sub_alloc hb4' _) hb5
  go_wp2_with fail
  refine (streak_any _ _ _ _ _ hq5 (by decide)).mono ?_
  rintro e w6 ⟨rfl, hb6⟩
  have hb6' := sub_trans hb5' hb6
  rw [E3.out]
  go_wp2
  go_ret
  exact ⟨rfl, hb6'⟩

theorem steadyHolds_walk (q0 q1 q2 q3 q4 q5 tick want : Int) (l : List Adv) (A : Option Addr) (c : Nat) (w : World) (hq : In64 q0 ∧ In64 q1 ∧ In64 q2 ∧ In64 q3 ∧ In64 q4 ∧ In64 q5) (ht : -9223372036854775808 ≤ tick ∧ tick ≤ 9223372036854775807)
    (hw : -9223372036854775808 ≤ want ∧ want ≤ 9223372036854775807) (hr : Reads w w.heap.size 5 A l.length (advs l)) (hok : ∀ a ∈ l, a.ok) (hlc : l.length ≤ maxLen ∧ l.length ≤ c) :
    Calls Try.prog 5 #[.agg #[.int .i64 q0, .int .i64 q1, .int .i64 q2, .int .i64 q3, .int .i64 q4, .int .i64 q5], .int .i64 tick, .int .i64 want, .slice A l.length c] w
      fun e w' => e = .returned (.bool true) ∧ Below w.heap.size w w' := by
  have hq5 := hq.2.2.2.2.2
  have hl := hlc.1
  clear hlc hq
  unfold maxLen at hl
  have hb0 := sub_alloc (Below.refl w.heap.size w) (.cells #[.int .i64 q0, .int .i64 q1, .int .i64 q2, .int .i64 q3, .int .i64 q4, .int .i64 q5] 45)
  have hg : w.heap.size < (w.alloc (.cells #[.int .i64 q0, .int .i64 q1, .int .i64 q2, .int .i64 q3, .int .i64 q4, .int .i64 q5] 45)).heap.size := by simp
  by_cases h : l.length ≤ 100
  · have hall : ∀ (k : Nat) (h : k < l.length), In64 l[k].tick ∧ In64 l[k].want := fun k hk => ⟨(hok _ (List.getElem_mem hk)).tick, (hok _ (List.getElem_mem hk)).want⟩
    go_enter Try.func5, Try.ntmps5
    go_wp2_with fail
    refine (awake15_any _).mono ?_
    rintro e w1 ⟨rfl, hb⟩
    have hb1 := sub_trans hb0 hb
    have c0 := (hb.cell (p := ⟨w.heap.size, 0, none⟩) hg).trans (World.cell?_alloc_mark w _ _ (0, 0) 0)
    have c1 := (hb.cell (p := ⟨w.heap.size, 1, none⟩) hg).trans (World.cell?_alloc_mark w _ _ (0, 0) 1)
    have c2 := (hb.cell (p := ⟨w.heap.size, 2, none⟩) hg).trans (World.cell?_alloc_mark w _ _ (0, 0) 2)
    have c3 := (hb.cell (p := ⟨w.heap.size, 3, none⟩) hg).trans (World.cell?_alloc_mark w _ _ (0, 0) 3)
    have c4 := (hb.cell (p := ⟨w.heap.size, 4, none⟩) hg).trans (World.cell?_alloc_mark w _ _ (0, 0) 4)
    have c5 := (hb.cell (p := ⟨w.heap.size, 5, none⟩) hg).trans (World.cell?_alloc_mark w _ _ (0, 0) 5)
    have hr1 := hr.up hb1
    simp at c0 c1 c2 c3 c4 c5
    have hlt : w.heap.size < w1.heap.size := by have := hb.size; simp at this; omega
    go_wp2_with fail
    refine (of_any l _ _ _ q0 q1 q2 q3 q4 q5 tick want _ hr1 (by omega) ht hq5 hall).mono ?_
    rintro e w2 ⟨rfl, hb2⟩
    have d0 := (hb2.cell (p := ⟨w.heap.size, 0, none⟩) hlt).trans c0
    have d1 := (hb2.cell (p := ⟨w.heap.size, 1, none⟩) hlt).trans c1
    have d2 := (hb2.cell (p := ⟨w.heap.size, 2, none⟩) hlt).trans c2
    have d3 := (hb2.cell (p := ⟨w.heap.size, 3, none⟩) hlt).trans c3
    have d4 := (hb2.cell (p := ⟨w.heap.size, 4, none⟩) hlt).trans c4
    have d5 := (hb2.cell (p := ⟨w.heap.size, 5, none⟩) hlt).trans c5
    have hr2 := hr1.up hb2
    have hb3 := sub_trans hb1 hb2
    clear c0 c1 c2 c3 c4 c5 hb hb2 hr hr1
    go_wp2_with fail
    refine (rof_any l _ _ _ q0 q1 q2 q3 q4 q5 tick want _ hr2 (by omega) ht hq5 hall).mono ?_
    rintro e w3 ⟨rfl, hb4⟩
    have hb5 := sub_trans hb3 hb4
    obtain ⟨hle, hdec⟩ := ofS_law l tick q5 want
    generalize ofS l tick q5 want = g at *
    obtain ⟨n, held⟩ := g
    have hle' : want ≤ n := hle
    have hh : held = decide (want < n) := hdec
    clear hdec hle
    subst hh
    clear d0 d1 d2 d3 d4 d5 hb4 hb3 hr2 hall hok
    by_cases hlt2 : want < n
    · go_wp2
      go_ret
      exact ⟨ret_b (by simp [hlt2]), hb5⟩
    · go_wp2
      go_ret
      exact ⟨ret_b (by simp [hlt2]), hb5⟩
  · go_enter Try.func5, Try.ntmps5
    go_wp2_with fail
    refine (awake15_any _).mono ?_
    rintro e w1 ⟨rfl, hb⟩
    go_wp2
    go_ret
    exact ⟨rfl, sub_trans hb0 hb⟩

theorem sub_drewN' {a w : World} (h : Below a.heap.size a w) (n : Nat) : Below a.heap.size a (w.drewN n) := sub_drewN h n

set_option maxHeartbeats 4000000 in
theorem steadyTells_walk (l : List Adv) (A : Option Addr) (c : Nat) (m : Int) (w : World) (hr : Reads w w.heap.size 5 A l.length (advs l)) (hok : ∀ a ∈ l, a.ok) (hlc : l.length ≤ maxLen ∧ l.length ≤ c)
    (hm : -9223372036854775808 ≤ m ∧ m ≤ 9223372036854775807) :
    Calls Try.prog 7 #[.slice A l.length c, .int .i64 m] w fun e w' => e = .returned (.bool true) ∧ Below w.heap.size w w' := by
  have hl := hlc.1
  clear hlc
  unfold maxLen at hl
  by_cases h : l.length ≤ 100
  · obtain ⟨n, hn⟩ : ∃ n, n = l.length := ⟨_, rfl⟩
    have HN := Lib.hid hn
    rw [← hn] at hr hl h ⊢
    clear hn
    go_enter Try.func7, Try.ntmps7
    go_wp2_with fail
    refine (awake15_any _).mono ?_
    rintro e w1 ⟨rfl, hb⟩
    have hr1 := hr.up hb
    go_wp2_with fail
    by_cases h0 : 0 < n
    · obtain ⟨v, hL, hcell⟩ := adv_last hr1 h0
      have HL := Lib.hid hL
      have HC := Lib.hid hcell
      clear hL hcell
      go_loopw [5, 6] (fun t i wr => ∃ (k : Nat), k ≤ n ∧ i = .int .i64 ((k : Int) - 1) ∧ t = .int .i64 ((n : Int) - k) ∧ Hid (streakL l + k = sk v l k + n) ∧ Hid (∃ q, wr = w1.drewN q)) (fun _ i _ => (intOf i + 1).toNat)
      case atStart => exact ⟨n, by omega, rfl, by go_num, Lib.hid (by rw [HL.out]), Lib.hid ⟨0, rfl⟩⟩
      case round =>
        obtain ⟨k, hk, rfl, rfl, HG, HW⟩ := hrel
        obtain ⟨q, rfl⟩ := HW.out
        clear HW
        obtain _ | k := k
        · have hd : streakL l = n := by have := HG.out; simp [sk] at this; omega
          have HD := Lib.hid hd
          clear hd
          have HX : Hid ((n : Int) - ((0 : Nat) : Int) = ((streakL l : Nat) : Int)) := by show _ = _; rw [HD.out]; simp
          go_wp2
          go_quiet (fail)
          go_wp2_with fail
          rw [show (n : Int) - ((0 : Nat) : Int) = ((streakL l : Nat) : Int) from HX.out]
          refine (turns_any l _ _ _ (w1.drewN _) hr1 (by omega)).mono ?_
          rintro e w2 ⟨rfl, hb2⟩
          have hr2 := Reads.up (w := w1.drewN _) hr1 hb2
          have hb3 : Below w.heap.size w w2 := sub_trans (sub_drewN' hb _) hb2
          go_wp2_with fail
          refine (changes_any l _ _ _ _ hr2 (by omega)).mono ?_
          rintro e w3 ⟨rfl, hb4⟩
          have hr3 := hr2.up hb4
          have hb5 := sub_trans hb3 hb4
          go_wp2_with fail
          refine (streak_any l _ _ _ _ hr3 (by omega)).mono ?_
          rintro e w4 ⟨rfl, hb6⟩
          have hr4 := hr3.up hb6
          have hb7 := sub_trans hb5 hb6
          clear hb2 hr2 hb3 hb4 hr3 hb5 hb6 hr1 hr hb
          go_wp2_with fail
          refine (settled_any l _ _ _ m _ hr4 (by omega) hm).mono ?_
          rintro e w5 ⟨rfl, hb8⟩
          have hr5 := hr4.up hb8
          have hb9 := sub_trans hb7 hb8
          clear hr4 hb7 hb8
          generalize hsl : streakL l = sl at *
          clear hsl
          have hcase : (m ≤ (sl : Int)) ∨ ¬ (m ≤ (sl : Int)) := by omega
          rcases hcase with hc | hc
          · go_wp2_with fail
            refine (rturns_any l _ _ _ _ hr5 (by omega)).mono ?_
            rintro e w6 ⟨rfl, rfl⟩
            obtain hz | hz := turns_lt l
            · have hz1 := hz.1
              have hz2 := hz.2
              rw [hz2, hz1]
              go_wp2
              go_ret
              exact ⟨rfl, hb9⟩
            · have hz3 : ((changesL l : Int) == 0) = false := by simp; omega
              have hz4 : ((turnsL l : Int)) < (changesL l : Int) := by omega
              go_wp2
              go_ret
              exact ⟨rfl, hb9⟩
          · go_wp2_with fail
            refine (rturns_any l _ _ _ _ hr5 (by omega)).mono ?_
            rintro e w6 ⟨rfl, rfl⟩
            obtain hz | hz := turns_lt l
            · have hz1 := hz.1
              have hz2 := hz.2
              rw [hz2, hz1]
              go_wp2
              go_ret
              exact ⟨rfl, hb9⟩
            · have hz3 : ((changesL l : Int) == 0) = false := by simp; omega
              have hz4 : ((turnsL l : Int)) < (changesL l : Int) := by omega
              go_wp2
              go_ret
              exact ⟨rfl, hb9⟩
        · have hkl : k < l.length := by have := HN.out; omega
          obtain ⟨bl, off, rfl, c1, c2⟩ := HC.out k hkl
          have hy := sk_yes (v := v) hkl
          have hz := sk_no (v := v) hkl
          generalize hx : l[k].reps = x at *
          clear hx
          have i0 : ((k + 1 : Nat) : Int) - 1 = (k : Int) := by omega
          rw [i0]
          have i2 : (k : Int) < (n : Int) := by omega
          have i3 : (0 : Int) ≤ (n : Int) - 1 := by omega
          have i4 : (n : Int) - 1 < (n : Int) := by omega
          by_cases he : x = v
          · have hb' : (x == v) = true := by simp [he]
            have HY := Lib.hid (hy he)
            clear hy hz he i0
            go_wp2
            go_quiet (fail)
            go_wp2
            go_roundw
            case rel => exact ⟨k, by omega, rfl, by go_num, Lib.hid (by have := HG.out; rw [HY.out] at this; omega), Lib.hid ⟨_, rfl⟩⟩
            case measure => first | (simp [intOf]; done) | (simp [intOf]; omega)
          · have hb' : (x == v) = false := by simp [he]
            have HY := Lib.hid (hz he)
            have HX : Hid ((n : Int) - ((k + 1 : Nat) : Int) = ((streakL l : Nat) : Int)) := by show _ = _; have := HG.out; rw [HY.out] at this; omega
            clear hy hz he i0
            go_wp2
            go_quiet (fail)
            go_wp2_with fail
            rw [show (n : Int) - ((k + 1 : Nat) : Int) = ((streakL l : Nat) : Int) from HX.out]
            refine (turns_any l _ _ _ (w1.drewN _) hr1 (by omega)).mono ?_
            rintro e w2 ⟨rfl, hb2⟩
            have hr2 := Reads.up (w := w1.drewN _) hr1 hb2
            have hb3 : Below w.heap.size w w2 := sub_trans (sub_drewN' hb _) hb2
            go_wp2_with fail
            refine (changes_any l _ _ _ _ hr2 (by omega)).mono ?_
            rintro e w3 ⟨rfl, hb4⟩
            have hr3 := hr2.up hb4
            have hb5 := sub_trans hb3 hb4
            go_wp2_with fail
            refine (streak_any l _ _ _ _ hr3 (by omega)).mono ?_
            rintro e w4 ⟨rfl, hb6⟩
            have hr4 := hr3.up hb6
            have hb7 := sub_trans hb5 hb6
            clear hb2 hr2 hb3 hb4 hr3 hb5 hb6 hr1 hr hb
            go_wp2_with fail
            refine (settled_any l _ _ _ m _ hr4 (by omega) hm).mono ?_
            rintro e w5 ⟨rfl, hb8⟩
            have hr5 := hr4.up hb8
            have hb9 := sub_trans hb7 hb8
            clear hr4 hb7 hb8
            generalize hsl : streakL l = sl at *
            clear hsl
            have hcase : (m ≤ (sl : Int)) ∨ ¬ (m ≤ (sl : Int)) := by omega
            rcases hcase with hc | hc
            · go_wp2_with fail
              refine (rturns_any l _ _ _ _ hr5 (by omega)).mono ?_
              rintro e w6 ⟨rfl, rfl⟩
              obtain hz | hz := turns_lt l
              · have hz1 := hz.1
                have hz2 := hz.2
                rw [hz2, hz1]
                go_wp2
                go_ret
                exact ⟨rfl, hb9⟩
              · have hz3 : ((changesL l : Int) == 0) = false := by simp; omega
                have hz4 : ((turnsL l : Int)) < (changesL l : Int) := by omega
                go_wp2
                go_ret
                exact ⟨rfl, hb9⟩
            · go_wp2_with fail
              refine (rturns_any l _ _ _ _ hr5 (by omega)).mono ?_
              rintro e w6 ⟨rfl, rfl⟩
              obtain hz | hz := turns_lt l
              · have hz1 := hz.1
                have hz2 := hz.2
                rw [hz2, hz1]
                go_wp2
                go_ret
                exact ⟨rfl, hb9⟩
              · have hz3 : ((changesL l : Int) == 0) = false := by simp; omega
                have hz4 : ((turnsL l : Int)) < (changesL l : Int) := by omega
                go_wp2
                go_ret
                exact ⟨rfl, hb9⟩
    · have hz0 : n = 0 := by omega
      subst hz0
      have hd : streakL l = 0 := by have := streakL_le l; have := HN.out; omega
      have HD := Lib.hid hd
      clear hd
      go_loopw [5, 6] (fun t i wr => t = .int .i64 0 ∧ i = .int .i64 (-1) ∧ Hid (∃ q, wr = w1.drewN q)) (fun _ _ _ => 0)
      case atStart => exact ⟨rfl, rfl, Lib.hid ⟨0, rfl⟩⟩
      case round =>
        obtain ⟨rfl, rfl, HW⟩ := hrel
        obtain ⟨q, rfl⟩ := HW.out
        clear HW
        go_wp2
        go_quiet (fail)
        go_wp2_with fail
        refine (turns_any l _ _ _ (w1.drewN _) hr1 (by omega)).mono ?_
        rintro e w2 ⟨rfl, hb2⟩
        have hr2 := Reads.up (w := w1.drewN _) hr1 hb2
        have hb3 : Below w.heap.size w w2 := sub_trans (sub_drewN' hb _) hb2
        go_wp2_with fail
        refine (changes_any l _ _ _ _ hr2 (by omega)).mono ?_
        rintro e w3 ⟨rfl, hb4⟩
        have hr3 := hr2.up hb4
        have hb5 := sub_trans hb3 hb4
        go_wp2_with fail
        refine (streak_any l _ _ _ _ hr3 (by omega)).mono ?_
        rintro e w4 ⟨rfl, hb6⟩
        have hr4 := hr3.up hb6
        have hb7 := sub_trans hb5 hb6
        clear hb2 hr2 hb3 hb4 hr3 hb5 hb6 hr1 hr hb
        go_wp2_with fail
        refine (settled_any l _ _ _ m _ hr4 (by omega) hm).mono ?_
        rintro e w5 ⟨rfl, hb8⟩
        have hr5 := hr4.up hb8
        have hb9 := sub_trans hb7 hb8
        clear hr4 hb7 hb8
        rw [HD.out]
        have hcase : (m ≤ (((0 : Nat)) : Int)) ∨ ¬ (m ≤ (((0 : Nat)) : Int)) := by omega
        rcases hcase with hc | hc
        · go_wp2_with fail
          refine (rturns_any l _ _ _ _ hr5 (by omega)).mono ?_
          rintro e w6 ⟨rfl, rfl⟩
          obtain hz | hz := turns_lt l
          · have hz1 := hz.1
            have hz2 := hz.2
            rw [hz2, hz1]
            go_wp2
            go_ret
            exact ⟨rfl, hb9⟩
          · have hz3 : ((changesL l : Int) == 0) = false := by simp; omega
            have hz4 : ((turnsL l : Int)) < (changesL l : Int) := by omega
            go_wp2
            go_ret
            exact ⟨rfl, hb9⟩
        · go_wp2_with fail
          refine (rturns_any l _ _ _ _ hr5 (by omega)).mono ?_
          rintro e w6 ⟨rfl, rfl⟩
          obtain hz | hz := turns_lt l
          · have hz1 := hz.1
            have hz2 := hz.2
            rw [hz2, hz1]
            go_wp2
            go_ret
            exact ⟨rfl, hb9⟩
          · have hz3 : ((changesL l : Int) == 0) = false := by simp; omega
            have hz4 : ((turnsL l : Int)) < (changesL l : Int) := by omega
            go_wp2
            go_ret
            exact ⟨rfl, hb9⟩
  · go_enter Try.func7, Try.ntmps7
    go_wp2_with fail
    refine (awake15_any _).mono ?_
    rintro e w1 ⟨rfl, hb⟩
    go_wp2
    go_ret
    exact ⟨rfl, hb⟩
end Go.Proofs.Ytgmgddccdfmiiaa
