/-
  The walks of chapter 15's functions, of history.Changes and of the reference's Turns. Conditions: at most 100000 decisions.
-/
import Derived.Test.YtgmgddccdfmiiaaHighest
import Derived.Test.YtgmgddccdfmiiaaSteadyPlain
namespace Go.Proofs.Ytgmgddccdfmiiaa
open Go.RowKit Go.Fw
set_option maxHeartbeats 1000000
set_option maxRecDepth 4000
set_option linter.unusedVariables false
set_option linter.unusedSimpArgs false

theorem changesL_small {l : List Adv} (h : l.length ≤ 1) : changesL l = 0 := by
  rcases l with _ | ⟨a, _ | ⟨b, r⟩⟩
  · rfl
  · rfl
  · simp at h
theorem turnsL_small {l : List Adv} (h : l.length ≤ 1) : turnsL l = 0 := by
  rcases l with _ | ⟨a, _ | ⟨b, r⟩⟩
  · rfl
  · rfl
  · simp at h
def ChgAt (l : List Adv) (j m : Nat) : Prop := ∃ h : j < l.length, changesL l = m + chg l[j].reps (l.drop (j + 1))
def TnAt (l : List Adv) (j m : Nat) (w : Int) : Prop := ∃ h : j < l.length, turnsL l = m + tn l[j].reps w (l.drop (j + 1))

theorem changes_any (l : List Adv) (A : Option Addr) (c n : Nat) (w : World) (hr : Reads w w.heap.size 5 A n (advs l)) (hl : n ≤ 100000) :
    Calls Try.prog 28 #[.slice A n c] w fun e w' => e = .returned (.int .i64 (changesL l)) ∧ Below w.heap.size w w' := by
  have hn := adv_len hr
  have HN := Lib.hid hn
  clear hn
  by_cases h0 : 0 < n
  · have h0l : 0 < l.length := by have := HN.out; omega
    go_enter Try.func28, Try.ntmps28
    go_wp2
    go_loopw [3, 4] (fun t i wr => ∃ (j m : Nat), j + 1 ≤ n ∧ i = .int .i64 ((j : Int) + 1) ∧ t = .int .i64 m ∧ m ≤ j ∧ ChgAt l j m ∧ Hid (∃ q, wr = w.drewN q)) (fun _ i _ => n - (intOf i).toNat)
    case atStart => exact ⟨0, 0, by omega, rfl, rfl, by omega, ⟨h0l, by rw [changesL_eq h0l]; simp⟩, Lib.hid ⟨0, rfl⟩⟩
    case round =>
      obtain ⟨j, m, hj, rfl, rfl, hm, ⟨hjl, hg⟩, HW⟩ := hrel
      obtain ⟨q, rfl⟩ := HW.out
      clear HW
      by_cases hlt : j + 1 < n
      · have hkl : j + 1 < l.length := by have := HN.out; omega
        obtain ⟨bl, off, rfl, c1, c2⟩ := adv_two hr hkl hjl
        have hs := chg_step (l[j].reps) hkl
        rw [hs] at hg
        have i2 : (j : Int) < (n : Int) := by omega
        have i3 : (j : Int) + 1 < (n : Int) := by omega
        generalize hx : l[j + 1].reps = x at *
        generalize l[j].reps = p at *
        have HX := Lib.hid hx
        clear hx hs
        by_cases he : x = p
        · rw [if_pos he, Nat.zero_add] at hg
          have hb : (x != p) = false := by simp [he]
          have HG := Lib.hid hg
          clear hg he
          go_wp2
          go_quiet (fail)
          go_wp2
          go_roundw
          case rel => exact ⟨j + 1, m, by omega, by go_num, rfl, by omega, ⟨hkl, by rw [HG.out, HX.out]⟩, Lib.hid ⟨_, rfl⟩⟩
          case measure => simp [intOf]; omega
        · rw [if_neg he, ← Nat.add_assoc] at hg
          have hb : (x != p) = true := by simp [he]
          have HG := Lib.hid hg
          clear hg he
          go_wp2
          go_quiet (fail)
          go_wp2
          go_roundw
          case rel => exact ⟨j + 1, m + 1, by omega, by go_num, by go_num, by omega, ⟨hkl, by rw [HG.out, HX.out]⟩, Lib.hid ⟨_, rfl⟩⟩
          case measure => simp [intOf]; omega
      · have hd : changesL l = m := by rw [hg, List.drop_eq_nil_of_le (by have := HN.out; omega)]; rfl
        have HD := Lib.hid hd
        clear hd hg
        go_wp2
        go_ret
        exact ⟨ret_i (by rw [HD.out]), by repeat (first | exact Below.refl _ _ | apply sub_drewN)⟩
  · have hd : changesL l = 0 := changesL_small (by have := HN.out; omega)
    have HD := Lib.hid hd
    clear hd
    go_enter Try.func28, Try.ntmps28
    go_wp2
    go_loop [3, 4] (fun t i => t = .int .i64 0 ∧ i = .int .i64 1) (fun _ i => 0)
    case atStart => exact ⟨rfl, rfl⟩
    case round =>
      obtain ⟨rfl, rfl⟩ := hrel
      go_wp2
      go_ret
      exact ⟨ret_i (by rw [HD.out]; rfl), Below.refl _ _⟩

theorem streak_any (l : List Adv) (A : Option Addr) (c n : Nat) (w : World) (hr : Reads w w.heap.size 5 A n (advs l)) (hl : n ≤ 100000) :
    Calls Try.prog 29 #[.slice A n c] w fun e w' => e = .returned (.int .i64 (streakL l)) ∧ Below w.heap.size w w' := by
  have hn := adv_len hr
  have HN := Lib.hid hn
  clear hn
  by_cases h0 : 0 < n
  · obtain ⟨v, hL, hcell⟩ := adv_last hr h0
    have HL := Lib.hid hL
    have HC := Lib.hid hcell
    clear hL hcell
    go_enter Try.func29, Try.ntmps29
    go_wp2
    go_loopw [3, 4] (fun t i wr => ∃ (m : Nat), m ≤ n ∧ i = .int .i64 ((m : Int) - 1) ∧ t = .int .i64 ((n : Int) - m) ∧ Hid (streakL l + m = sk v l m + n) ∧ Hid (∃ q, wr = w.drewN q)) (fun _ i _ => (intOf i + 1).toNat)
    case atStart => exact ⟨n, by omega, rfl, by go_num, Lib.hid (by rw [HL.out]), Lib.hid ⟨0, rfl⟩⟩
    case round =>
      obtain ⟨m, hm, rfl, rfl, HG, HW⟩ := hrel
      obtain ⟨q, rfl⟩ := HW.out
      clear HW
      obtain _ | m := m
      · have hd : streakL l = n := by have := HG.out; simp [sk] at this; omega
        have HD := Lib.hid hd
        clear hd
        go_wp2
        go_ret
        exact ⟨ret_i (by rw [HD.out]; simp), by repeat (first | exact Below.refl _ _ | apply sub_drewN)⟩
      · have hkl : m < l.length := by have := HN.out; omega
        obtain ⟨bl, off, rfl, c1, c2⟩ := HC.out m hkl
        have hy := sk_yes (v := v) hkl
        have hz := sk_no (v := v) hkl
        generalize hx : l[m].reps = x at *
        clear hx
        have i0 : ((m + 1 : Nat) : Int) - 1 = (m : Int) := by omega
        rw [i0]
        have i2 : (m : Int) < (n : Int) := by omega
        have i3 : (0 : Int) ≤ (n : Int) - 1 := by omega
        have i4 : (n : Int) - 1 < (n : Int) := by omega
        by_cases he : x = v
        · have hb : (x != v) = false := by simp [he]
          have HY := Lib.hid (hy he)
          clear hy hz he i0
          go_wp2
          go_quiet (fail)
          go_wp2
          go_roundw
          case rel => exact ⟨m, by omega, rfl, by go_num, Lib.hid (by have := HG.out; rw [HY.out] at this; omega), Lib.hid ⟨_, rfl⟩⟩
          case measure => first | (simp [intOf]; done) | (simp [intOf]; omega)
        · have hb : (x != v) = true := by simp [he]
          have HY := Lib.hid (hz he)
          clear hy hz he i0
          go_wp2
          go_quiet (fail)
          go_wp2
          go_ret
          exact ⟨ret_i (by have := HG.out; rw [HY.out] at this; omega), by repeat (first | exact Below.refl _ _ | apply sub_drewN)⟩
  · have hd : streakL l = 0 := by have := streakL_le l; have := HN.out; omega
    have HD := Lib.hid hd
    have hz : n = 0 := by omega
    subst hz
    clear hd
    go_enter Try.func29, Try.ntmps29
    go_wp2
    go_loop [3, 4] (fun t i => t = .int .i64 0 ∧ i = .int .i64 (-1)) (fun _ i => 0)
    case atStart => exact ⟨rfl, rfl⟩
    case round =>
      obtain ⟨rfl, rfl⟩ := hrel
      go_wp2
      go_ret
      exact ⟨ret_i (by rw [HD.out]; rfl), Below.refl _ _⟩

theorem settled_any (l : List Adv) (A : Option Addr) (c n : Nat) (m : Int) (w : World) (hr : Reads w w.heap.size 5 A n (advs l)) (hl : n ≤ 100000) (hm : In64 m) :
    Calls Try.prog 30 #[.slice A n c, .int .i64 m] w fun e w' => e = .returned (.bool (decide (0 < n) && decide (m ≤ (streakL l : Int)))) ∧ Below w.heap.size w w' := by
  have hle := streakL_le l
  have hn := adv_len hr
  have HLE : Hid (streakL l ≤ n) := by show _ ≤ _; omega
  clear hle hn
  by_cases h0 : 0 < n
  · go_enter Try.func30, Try.ntmps30
    go_wp2_with (go_at_call 29; refine (streak_any l _ _ _ _ hr hl).mono ?_; rintro e w1 ⟨rfl, hb⟩)
    go_ret
    exact ⟨ret_b (by simp [h0]), hb⟩
  · have h1 : decide ((0 : Int) < (n : Int)) = false := by simpa using h0
    go_enter Try.func30, Try.ntmps30
    go_wp2
    go_ret
    exact ⟨ret_b (by simp [h0]), Below.refl _ _⟩

theorem turns_any (l : List Adv) (A : Option Addr) (c n : Nat) (w : World) (hr : Reads w w.heap.size 5 A n (advs l)) (hl : n ≤ 100000) :
    Calls Try.prog 27 #[.slice A n c] w fun e w' => e = .returned (.int .i64 (turnsL l)) ∧ Below w.heap.size w w' := by
  have hn := adv_len hr
  have HN := Lib.hid hn
  clear hn
  by_cases h0 : 0 < n
  · have h0l : 0 < l.length := by have := HN.out; omega
    go_enter Try.func27, Try.ntmps27
    go_wp2
    go_step3
    go_wp2
    go_step3
    go_wp2
    go_loopw [3, 4, 5] (fun t d i wr => ∃ (j m : Nat) (way : Int), j + 1 ≤ n ∧ i = .int .i64 ((j : Int) + 1) ∧ t = .int .i64 m ∧ d = .int .i64 way ∧ (way = 0 ∨ way = 1 ∨ way = -1) ∧ m ≤ j ∧ TnAt l j m way ∧ Hid (∃ q, wr = w.drewN q)) (fun _ _ i _ => n - (intOf i).toNat)
    case atStart => exact ⟨0, 0, 0, by omega, rfl, rfl, rfl, .inl rfl, by omega, ⟨h0l, by rw [turnsL_eq h0l]; simp⟩, Lib.hid ⟨0, rfl⟩⟩
    case round =>
      obtain ⟨j, m, way, hj, rfl, rfl, rfl, hway, hm, ⟨hjl, hg⟩, HW⟩ := hrel
      obtain ⟨q, rfl⟩ := HW.out
      clear HW
      by_cases hlt : j + 1 < n
      · have hkl : j + 1 < l.length := by have := HN.out; omega
        obtain ⟨bl, off, rfl, c1, c2⟩ := adv_two hr hkl hjl
        have hs := tn_step (l[j].reps) way hkl
        rw [hs] at hg
        have i2 : (j : Int) < (n : Int) := by omega
        have i3 : (j : Int) + 1 < (n : Int) := by omega
        generalize hx : l[j + 1].reps = x at *
        generalize l[j].reps = p at *
        have HX := Lib.hid hx
        clear hx hs
        by_cases he : x = p
        · rw [if_pos he] at hg
          have hb : (x == p) = true := by simp [he]
          have HG := Lib.hid hg
          clear hg he
          go_wp2
          go_quiet (fail)
          go_wp2
          go_roundw
          case rel => exact ⟨j + 1, m, way, by omega, by go_num, rfl, rfl, hway, by omega, ⟨hkl, by rw [HG.out, HX.out]⟩, Lib.hid ⟨_, rfl⟩⟩
          case measure => first | (simp [intOf]; done) | (simp [intOf]; omega)
        · rw [if_neg he] at hg
          have hb : (x == p) = false := by simp [he]
          by_cases hu : p < x
          · rw [if_pos hu] at hg
            clear he
            rcases hway with rfl | rfl | rfl
            · have HG : Hid (turnsL l = (m : Nat) + tn x 1 (l.drop (j + 1 + 1))) := by
                show _ = _
                rw [hg]
                simp
                skip
              clear hg
              go_wp2
              go_quiet (fail)
              go_wp2
              go_quiet (fail)
              go_wp2
              go_roundw
              case rel => exact ⟨j + 1, m, 1, by omega, by go_num, by go_num, rfl, by decide, by omega, ⟨hkl, by rw [HG.out, HX.out]⟩, Lib.hid ⟨_, rfl⟩⟩
              case measure => first | (simp [intOf]; done) | (simp [intOf]; omega)
            · have HG : Hid (turnsL l = (m : Nat) + tn x 1 (l.drop (j + 1 + 1))) := by
                show _ = _
                rw [hg]
                simp
                skip
              clear hg
              go_wp2
              go_quiet (fail)
              go_wp2
              go_quiet (fail)
              go_wp2
              go_roundw
              case rel => exact ⟨j + 1, m, 1, by omega, by go_num, by go_num, rfl, by decide, by omega, ⟨hkl, by rw [HG.out, HX.out]⟩, Lib.hid ⟨_, rfl⟩⟩
              case measure => first | (simp [intOf]; done) | (simp [intOf]; omega)
            · have HG : Hid (turnsL l = (m + 1 : Nat) + tn x 1 (l.drop (j + 1 + 1))) := by
                show _ = _
                rw [hg]
                simp
                omega
              clear hg
              go_wp2
              go_quiet (fail)
              go_wp2
              go_quiet (fail)
              go_wp2
              go_roundw
              case rel => exact ⟨j + 1, m + 1, 1, by omega, by go_num, by go_num, rfl, by decide, by omega, ⟨hkl, by rw [HG.out, HX.out]⟩, Lib.hid ⟨_, rfl⟩⟩
              case measure => first | (simp [intOf]; done) | (simp [intOf]; omega)
          · rw [if_neg hu] at hg
            have hd : x < p := by omega
            clear he
            rcases hway with rfl | rfl | rfl
            · have HG : Hid (turnsL l = (m : Nat) + tn x (-1) (l.drop (j + 1 + 1))) := by
                show _ = _
                rw [hg]
                simp
                skip
              clear hg
              go_wp2
              go_quiet (fail)
              go_wp2
              go_quiet (fail)
              go_wp2
              go_roundw
              case rel => exact ⟨j + 1, m, (-1), by omega, by go_num, by go_num, rfl, by decide, by omega, ⟨hkl, by rw [HG.out, HX.out]⟩, Lib.hid ⟨_, rfl⟩⟩
              case measure => first | (simp [intOf]; done) | (simp [intOf]; omega)
            · have HG : Hid (turnsL l = (m + 1 : Nat) + tn x (-1) (l.drop (j + 1 + 1))) := by
                show _ = _
                rw [hg]
                simp
                omega
              clear hg
              go_wp2
              go_quiet (fail)
              go_wp2
              go_quiet (fail)
              go_wp2
              go_roundw
              case rel => exact ⟨j + 1, m + 1, (-1), by omega, by go_num, by go_num, rfl, by decide, by omega, ⟨hkl, by rw [HG.out, HX.out]⟩, Lib.hid ⟨_, rfl⟩⟩
              case measure => first | (simp [intOf]; done) | (simp [intOf]; omega)
            · have HG : Hid (turnsL l = (m : Nat) + tn x (-1) (l.drop (j + 1 + 1))) := by
                show _ = _
                rw [hg]
                simp
                skip
              clear hg
              go_wp2
              go_quiet (fail)
              go_wp2
              go_quiet (fail)
              go_wp2
              go_roundw
              case rel => exact ⟨j + 1, m, (-1), by omega, by go_num, by go_num, rfl, by decide, by omega, ⟨hkl, by rw [HG.out, HX.out]⟩, Lib.hid ⟨_, rfl⟩⟩
              case measure => first | (simp [intOf]; done) | (simp [intOf]; omega)
      · have hd : turnsL l = m := by rw [hg, List.drop_eq_nil_of_le (by have := HN.out; omega)]; rfl
        have HD := Lib.hid hd
        clear hd hg
        go_wp2
        rw [Exit.noGoto_ret]
        go_ret
        exact ⟨ret_i (by rw [HD.out]), by repeat (first | exact Below.refl _ _ | apply sub_drewN)⟩
  · have hd : turnsL l = 0 := turnsL_small (by have := HN.out; omega)
    have HD := Lib.hid hd
    clear hd
    go_enter Try.func27, Try.ntmps27
    go_wp2
    go_step3
    go_wp2
    go_step3
    go_wp2
    go_loop [3, 4, 5] (fun t d i => t = .int .i64 0 ∧ i = .int .i64 1 ∧ d = .int .i64 0) (fun _ _ i => 0)
    case atStart => exact ⟨rfl, rfl, rfl⟩
    case round =>
      obtain ⟨rfl, rfl, rfl⟩ := hrel
      go_wp2
      go_ret
      exact ⟨ret_i (by rw [HD.out]; rfl), Below.refl _ _⟩

theorem rturns_any (l : List Adv) (A : Option Addr) (c n : Nat) (w : World) (hr : Reads w w.heap.size 5 A n (advs l)) (hl : n ≤ 100000) :
    Calls Try.prog 31 #[.slice A n c] w fun e w' => e = .returned (.int .i64 (turnsL l)) ∧ w = w' := by
  have hn := adv_len hr
  have HN := Lib.hid hn
  clear hn
  by_cases h0 : 0 < n
  · have h0l : 0 < l.length := by have := HN.out; omega
    go_enter Try.func31, Try.ntmps31
    go_wp2
    go_loop [3, 4, 5, 6] (fun t u d i => ∃ (j m : Nat) (way : Int), j + 1 ≤ n ∧ i = .int .i64 ((j : Int) + 1) ∧ t = .int .i64 m ∧ u = .bool (way == 1) ∧ d = .bool (way == -1) ∧ (way = 0 ∨ way = 1 ∨ way = -1) ∧ m ≤ j ∧ TnAt l j m way) (fun _ _ _ i => n - (intOf i).toNat)
    case atStart => exact ⟨0, 0, 0, by omega, rfl, rfl, rfl, rfl, .inl rfl, by omega, ⟨h0l, by rw [turnsL_eq h0l]; simp⟩⟩
    case round =>
      obtain ⟨j, m, way, hj, rfl, rfl, rfl, rfl, hway, hm, ⟨hjl, hg⟩⟩ := hrel
      by_cases hlt : j + 1 < n
      · have hkl : j + 1 < l.length := by have := HN.out; omega
        obtain ⟨bl, off, rfl, c1, c2⟩ := adv_two hr hkl hjl
        have hs := tn_step (l[j].reps) way hkl
        rw [hs] at hg
        have i2 : (j : Int) < (n : Int) := by omega
        have i3 : (j : Int) + 1 < (n : Int) := by omega
        generalize hx : l[j + 1].reps = x at *
        generalize l[j].reps = p at *
        have HX := Lib.hid hx
        clear hx hs
        by_cases he : x = p
        · rw [if_pos he] at hg
          have h5 : ¬ p < x := by omega
          have h6 : ¬ x < p := by omega
          have HG := Lib.hid hg
          clear hg he
          go_wp2
          go_round
          case rel => exact ⟨j + 1, m, way, by omega, by go_num, rfl, rfl, rfl, hway, by omega, ⟨hkl, by rw [HG.out, HX.out]⟩⟩
          case measure => first | (simp [intOf]; done) | (simp [intOf]; omega)
        · rw [if_neg he] at hg
          by_cases hu : p < x
          · rw [if_pos hu] at hg
            have h6 : ¬ x < p := by omega
            clear he
            rcases hway with rfl | rfl | rfl
            · have HG : Hid (turnsL l = (m : Nat) + tn x 1 (l.drop (j + 1 + 1))) := by
                show _ = _
                rw [hg]
                simp
                skip
              clear hg
              go_wp2
              go_round
              case rel => exact ⟨j + 1, m, 1, by omega, by go_num, by go_num, rfl, rfl, by decide, by omega, ⟨hkl, by rw [HG.out, HX.out]⟩⟩
              case measure => first | (simp [intOf]; done) | (simp [intOf]; omega)
            · have HG : Hid (turnsL l = (m : Nat) + tn x 1 (l.drop (j + 1 + 1))) := by
                show _ = _
                rw [hg]
                simp
                skip
              clear hg
              go_wp2
              go_round
              case rel => exact ⟨j + 1, m, 1, by omega, by go_num, by go_num, rfl, rfl, by decide, by omega, ⟨hkl, by rw [HG.out, HX.out]⟩⟩
              case measure => first | (simp [intOf]; done) | (simp [intOf]; omega)
            · have HG : Hid (turnsL l = (m + 1 : Nat) + tn x 1 (l.drop (j + 1 + 1))) := by
                show _ = _
                rw [hg]
                simp
                omega
              clear hg
              go_wp2
              go_round
              case rel => exact ⟨j + 1, m + 1, 1, by omega, by go_num, by go_num, rfl, rfl, by decide, by omega, ⟨hkl, by rw [HG.out, HX.out]⟩⟩
              case measure => first | (simp [intOf]; done) | (simp [intOf]; omega)
          · rw [if_neg hu] at hg
            have hd : x < p := by omega
            clear he
            rcases hway with rfl | rfl | rfl
            · have HG : Hid (turnsL l = (m : Nat) + tn x (-1) (l.drop (j + 1 + 1))) := by
                show _ = _
                rw [hg]
                simp
                skip
              clear hg
              go_wp2
              go_round
              case rel => exact ⟨j + 1, m, (-1), by omega, by go_num, by go_num, rfl, rfl, by decide, by omega, ⟨hkl, by rw [HG.out, HX.out]⟩⟩
              case measure => first | (simp [intOf]; done) | (simp [intOf]; omega)
            · have HG : Hid (turnsL l = (m + 1 : Nat) + tn x (-1) (l.drop (j + 1 + 1))) := by
                show _ = _
                rw [hg]
                simp
                omega
              clear hg
              go_wp2
              go_round
              case rel => exact ⟨j + 1, m + 1, (-1), by omega, by go_num, by go_num, rfl, rfl, by decide, by omega, ⟨hkl, by rw [HG.out, HX.out]⟩⟩
              case measure => first | (simp [intOf]; done) | (simp [intOf]; omega)
            · have HG : Hid (turnsL l = (m : Nat) + tn x (-1) (l.drop (j + 1 + 1))) := by
                show _ = _
                rw [hg]
                simp
                skip
              clear hg
              go_wp2
              go_round
              case rel => exact ⟨j + 1, m, (-1), by omega, by go_num, by go_num, rfl, rfl, by decide, by omega, ⟨hkl, by rw [HG.out, HX.out]⟩⟩
              case measure => first | (simp [intOf]; done) | (simp [intOf]; omega)
      · have hd : turnsL l = m := by rw [hg, List.drop_eq_nil_of_le (by have := HN.out; omega)]; rfl
        have HD := Lib.hid hd
        clear hd hg
        go_wp2
        go_ret
        exact ⟨ret_i (by rw [HD.out]), rfl⟩
  · have hd : turnsL l = 0 := turnsL_small (by have := HN.out; omega)
    have HD := Lib.hid hd
    clear hd
    go_enter Try.func31, Try.ntmps31
    go_wp2
    go_loop [3, 4, 5, 6] (fun t u d i => t = .int .i64 0 ∧ i = .int .i64 1 ∧ u = .bool false ∧ d = .bool false) (fun _ _ _ i => 0)
    case atStart => exact ⟨rfl, rfl, rfl, rfl⟩
    case round =>
      obtain ⟨rfl, rfl, rfl, rfl⟩ := hrel
      go_wp2
      go_ret
      exact ⟨ret_i (by rw [HD.out]; rfl), rfl⟩
end Go.Proofs.Ytgmgddccdfmiiaa
