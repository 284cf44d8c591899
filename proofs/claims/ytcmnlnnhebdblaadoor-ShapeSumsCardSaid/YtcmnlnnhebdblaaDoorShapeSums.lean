/-
  ShapeSums walked (chapter 54). Conditions: strconv's table and errors lie in memory, and a number in internal/bytealg.MaxLen.
-/
import Derived.Test.YtcmnlnnhebdblaaDoorShAwake
import Derived.Test.YtcmnlnnhebdblaaDoorShSum
import Derived.Test.YtcmnlnnhebdblaaDoorBranch
import Derived.Deep.DeepCutAuto
namespace Go.Proofs.YtcmnlnnhebdblaaDoor
open Go.RowKit Go.Fw
set_option maxHeartbeats 2000000
set_option maxRecDepth 100000
set_option linter.unusedVariables false
set_option linter.unusedSimpArgs false
theorem smp_neq (x y : Int) (w : World) : (binOp .neq 39 (.agg #[.int .i64 x, .int .i64 y]) (.agg #[.int .i64 x, .int .i64 y])).run Tryd.prog w = .ok (.bool false) w := by
  have hp : Tryd.prog.stoodInHeld 39 = false := by kernel_rfl
  rw [run_neq_struct, run_equalIn_agg w 9999 39 _ _ (by simp only [Program.fieldsOf, Tryd.underlying39]) hp]
  simp only [Program.fieldsOf, Tryd.underlying39]
  simp [Op.eqFields, go_sem, Tryd.underlying2]
theorem elemSh : ElemS Tryd.prog 35 28 (.agg #[.int .i64 0, .int .i64 0, .int .i64 0, .int .i64 0, .int .i64 0]) 5 40 := ⟨Tryd.underlying35, by kernel_rfl, rfl⟩
theorem shsums_long (n : Nat) (A : Option Addr) (c : Nat) (f m : Int) (w : World) (hR : Ready w) (h : 8 < n) (hn : n ≤ maxLen) :
    Calls Tryd.prog 4 #[.slice A n c, .int .i64 f, .int .i64 m] w fun x w' => x = .returned (.bool true) ∧ Below w.heap.size w w' := by
  unfold maxLen at hn
  have hI : (8 : Int) < (n : Int) := by omega
  have HR := Lib.hid hR
  clear hR
  go_enter Tryd.func4, Tryd.ntmps4
  go_wp2_with fail
  refine (sh_awake _ HR.out).mono ?_
  rintro x w1 ⟨rfl, hb⟩
  go_wp2
  go_ret
  exact ⟨rfl, hb⟩
theorem shsums_few (l : List Adv) (A : Option Addr) (c n : Nat) (f m : Int) (w : World) (hR : Ready w) (hr : Reads w w.heap.size 5 A n (advs l)) (hok : ∀ s ∈ l, s.ok) (hf : In64 f) (hm : In64 m) (hl : n ≤ 8) :
    Calls Tryd.prog 4 #[.slice A n c, .int .i64 f, .int .i64 m] w fun x w' => x = .returned (.bool true) ∧ Below w.heap.size w w' := by
  have HN := Lib.hid (adv_len hr)
  have hI : ¬ (8 : Int) < (n : Int) := by omega
  have HRD := Lib.hid hR
  have HR := Lib.hid hr
  have HOK := Lib.hid hok
  have HF := Lib.hid hf
  have HM := Lib.hid hm
  clear hR hr hok hf
  unfold In64 at hm
  go_enter Tryd.func4, Tryd.ntmps4
  go_wp2_with fail
  refine (sh_awake _ HRD.out).mono ?_
  rintro x w1 ⟨rfl, hb1⟩
  have HR1 := Lib.hid (HR.out.up hb1)
  clear HR HRD
  go_wp2
  go_loopw [7, 24] (fun v i wr => ∃ (k : Nat), k ≤ n ∧ i = .int .i64 k ∧ MineS 5 w1 wr 28 v k (advs (l.take k))) (fun _ i _ => n - (intOf i).toNat)
  case atStart => exact ⟨0, by omega, rfl, MineS.nil_ 5 w1 _⟩
  case round =>
    obtain ⟨k, hk, rfl, hmn⟩ := hrel
    by_cases hlt : k < n
    · have hkl : k < l.length := by have := HN.out; omega
      have HS : Hid (l.take (k + 1) = l.take k ++ [l[k]]) := Lib.hid (List.take_succ_eq_append_getElem hkl)
      obtain ⟨bl, off, rfl, hbl, h0, h1, h2, h3, h4⟩ := adv_at (HR1.out.up hmn.below) hkl
      generalize l[k] = s at *
      have hmn := hmn.alloc (.cells #[.int .i64 s.tick, .int .i64 s.load, .int .i64 s.want, .int .i64 s.reps, .int .i64 s.why] 23)
      have e : advs (l.take k) ++ [.int .i64 s.tick, .int .i64 s.load, .int .i64 s.want, .int .i64 s.reps, .int .i64 s.why] = advs (l.take (k + 1)) := by rw [HS.out, ← advs_snoc]; rfl
      have HE := Lib.hid e
      clear e HS
      go_wp2_with (at_builtin; refine wpList_append_oneG elemSh (by decide) rfl (.tmp 28) (.tmp 30) rfl rfl hmn.own hmn.le (by simp) rfl rfl (by simp [Value.oneCell']) (by omega) (by unfold maxLen; omega) ?_; intro v' w' ho' hg')
      go_roundw
      case rel => exact ⟨k + 1, by omega, by go_num, by rw [← HE.out]; exact hmn.app hg' ho'⟩
      case measure => simp [intOf]; omega
    · obtain rfl : n = k := by omega
      rw [List.take_of_length_le (by have := HN.out; omega)] at hmn
      have hb2 := sub_trans hb1 hmn.below
      obtain ⟨A2, c2, rfl, hc2, hc3, hr2⟩ := hmn.form
      have HR2 := Lib.hid hr2
      clear hmn hr2 hb1 hc2 hc3
      go_wp2_with fail
      refine (samples_any l A2 c2 n f m _ HR2.out (by omega) HOK.out HF.out).mono ?_
      rintro x w3 ⟨v, rfl, hm3⟩
      have hb3 := sub_trans hb2 hm3.below
      have HR3 := Lib.hid (HR2.out.up hm3.below)
      obtain ⟨A3, c3, rfl, _, _, hr3⟩ := hm3.form
      have HG3 := Lib.hid hr3
      have hN : manyN m ≤ 256 := by unfold manyN; omega
      have hcase : (m ≤ 0 ∧ manyN m = 0) ∨ (0 < m ∧ m ≤ 256 ∧ (manyN m : Int) = m) ∨ (256 < m ∧ manyN m = 256) := by unfold manyN; omega
      have HC := Lib.hid hcase
      have HSL := Lib.hid (smpsN_length l f (manyN m))
      clear hm3 hr3 hcase HR1 HR2
      generalize manyN m = N at *
      go_upto_if 42 with fail
      go_cut [10] (fun g wx => g = .slice A3 N c3 ∧ w3 = wx)
      case first =>
        rcases HC.out with ⟨h1, h2⟩ | ⟨h1, h2, h3⟩ | ⟨h1, h2⟩
        · subst h2
          go_wp2
          go_meet
          exact ⟨rfl, rfl⟩
        · have h4 : (N : Int) ≤ 256 := by omega
          have h5 : 0 < (N : Int) := by omega
          subst h3
          go_wp2
          go_meet
          exact ⟨rfl, rfl⟩
        · subst h2
          go_wp2
          go_meet
          exact ⟨rfl, rfl⟩
      case rest =>
        obtain ⟨rfl, rfl⟩ := hcut
        have HNE := Lib.hid (fun x y W => smp_neq x y W)
        go_wp2
        go_loopw [45] (fun i wr => ∃ (k : Nat), k ≤ N ∧ i = .int .i64 k ∧ Below w.heap.size w wr ∧ Below w3.heap.size w3 wr) (fun i _ => N - (intOf i).toNat)
        case atStart => exact ⟨0, by omega, rfl, hb3, Below.refl _ _⟩
        case round =>
          obtain ⟨k, hk, rfl, hbw, hb4⟩ := hrel
          by_cases hlt : k < N
          · have hkl : k < (smpsN l f N).length := by have := HSL.out; omega
            obtain ⟨bl, off, rfl, hbl, h0, h1⟩ := smp_at (HG3.out.up hb4) hkl
            rw [smpsN_get] at h0 h1
            have HT : Hid (In64 (tickAt f k)) := Lib.hid (sat_in _)
            have HTK := Lib.hid (fun W => tick_any f k W HF.out (by omega))
            have HSS : Hid (sumN (l.take n) (tickAt f k) = sumN l (tickAt f k)) := Lib.hid (by rw [List.take_of_length_le (by have := HN.out; omega)])
            have HG := Lib.hid (Blk.new_at wr 39 #[.int .i64 (tickAt f k), .int .i64 (sumN l (tickAt f k))] (g := wr.heap.size) rfl)
            have HBA := Lib.hid (And.intro (sub_alloc hbw (.cells #[.int .i64 (tickAt f k), .int .i64 (sumN l (tickAt f k))] 39)) (sub_alloc hb4 (.cells #[.int .i64 (tickAt f k), .int .i64 (sumN l (tickAt f k))] 39)))
            unfold smpAt at h0 h1
            simp only at h0 h1
            generalize tickAt f k = tk at *
            by_cases h40 : 40 < (k : Int) ∧ (k : Int) < (N : Int) - 3
            · obtain ⟨h41, h42⟩ := h40
              go_wp2
              go_roundw
              case rel => exact ⟨k + 1, by omega, by go_num, HBA.out.1, HBA.out.2⟩
              case measure => simp [intOf]; omega
            · have h41 : ¬ 40 < (k : Int) ∨ (40 < (k : Int) ∧ ¬ (k : Int) < (N : Int) - 3) := by omega
              clear h40
              rcases h41 with h41 | ⟨h41, h42⟩
              all_goals
                go_wp2_with fail
                refine (HTK.out _).mono ?_
                rintro x w4 ⟨rfl, rfl⟩
                clear h0 h1
                go_wp2
                generalize hsv : sumN l tk = sv at *
                have HSV := Lib.hid hsv
                clear hsv
                generalize wr.alloc (.cells #[.int .i64 tk, .int .i64 sv] 39) = wA at *
                go_loopw [14, 64] (fun v i wq => ∃ (j : Nat), j ≤ n ∧ i = .int .i64 j ∧ v = .int .i64 (sumN (l.take j) tk) ∧ Below wA.heap.size wA wq) (fun _ i _ => n - (intOf i).toNat)
                case atStart => exact ⟨0, by omega, rfl, rfl, Below.refl _ _⟩
                case round =>
                  obtain ⟨j, hj, rfl, rfl, hbq⟩ := hrel
                  by_cases hjt : j < n
                  · have hjl : j < l.length := by have := HN.out; omega
                    have HS := Lib.hid (sumN_snoc tk hjl)
                    have HO : Hid (l[j].ok) := Lib.hid (HOK.out _ (List.getElem_mem hjl))
                    have HI := Lib.hid (sumN_in (l.take j) tk)
                    obtain ⟨bl2, off2, rfl, _, h0, h1, h2, h3, h4⟩ := adv_at (HR3.out.up (sub_trans HBA.out.2 hbq)) hjl
                    generalize sumN (l.take j) tk = acc at *
                    generalize l[j] = s at *
                    go_wp2_with fail
                    refine (at_any s.tick s.load s.want s.reps s.why tk (ok5 HO.out) _ HT.out).mono ?_
                    rintro x w5 ⟨rfl, hb5⟩
                    have hb6 := sub_trans (sub_alloc hbq _) hb5
                    clear hb5 hbq h0 h1 h2 h3 h4
                    have HA := Lib.hid (show In64 (atN s.tick s.load s.want s.reps s.why tk) from atA_in tk HO.out)
                    have HAE : Hid (atN s.tick s.load s.want s.reps s.why tk = atA s tk) := Lib.hid rfl
                    generalize atN s.tick s.load s.want s.reps s.why tk = av at *
                    go_wp2_with fail
                    refine (radd_any acc av _ HI.out HA.out).mono ?_
                    rintro x w6 ⟨rfl, rfl⟩
                    go_wp2
                    go_roundw
                    case rel => exact ⟨j + 1, by omega, by go_num, by rw [HS.out, ← HAE.out], hb6⟩
                    case measure => simp [intOf]; omega
                  · obtain rfl : n = j := by omega
                    rw [HSS.out]
                    have HBQ := Lib.hid (HG.out.later hbq)
                    have HW := Lib.hid (And.intro (sub_trans HBA.out.1 hbq) (sub_trans HBA.out.2 hbq))
                    have hS := (Below.refl wr.heap.size wr).drew
                    go_wp2
                    refine any_start (S := fun W => Below wr.heap.size wr W) (by kernel_rfl) hS ?_
                    generalize wr.drew = wd at *
                    simp only [List.length_cons, List.length_nil, Nat.reduceAdd, List.size_toArray]
                    refine any_pure 0 (v := ?_) rfl (by kernel_rfl) (by intro _ _ _ h; exact h) (by assumption) (by rfl) (fun W hW => ?_) ?_
                    rotate_left
                    · have c0 := (HBQ.out.later hW).cell 0; have c1 := (HBQ.out.later hW).cell 1; simp at c0 c1; first | (go_simp; done) | (go_simp; with_reducible rfl)
                    try simp only [Act.put, List.setIfInBounds_toArray, List.set_cons_zero, List.set_cons_succ]
                    refine any_pure 1 (v := ?_) rfl (by kernel_rfl) (by intro _ _ _ h; exact h) (by assumption) (by rfl) (fun W hW => ?_) ?_
                    rotate_left
                    · first | (go_simp; done) | (go_simp; with_reducible rfl)
                    try simp only [Act.put, List.setIfInBounds_toArray, List.set_cons_zero, List.set_cons_succ]
                    refine any_pure 2 (v := ?_) rfl (by kernel_rfl) (by intro _ _ _ h; exact h) (by assumption) (by rfl) (fun W hW => ?_) ?_
                    rotate_left
                    · first | (go_simp; done) | (go_simp; with_reducible rfl)
                    try simp only [Act.put, List.setIfInBounds_toArray, List.set_cons_zero, List.set_cons_succ]
                    refine any_one 3 (by kernel_rfl) rfl (by rfl) (fun K hK => ?_)
                    go_simp
                    refine (sample_any tk sv _).mono ?_
                    rintro x w7 ⟨rfl, hb7⟩
                    replace hS := sub_trans hS hb7
                    refine hK _ _ hS ?_
                    clear hK hb7
                    try simp only [Act.put, List.setIfInBounds_toArray, List.set_cons_zero, List.set_cons_succ]
                    refine any_pure 4 (v := ?_) rfl (by kernel_rfl) (by intro _ _ _ h; exact h) (by assumption) (by rfl) (fun W hW => ?_) ?_
                    rotate_left
                    · have hn0 := HNE.out tk sv; first | (go_simp; done) | (go_simp; with_reducible rfl)
                    try simp only [Act.put, List.setIfInBounds_toArray, List.set_cons_zero, List.set_cons_succ]
                    refine any_pure 5 (v := ?_) rfl (by kernel_rfl) (by intro _ _ _ h; exact h) (by assumption) (by rfl) (fun W hW => ?_) ?_
                    rotate_left
                    · first | (go_simp; done) | (go_simp; with_reducible rfl)
                    try simp only [Act.put, List.setIfInBounds_toArray, List.set_cons_zero, List.set_cons_succ]
                    refine any_pure 6 (v := ?_) rfl (by kernel_rfl) (by intro _ _ _ h; exact h) (by assumption) (by rfl) (fun W hW => ?_) ?_
                    rotate_left
                    · first | (go_simp; done) | (go_simp; with_reducible rfl)
                    try simp only [Act.put, List.setIfInBounds_toArray, List.set_cons_zero, List.set_cons_succ]
                    refine any_pure 7 (v := ?_) rfl (by kernel_rfl) (by intro _ _ _ h; exact h) (by assumption) (by rfl) (fun W hW => ?_) ?_
                    rotate_left
                    · first | (go_simp; done) | (go_simp; with_reducible rfl)
                    try simp only [Act.put, List.setIfInBounds_toArray, List.set_cons_zero, List.set_cons_succ]
                    refine any_pure 9 (v := ?_) rfl (by kernel_rfl) (by intro _ _ _ h; exact h) (by assumption) (by rfl) (fun W hW => ?_) ?_
                    rotate_left
                    · first | (go_simp; done) | (go_simp; with_reducible rfl)
                    try simp only [Act.put, List.setIfInBounds_toArray, List.set_cons_zero, List.set_cons_succ]
                    refine any_one 8 (by kernel_rfl) rfl (by rfl) (fun K hK => ?_)
                    go_simp
                    refine (sum_any l A2 c2 n tk _ (HR3.out.up (sub_trans HW.out.2 hS)) (by omega) HOK.out HT.out).mono ?_
                    rintro x w8 ⟨rfl, hb8⟩
                    rw [HSV.out]
                    replace hS := sub_trans hS hb8
                    refine hK _ _ hS ?_
                    clear hK hb8
                    try simp only [Act.put, List.setIfInBounds_toArray, List.set_cons_zero, List.set_cons_succ]
                    refine any_pure 10 (v := ?_) rfl (by kernel_rfl) (by intro _ _ _ h; exact h) (by assumption) (by rfl) (fun W hW => ?_) ?_
                    rotate_left
                    · first | (go_simp; done) | (go_simp; with_reducible rfl)
                    try simp only [Act.put, List.setIfInBounds_toArray, List.set_cons_zero, List.set_cons_succ]
                    refine any_pure 11 (v := ?_) rfl (by kernel_rfl) (by intro _ _ _ h; exact h) (by assumption) (by rfl) (fun W hW => ?_) ?_
                    rotate_left
                    · first | (go_simp; done) | (go_simp; with_reducible rfl)
                    try simp only [Act.put, List.setIfInBounds_toArray, List.set_cons_zero, List.set_cons_succ]
                    refine any_done (by kernel_rfl) ?_
                    go_wp2
                    go_roundw
                    case rel => exact ⟨k + 1, by omega, by go_num, sub_trans HW.out.1 hS, sub_trans HW.out.2 hS⟩
                    case measure => simp [intOf]; omega
          · go_wp2
            go_ret
            exact ⟨rfl, hbw⟩
theorem shapeSums_walk (l : List Adv) (A : Option Addr) (c : Nat) (f m : Int) (w : World) (hR : Ready w) (hr : Reads w w.heap.size 5 A l.length (advs l)) (hok : ∀ s ∈ l, s.ok) (hl : l.length ≤ maxLen ∧ l.length ≤ c) (hf : In64 f) (hm : In64 m) :
    Calls Tryd.prog 4 #[.slice A l.length c, .int .i64 f, .int .i64 m] w fun x w' => x = .returned (.bool true) ∧ Below w.heap.size w w' := by
  by_cases h : 8 < l.length
  · exact shsums_long _ A c f m w hR h hl.1
  · exact shsums_few l A c _ f m w hR hr hok hf hm (by omega)
end Go.Proofs.YtcmnlnnhebdblaaDoor
