/-
  SchedParts: the walk of the law. Condition: none.
-/
import Derived.Test.YtenjhklkljeijaaSchLaws3
import Derived.Test.YtenjhklkljeijaaSchParts
namespace Go.Proofs.Ytenjhklkljeijaa
open Go.RowKit Go.Fw
set_option maxHeartbeats 4000000
set_option maxRecDepth 4000
set_option linter.unusedVariables false
set_option linter.unusedSimpArgs false

theorem schedParts_walk (l : List Toy) (A : Option Addr) (c : Nat) (ps : List Int) (Ap : Option Addr) (cp : Nat) (cut : Int) (w : World) (hr : Reads w w.heap.size 3 A l.length (toyV l)) (hok : ∀ a ∈ l, a.ok) (hlc : l.length ≤ maxLen ∧ l.length ≤ c)
    (hp : Reads w w.heap.size 1 Ap ps.length (i64s ps)) (hsm : Small ps) (hlc2 : ps.length ≤ maxLen ∧ ps.length ≤ cp) (hmo : 0 ≤ cut ∧ cut ≤ 255) :
    Calls Try.prog 5 #[.slice A l.length c, .slice Ap ps.length cp, .int .u8 cut] w fun e w' => e = .returned (.bool true) ∧ Below w.heap.size w w' := by
  have hl := hlc.1
  have hl2 := hlc2.1
  have hpc := hlc2.2
  clear hlc hlc2
  obtain ⟨hmo0, hmo1⟩ := hmo
  obtain ⟨n, hn⟩ : ∃ n, n = l.length := ⟨_, rfl⟩
  obtain ⟨m, hm⟩ : ∃ m, m = ps.length := ⟨_, rfl⟩
  have HN := Lib.hid hn
  have HM := Lib.hid hm
  rw [← hn] at hr hl ⊢
  rw [← hm] at hp hl2 hpc ⊢
  clear hn hm
  cases hfb : fewB l n m with
  | false =>
    have HB := Lib.hid hfb
    clear hfb
    go_enter Try.func5, Try.ntmps5
    go_wp2_with fail
    refine (awake27_any w).mono ?_
    rintro e w1 ⟨rfl, hb⟩
    go_wp2_with fail
    refine (few_any l _ _ _ _ _ m _ (hr.up hb) hl hl2).mono ?_
    rintro e w2 ⟨rfl, hb2⟩
    rw [HB.out]
    have hb3 := sub_trans hb hb2
    go_wp2
    go_ret
    exact ⟨rfl, hb3⟩
  | true =>
    have hts := toysOk hok hfb
    obtain ⟨_, hn12, hm100⟩ := fewB_true hfb
    have HB := Lib.hid hfb
    obtain ⟨k, hk⟩ : ∃ k : Nat, cut % ((m : Int) + 1) = (k : Int) := ⟨(cut % ((m : Int) + 1)).toNat, by have := Int.emod_nonneg cut (show (m : Int) + 1 ≠ 0 by omega); omega⟩
    have hkm : k ≤ m := by have := Int.emod_lt_of_pos cut (show 0 < (m : Int) + 1 by omega); omega
    have hnz : (((m : Int) + 1) == 0) = false := by simp; omega
    obtain ⟨W, hW⟩ : ∃ W, W = runAll 0 l n ps := ⟨_, rfl⟩
    obtain ⟨a, ha⟩ : ∃ a, a = runAll 0 l n (ps.take k) := ⟨_, rfl⟩
    obtain ⟨W1, W2, W3, W4, W5⟩ := runAll_facts (u := 0) (ps := ps) hts HN.out
    obtain ⟨a1, a2, a3, a4, a5⟩ := runAll_facts (u := 0) (ps := ps.take k) hts HN.out
    rw [← hW] at W1 W2 W3 W4 W5
    rw [← ha] at a1 a2 a3 a4 a5
    obtain ⟨b, hbd⟩ : ∃ b, b = runAll (0 + (a.1 : Int)) a.2.2 n (ps.drop k) := ⟨_, rfl⟩
    obtain ⟨b1, b2, b3, b4, b5⟩ := runAll_facts (u := 0 + (a.1 : Int)) (ps := ps.drop k) a1 a3.symm
    rw [← hbd] at b1 b2 b3 b4 b5
    obtain ⟨p1, p2, p3, p4⟩ := parts_all (ps := ps) (k := k) HN.out (by have := HM.out; omega)
    change a = runY 0 l (List.replicate n 0) 0 (ps.take k) at ha
    change W = runY 0 l (List.replicate n 0) 0 ps at hW
    change b = runY (0 + (a.1 : Int)) a.2.2 (List.replicate n 0) 0 (ps.drop k) at hbd
    rw [← ha] at p1 p2 p3
    rw [← hW] at p2 p3 p4
    have p5 : a.1 = k → W.1 = k + b.1 ∧ W.2.1 = addL a.2.1 b.2.1 := fun h => by
      have := p3 h a2 a3
      rw [hbd, h]
      exact this
    have hWl : W.1 ≤ 100 := by have := HM.out; omega
    have hal : a.1 ≤ 100 := by omega
    have hbl : b.1 ≤ 100 := by have := HM.out; simp at b5; omega
    have hsmt : Small (ps.take k) := fun j hj => by rw [List.getElem_take]; exact hsm j (by simp at hj; omega)
    have hsmd : Small (ps.drop k) := fun j hj => by rw [List.getElem_drop]; exact hsm (k + j) (by simp at hj; omega)
    have HW := Lib.hid (show W = runAll 0 l n ps from hW)
    have HA := Lib.hid (show a = runAll 0 l n (ps.take k) from ha)
    have HBB := Lib.hid (show b = runAll (0 + (a.1 : Int)) a.2.2 n (ps.drop k) from hbd)
    have HP2 := Lib.hid p2
    have HP4 := Lib.hid p4
    have HP5 := Lib.hid p5
    have HW2 := Lib.hid W2
    have HA2 := Lib.hid a2
    have HB2 := Lib.hid b2
    have HW4 := Lib.hid W4
    have HA4 := Lib.hid a4
    have HB4 := Lib.hid b4
    clear hfb hW ha hbd W1 W2 W3 W4 W5 a2 a3 a4 a5 b1 b2 b3 b4 b5 p2 p3 p4 p5
    go_enter Try.func5, Try.ntmps5
    go_wp2_with fail
    refine (awake27_any w).mono ?_
    rintro e w1 ⟨rfl, hb⟩
    have hr1 := hr.up hb
    have hp1 := hp.up hb
    go_wp2_with fail
    refine (few_any l _ _ _ _ _ m _ hr1 hl hl2).mono ?_
    rintro e w2 ⟨rfl, hb2⟩
    rw [HB.out]
    have hb3 := sub_trans hb hb2
    have hr2 := hr1.up hb2
    have hp2 := hp1.up hb2
    go_wp2_with fail
    refine (tasks_at l _ _ _ _ hr2 (by omega)).mono ?_
    rintro e w3 ⟨B, d, es, cb, rfl, hb4, hq, hqA, hT, hin⟩
    have hb5 := sub_trans hb3 hb4
    have hr3 := hr2.below hb4
    have hp3 := hp2.below hb4
    have hz3 := hb4.size
    have hz2 := hb3.size
    clear hr hr1 hr2 hb hb2 hp hp1 hp2 hb3
    have hpA : ∀ ad, Ap = some ad → 0 < m → ¬ InT es cb ad.block := fun ad e h0 h => by
      obtain ⟨ad', e', hlt, _⟩ := hp3.2 h0
      rw [e] at e'
      injection e' with e'
      subst e'
      have := hin _ h
      omega
    have hp4 := hp3.more hz3
    go_wp2_with fail
    refine (run_any es l cb 0 ps _ _ _ _ n m _ hT hts hq (fun ad e _ => hqA ad e) hp4 hpA hsm (by omega) (by omega) (by omega)).mono ?_
    rintro e w4 ⟨B4, d4, rfl, hs4, hB4, hT4, hK4⟩
    rw [← HW.out] at hs4 ⊢
    have hz4 := hK4.size
    have hbw4 := hK4.below (B := w2.heap.size) (by omega) (fun k h => hin k h)
    have hb6 := hb5.trans (hbw4.mono hz2)
    have hr4 := (hr3.below hbw4).more (B' := w4.heap.size) (by omega)
    have hp5 := (hp3.below hbw4).more (B' := w4.heap.size) (by omega)
    clear hT hq hp3 hp4 hr3 hb4 hb5 hK4 hB4 hT4 hqA hpA hin hbw4
    generalize stuckB 0 W = sk at *
    have k10 := Blk.new_at w4 31 #[.int .i64 (W.1 : Int), .slice B4 n d4, .bool sk] (g := w4.heap.size) rfl
    have hba := sub_alloc (Below.refl _ w4) (.cells #[.int .i64 (W.1 : Int), .slice B4 n d4, .bool sk] 31)
    have hb7 := sub_trans hb6 hba
    have hr5 := hr4.up hba
    have hp6 := hp5.up hba
    have hs5 := hs4.up hba
    clear hr4 hp5 hs4 hb6 hba
    go_wp2_with fail
    refine (tasks_at l _ _ _ _ hr5 (by omega)).mono ?_
    rintro e w5 ⟨B5, d5, es, cb, rfl, hb8, hq, hqA, hT, hin⟩
    obtain ⟨V, hV⟩ : ∃ V, V = w4.heap.size + 1 := ⟨_, rfl⟩
    have hVs : (w4.alloc (.cells #[.int .i64 (W.1 : Int), .slice B4 n d4, .bool sk] 31)).heap.size = V := by rw [hV]; simp
    rw [hVs] at hb8 hin hr5 hp6 hs5
    have hV4 : w4.heap.size < V := by omega
    have hVw : V ≤ w5.heap.size := by have := hb8.size; rw [hVs] at this; exact this
    have hb9 := hb7.trans (hb8.mono (by have := hb7.size; rw [hVs] at this; exact this))
    have hr6 := hr5.below hb8
    have hp7 := hp6.below hb8
    have hs6 := hs5.below hb8
    have k11 : Blk w5 w4.heap.size 31 #[.int .i64 (W.1 : Int), .slice B4 n d4, .bool sk] := (hb8.block _ hV4).trans k10
    have hwV : w.heap.size ≤ V := by have := hb7.size; rw [hVs] at this; exact this
    have hTl : ∀ j, InT es cb j → j < w5.heap.size := fun j h => hT.in_lt h
    clear hb8 hb7 hr5 hp6 hs5 k10 hVs hV hz4 hz3 hz2
    have hpk := Reads.take hp7 hkm
    have hpA2 : ∀ ad, Ap = some ad → 0 < k → ¬ InT es cb ad.block := fun ad e h0 h => by
      obtain ⟨ad', e', hlt, _⟩ := hp7.2 (by omega)
      rw [e] at e'
      injection e' with e'
      subst e'
      have := hin _ h
      omega
    have htk : (i64s ps).take k = i64s (ps.take k) := by simp [i64s, List.map_take]
    rw [htk] at hpk
    have hk2 : k ≤ cp := by omega
    go_wp2_with fail
    refine (run_any es l cb 0 (ps.take k) _ _ _ _ n k _ hT hts hq (fun ad e _ => hqA ad e) (hpk.more hVw) hpA2 hsmt (by omega) (by omega) (by omega)).mono ?_
    rintro e w6 ⟨B6, d6, rfl, hs7, hB6, hT6, hK6⟩
    rw [← HA.out] at hs7 hT6 ⊢
    have hbv6 := hK6.below (B := V) hVw (fun k h => hin k h)
    have hb10 := hb9.trans (hbv6.mono hwV)
    have hz6 := hK6.size
    have k12 : Blk w6 w4.heap.size 31 #[.int .i64 (W.1 : Int), .slice B4 n d4, .bool sk] := (hbv6.block _ hV4).trans k11
    have hr7 := hr6.below hbv6
    have hp8 := hp7.below hbv6
    have hs8 := hs6.below hbv6
    have hq6 := (hK6.reads hq (Nat.le_refl _) (fun ad e _ => hqA ad e)).more (B' := w6.heap.size) hz6
    generalize stuckB 0 a = sa at *
    have k13 := Blk.new_at w6 31 #[.int .i64 (a.1 : Int), .slice B6 n d6, .bool sa] (g := w6.heap.size) rfl
    have hbc := sub_alloc (Below.refl _ w6) (.cells #[.int .i64 (a.1 : Int), .slice B6 n d6, .bool sa] 31)
    have hb11 := hb10.trans (hbc.mono (by omega))
    have hT7 := hT6.keep hbc
    have k14 := k12.later hbc
    have hq7 := hq6.up hbc
    have hs9 := hs7.up hbc
    have hr8 := hr7.below (hbc.mono (by omega))
    have hp9 := hp8.below (hbc.mono (by omega))
    have hs10 := hs8.below (hbc.mono (by omega))
    have hz7 := hbc.size
    have hrunb : ∀ (Ap' : Option Addr) (c' : Nat), (0 < m - k → Ap' = Option.map (fun x => x.add k) Ap) →
        Calls Try.prog 10 #[.slice B5 n d5, .slice Ap' (m - k) c'] (w6.alloc (.cells #[.int .i64 (a.1 : Int), .slice B6 n d6, .bool sa] 31)) fun e w' => ∃ B d, e = .returned (.agg #[.int .i64 (b.1 : Int), .slice B n d, .bool (stuckB (0 + (a.1 : Int)) b)]) ∧
          Reads w' w'.heap.size 1 B n (i64s b.2.1) ∧ (∀ ad, B = some ad → (w6.alloc (.cells #[.int .i64 (a.1 : Int), .slice B6 n d6, .bool sa] 31)).heap.size ≤ ad.block) ∧ Keep (InT es cb) (w6.alloc (.cells #[.int .i64 (a.1 : Int), .slice B6 n d6, .bool sa] 31)) w' := by
      intro Ap' c' hAp
      have hpd : Reads (w6.alloc (.cells #[.int .i64 (a.1 : Int), .slice B6 n d6, .bool sa] 31)) V 1 Ap' (m - k) (i64s (ps.drop k)) := by
        by_cases h0 : 0 < m - k
        · rw [hAp h0]
          have := hp9.tail (k := k) (by omega)
          simpa [i64s] using this
        · refine ⟨by rw [i64s_length, List.length_drop]; have := HM.out; omega, fun h => absurd h h0⟩
      refine (run_any es a.2.2 cb (0 + (a.1 : Int)) (ps.drop k) _ _ _ _ n (m - k) _ hT7 a1 hq7 (fun ad e _ => hqA ad e) (hpd.more (by omega)) (fun ad e h0 h => ?_) hsmd (by omega) (by omega) (by omega)).mono ?_
      · obtain ⟨ad', e', hlt, _⟩ := hpd.2 h0
        rw [e] at e'
        injection e' with e'
        subst e'
        have := hin _ h
        omega
      · rintro e w7 ⟨B, d, he, h1, h2, _, h4⟩
        rw [← HBB.out] at he h1
        exact ⟨B, d, he, h1, h2, h4⟩
    clear hr6 hp7 hs6 hq hT6 hK6 k11 k12 hq6 hs7 hr7 hp8 hs8 hb9 hb10 hbv6 hpk htk hT hT7
    have hck : cp = k ∨ ¬ cp = k := by omega
    rcases hck with hck | hck
    all_goals
      go_wp2_with fail
      have HCK := Lib.hid hck
      clear hck
      refine (hrunb _ _ (fun h => by first | rfl | (exfalso; have := HCK.out; omega))).mono ?_
      rintro e w7 ⟨B7, d7, rfl, hs11, hB7, hK7⟩
      have hbv7 := hK7.below (B := V) (by omega) (fun k h => hin k h)
      have hz8 := hK7.size
      have hb12 := hb11.trans (hbv7.mono hwV)
      have k15 : Blk w7 w4.heap.size 31 #[.int .i64 (W.1 : Int), .slice B4 n d4, .bool sk] := (hbv7.block _ hV4).trans k14
      have k16 := hK7.blk k13 (fun h => by have := hTl _ h; omega)
      have hs12 := (hK7.reads hs9 (Nat.le_refl _) (fun ad e _ h => by have := hB6 ad e; have := hTl _ h; omega)).more (B' := w7.heap.size) hz8
      have hs13 := (hs10.below hbv7).more (B' := w7.heap.size) (by omega)
      generalize stuckB (0 + (a.1 : Int)) b = sb at *
      have k17 := Blk.new_at w7 31 #[.int .i64 (b.1 : Int), .slice B7 n d7, .bool sb] (g := w7.heap.size) rfl
      have hbe := sub_alloc (Below.refl _ w7) (.cells #[.int .i64 (b.1 : Int), .slice B7 n d7, .bool sb] 31)
      have hb13 := hb12.trans (hbe.mono (by omega))
      have k18 := k15.later hbe
      have k19 := k16.later hbe
      have hsA := hs12.up hbe
      have hsW := hs13.up hbe
      have hsB := hs11.up hbe
      have x0 := k18.cell 0
      have x1 := k18.cell 1
      have y0 := k19.cell 0
      have y1 := k19.cell 1
      have z0 := k17.cell 0
      have z1 := k17.cell 1
      generalize hW8 : w7.alloc (.cells #[.int .i64 (b.1 : Int), .slice B7 n d7, .bool sb] 31) = w8 at *
      have HW8 := Lib.hid hW8
      simp at x0 x1 y0 y1 z0 z1
      clear hrunb hbv7 hz8 hb12 k15 k16 hs12 hs13 k17 hbe k18 k19 hs11 hK7 k13 k14 hs9 hs10 hq7 hr8 hp9 hbc hb11
      by_cases hak : a.1 < k
      · have hw := HP2.out hak
        have HWE : Hid (((W.1 : Int) == (a.1 : Int)) = true) := by show _ = _; rw [hw]; simp
        have hI : (a.1 : Int) < (k : Int) := by omega
        have hWE := HWE.out
        clear hw HWE
        go_wp2
        go_ret
        exact ⟨rfl, hb13⟩
      · have hake : a.1 = k := by omega
        obtain ⟨hw1, hw2⟩ := HP5.out hake
        have hI : ¬ (a.1 : Int) < (k : Int) := by omega
        have hWI : (W.1 : Int) = (a.1 : Int) + (b.1 : Int) := by omega
        have HWI := Lib.hid hWI
        have HW22 := Lib.hid hw2
        have hnn : ((n : Int) != (n : Int)) = false := by simp
        clear hake hw1 hw2 hWI hak
        go_wp2_with fail
        go_loopw [15, 87] (fun s i wr => ∃ (j : Nat), j ≤ n ∧ i = .int .i64 j ∧ s = .int .i64 (sumL (W.2.1.take j)) ∧ Hid (∃ q, wr = w8.drewN q)) (fun _ i _ => n - (intOf i).toNat)
        case atStart => exact ⟨0, by omega, rfl, by simp [sumL], Lib.hid ⟨0, rfl⟩⟩
        case round =>
          obtain ⟨j, hj, rfl, rfl, HQ⟩ := hrel
          obtain ⟨q, rfl⟩ := HQ.out
          clear HQ
          by_cases hlt : j < n
          · have hjw : j < W.2.1.length := by have := HW2.out; omega
            have hja : j < a.2.1.length := by have := HA2.out; omega
            have hjb : j < b.2.1.length := by have := HB2.out; omega
            obtain ⟨adw, uw, rfl, _, hxw, hcw⟩ := hsW.at_ hlt
            obtain ⟨ada, ua, rfl, _, hxa, hca⟩ := hsA.at_ hlt
            obtain ⟨adb, ub, rfl, _, hxb, hcb⟩ := hsB.at_ hlt
            obtain rfl := i64s_get hxw hjw
            obtain rfl := i64s_get hxa hja
            obtain rfl := i64s_get hxb hjb
            have hsum := sumL_take hjw
            have e1 : W.2.1[j] = a.2.1[j] + b.2.1[j] := by
              have e := HW22.out
              have hl : j < (addL a.2.1 b.2.1).length := by rw [← e]; exact hjw
              have := addL_get hl hja hjb
              rw [← this]
              congr 1
            have g1 := HW4.out _ (List.getElem_mem hjw)
            have g2 := HA4.out _ (List.getElem_mem hja)
            have g3 := HB4.out _ (List.getElem_mem hjb)
            have g4 : 0 ≤ sumL (W.2.1.take j) ∧ sumL (W.2.1.take j) ≤ 100 * (j : Int) := by
              have hx : ∀ (i : Nat), i ≤ W.2.1.length → 0 ≤ sumL (W.2.1.take i) ∧ sumL (W.2.1.take i) ≤ 100 * (i : Int) := by
                intro i
                induction i with
                | zero => intro _; simp [sumL]
                | succ i ih =>
                  intro hi
                  have h1 := ih (by omega)
                  have h2 := HW4.out _ (List.getElem_mem (show i < W.2.1.length by omega))
                  rw [sumL_take (by omega)]
                  omega
              exact hx j (by omega)
            rw [e1] at hcw hsum
            obtain ⟨s0, s1⟩ := g2
            obtain ⟨t0, t1⟩ := g3
            obtain ⟨v0, v1⟩ := g4
            generalize a.2.1[j] = sa1 at *
            generalize b.2.1[j] = sb1 at *
            have HSUM := Lib.hid hsum
            have v2 : sumL (W.2.1.take j) ≤ 1200 := by omega
            generalize sumL (W.2.1.take j) = S at *
            have hneq : ((sa1 + sb1) != (sa1 + sb1)) = false := by simp
            have hj2 : (j : Int) < (n : Int) := by omega
            have s2 : sa1 ≤ 100 := by omega
            have t2 : sb1 ≤ 100 := by omega
            clear hxw hxa hxb e1 hsum g1 s1 t1 v1
            go_wp2
            go_quiet (fail)
            go_wp2
            go_roundw
            case rel => exact ⟨j + 1, by omega, by go_num, by rw [HSUM.out], Lib.hid ⟨_, rfl⟩⟩
            case measure => simp [intOf]; omega
          · have hjn : j = n := by omega
            have e1 : W.2.1.take j = W.2.1 := List.take_of_length_le (by have := HW2.out; omega)
            have e2 : sumL (W.2.1.take j) = (a.1 : Int) + (b.1 : Int) := by rw [e1, HP4.out, HWI.out]
            rw [e2]
            have hx0 : w8.cell? ⟨w4.heap.size, 0, none⟩ = some (.int .i64 ((a.1 : Int) + (b.1 : Int))) := by rw [← HWI.out]; exact x0
            have hbf := sub_drewN hb13 q
            clear e1 e2 hjn x0
            go_wp2
            go_ret
            exact ⟨rfl, by repeat (first | exact hb13 | apply sub_drewN)⟩
end Go.Proofs.Ytenjhklkljeijaa
