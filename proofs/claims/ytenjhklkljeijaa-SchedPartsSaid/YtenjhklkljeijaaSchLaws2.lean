/-
  SchedRuns: the walk of the law. Condition: none.
-/
import Derived.Test.YtenjhklkljeijaaSchLaws
namespace Go.Proofs.Ytenjhklkljeijaa
open Go.RowKit Go.Fw
set_option maxHeartbeats 2000000
set_option maxRecDepth 4000
set_option linter.unusedVariables false
set_option linter.unusedSimpArgs false

theorem small_steps {st : List Int} {n : Nat} (h : ∀ x ∈ st, 0 ≤ x ∧ x ≤ (n : Int)) (hn : n ≤ 1000) : Small st := fun k hk => by have := h _ (List.getElem_mem hk); omega
theorem schedRuns_walk (l : List Toy) (A : Option Addr) (c : Nat) (ps : List Int) (Ap : Option Addr) (cp : Nat) (w : World) (hr : Reads w w.heap.size 3 A l.length (toyV l)) (hok : ∀ a ∈ l, a.ok) (hlc : l.length ≤ maxLen ∧ l.length ≤ c)
    (hp : Reads w w.heap.size 1 Ap ps.length (i64s ps)) (hsm : Small ps) (hlc2 : ps.length ≤ maxLen ∧ ps.length ≤ cp) :
    Calls Try.prog 3 #[.slice A l.length c, .slice Ap ps.length cp] w fun e w' => e = .returned (.bool true) ∧ Below w.heap.size w w' := by
  have hl := hlc.1
  have hl2 := hlc2.1
  clear hlc hlc2
  obtain ⟨n, hn⟩ : ∃ n, n = l.length := ⟨_, rfl⟩
  obtain ⟨m, hm⟩ : ∃ m, m = ps.length := ⟨_, rfl⟩
  have HN := Lib.hid hn
  have HM := Lib.hid hm
  rw [← hn] at hr hl ⊢
  rw [← hm] at hp hl2 ⊢
  clear hn hm
  cases hfb : fewB l n m with
  | false =>
    have HB := Lib.hid hfb
    clear hfb
    go_enter Try.func3, Try.ntmps3
    go_wp2_with fail
    refine (awake27_any w).mono ?_
    rintro e w1 ⟨rfl, hb⟩
    go_wp2_with fail
    refine (few_any l _ _ _ _ _ m _ (hr.up hb) hl hl2).mono ?_
    rintro e w2 ⟨rfl, hb2⟩
    rw [HB.out]
    have hb3 := sub_trans hb hb2
    go_wp2
    go_ret
    exact ⟨rfl, hb3⟩
  | true =>
    have hts := toysOk hok hfb
    obtain ⟨_, hn12, hm100⟩ := fewB_true hfb
    have HB := Lib.hid hfb
    obtain ⟨res, hres⟩ : ∃ res, res = runAll 0 l n ps := ⟨_, rfl⟩
    obtain ⟨q1, q2, q3, q4, q5⟩ := runAll_facts (u := 0) (ps := ps) hts HN.out
    rw [← hres] at q1 q2 q3 q4 q5
    have HR := Lib.hid hres
    have hsmr := small_steps q4 (by have := HM.out; omega)
    have HQ2 := Lib.hid q2
    have HQ3 := Lib.hid q3
    have hq5 : res.1 ≤ 100 := by have := HM.out; omega
    clear hfb hres q2 q3 q4 q5
    go_enter Try.func3, Try.ntmps3
    go_wp2_with fail
    refine (awake27_any w).mono ?_
    rintro e w1 ⟨rfl, hb⟩
    have hr1 := hr.up hb
    have hp1 := hp.up hb
    go_wp2_with fail
    refine (few_any l _ _ _ _ _ m _ hr1 hl hl2).mono ?_
    rintro e w2 ⟨rfl, hb2⟩
    rw [HB.out]
    have hb3 := sub_trans hb hb2
    have hr2 := hr1.up hb2
    have hp2 := hp1.up hb2
    go_wp2_with fail
    refine (tasks_at l _ _ _ _ hr2 (by omega)).mono ?_
    rintro e w3 ⟨B, d, es, cb, rfl, hb4, hq, hqA, hT, hin⟩
    have hb5 := sub_trans hb3 hb4
    have hr3 := hr2.below hb4
    have hp3 := hp2.below hb4
    have hz3 := hb4.size
    have hz2 := hb3.size
    clear hr hr1 hr2 hb hb2 hp hp1 hp2 hb3
    have hpA : ∀ ad, Ap = some ad → 0 < m → ¬ InT es cb ad.block := fun ad e h0 h => by
      obtain ⟨ad', e', hlt, _⟩ := hp3.2 h0
      rw [e] at e'
      injection e' with e'
      subst e'
      have := hin _ h
      omega
    have hp4 := hp3.more hz3
    have hr4 := hr3.more hz3
    go_wp2_with fail
    refine (run_any es l cb 0 ps _ _ _ _ n m _ hT hts hq (fun ad e _ => hqA ad e) hp4 hpA hsm (by omega) (by omega) (by omega)).mono ?_
    rintro e w4 ⟨B4, d4, rfl, hq4, hB4, hT4, hK4⟩
    rw [← HR.out] at hq4 hT4 ⊢
    have hz4 := hK4.size
    have hb6 := hb5.trans (hK4.below (B := w.heap.size) (by omega) (fun k h => by have := hin k h; omega))
    have hr5 := (hK4.reads hr3 (by omega) (fun ad e h0 h => by
      obtain ⟨ad', e', hlt, _⟩ := hr3.2 h0
      rw [e] at e'
      injection e' with e'
      subst e'
      have := hin _ h
      omega)).more (B' := w4.heap.size) (by omega)
    have hp5 := (hK4.reads hp4 (by omega) hpA).more (B' := w4.heap.size) (by omega)
    have hq5 := (hK4.reads hq (by omega) (fun ad e _ => hqA ad e)).more (B' := w4.heap.size) (by omega)
    clear hT hq hp3 hp4 hr3 hr4 hb4 hb5 hK4 hB4
    generalize hsk : stuckB 0 res = sk at *
    have HSK := Lib.hid hsk
    clear hsk
    have k7 := Blk.new_at w4 31 #[.int .i64 (res.1 : Int), .slice B4 n d4, .bool sk] (g := w4.heap.size) rfl
    have hba := sub_alloc (Below.refl _ w4) (.cells #[.int .i64 (res.1 : Int), .slice B4 n d4, .bool sk] 31)
    have hb7 := sub_alloc hb6 (.cells #[.int .i64 (res.1 : Int), .slice B4 n d4, .bool sk] 31)
    have hr6 := hr5.up hba
    have hp6 := hp5.up hba
    have hq6 := hq5.up hba
    have hs6 := hq4.up hba
    have hT6 := hT4.keep hba
    clear hr5 hp5 hq5 hq4 hT4 hb6 hba
    go_wp2_with fail
    refine (rrun_any l 0 ps _ _ _ _ n m _ hts hr6 hp6 hsm (by omega) (by omega) (by omega)).mono ?_
    rintro e w5 ⟨B5, d5, B6, d6, rfl, hs7, ht7, hb8⟩
    rw [← HR.out] at hs7 ht7 ⊢
    have hb9 := sub_trans hb7 hb8
    have k8 := k7.later hb8
    have hq7 := hq6.up hb8
    have hs8 := hs6.up hb8
    have hT7 := hT6.keep hb8
    clear hr6 hp6 hq6 hs6 hT6 hb7 hb8 k7
    have hu0 : ((0 : Int) + (res.1 : Int)) = (res.1 : Int) := by omega
    rw [hu0] at hT7
    go_wp2_with fail
    refine (rnext_any res.2.2 (res.1 : Int) 0 _ _ _ _ _ ht7 (Nat.le_refl _) (by omega) q1 (by omega) ⟨by decide, by decide⟩).mono ?_
    rintro e w6 ⟨rfl, hb10⟩
    have hb11 := sub_trans hb9 hb10
    have k9 := k8.later hb10
    have hq8 := hq7.up hb10
    have hs9 := hs8.up hb10
    have hs10 := hs7.up hb10
    have ht8 := ht7.up hb10
    have hT8 := hT7.keep hb10
    clear hq7 hs8 hs7 ht7 hT7 hb9 hb10 k8
    have hskb : sk = (decide (nextL res.2.2 (res.1 : Int) 0 < 0) && decide (0 < openL res.2.2)) := by rw [← HSK.out]; unfold stuckB; rw [hu0]
    have HSKB := Lib.hid hskb
    clear hskb hu0
    generalize hX : nextL res.2.2 (res.1 : Int) 0 = x at *
    clear hX
    have hOL := openL_le res.2.2
    have hO2 : openL res.2.2 ≤ 100 := by have := HQ3.out; omega
    generalize hO : openL res.2.2 = O at *
    have HO := Lib.hid hO
    clear hO hOL
    have c0 := k9.cell 0
    have c1 := k9.cell 1
    have c2 := k9.cell 2
    simp at c0 c1 c2
    have lk := k9.lt
    by_cases hx : x < 0
    · have d1 : decide (x < 0) = true := by simp [hx]
      go_wp2_with fail
      refine (ropen_any res.2.2 _ _ _ _ _ ht8 (by omega)).mono ?_
      rintro e w7 ⟨rfl, rfl⟩
      rw [HO.out]
      go_wp2_with fail
      refine (same7_any res.2.1 res.2.1 _ _ _ _ _ _ _ _ hs9 hs10 (by omega) (by omega) hsmr hsmr).mono ?_
      rintro e w8 ⟨rfl, hb12⟩
      rw [decide_eq_true (rfl : res.2.1 = res.2.1)]
      have hb13 := sub_trans hb11 hb12
      have e2 := (hb12.cell (p := ⟨w4.heap.size, 2, none⟩) lk).trans c2
      have hq9 := hq8.up hb12
      have ht9 := ht8.up hb12
      have hT9 := hT8.keep hb12
      have hskv : sk = decide ((0 : Int) < (O : Int)) := by rw [HSKB.out, d1]; simp
      have HSV := Lib.hid hskv
      clear hskv
      rw [HSV.out] at e2
      clear c0 c1 c2 hb11 hb12 hq8 ht8 hT8 hs9 hs10
      go_wp2_with fail
      refine (open_any es res.2.2 cb _ _ _ _ _ _ hT9 hq9 (Nat.le_refl _) (by omega)).mono ?_
      rintro e w9 ⟨rfl, rfl⟩
      rw [HO.out]
      go_wp2_with fail
      refine (ropen_any res.2.2 _ _ _ _ _ ht9 (by omega)).mono ?_
      rintro e w9 ⟨rfl, rfl⟩
      rw [HO.out]
      go_wp2
      go_ret
      exact ⟨ret_b (by simp), hb13⟩
    · have d1 : decide (x < 0) = false := by simp [hx]
      have hskv : sk = false := by rw [HSKB.out, d1]; simp
      have HSV := Lib.hid hskv
      rw [hskv] at c2
      clear hskv
      go_wp2_with fail
      refine (same7_any res.2.1 res.2.1 _ _ _ _ _ _ _ _ hs9 hs10 (by omega) (by omega) hsmr hsmr).mono ?_
      rintro e w8 ⟨rfl, hb12⟩
      rw [decide_eq_true (rfl : res.2.1 = res.2.1)]
      have hb13 := sub_trans hb11 hb12
      have e2 := (hb12.cell (p := ⟨w4.heap.size, 2, none⟩) lk).trans c2
      have hq9 := hq8.up hb12
      have ht9 := ht8.up hb12
      have hT9 := hT8.keep hb12
      clear c0 c1 c2 hb11 hb12 hq8 ht8 hT8 hs9 hs10
      go_wp2_with fail
      refine (open_any es res.2.2 cb _ _ _ _ _ _ hT9 hq9 (Nat.le_refl _) (by omega)).mono ?_
      rintro e w9 ⟨rfl, rfl⟩
      rw [HO.out]
      go_wp2_with fail
      refine (ropen_any res.2.2 _ _ _ _ _ ht9 (by omega)).mono ?_
      rintro e w9 ⟨rfl, rfl⟩
      rw [HO.out]
      go_wp2
      go_ret
      exact ⟨ret_b (by simp), hb13⟩
end Go.Proofs.Ytenjhklkljeijaa
