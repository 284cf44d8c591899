/-
  SchedWatches: who looks on, and the walk of the law. Condition: none.
-/
import Derived.Test.YtenjhklkljeijaaSchLaws2
namespace Go.Proofs.Ytenjhklkljeijaa
open Go.RowKit Go.Fw
set_option maxHeartbeats 2000000
set_option maxRecDepth 4000
set_option linter.unusedVariables false
set_option linter.unusedSimpArgs false

def goB (k0 : Nat) (k : Nat) : Bool := ((k : Int) + 1 != (k0 : Int))
theorem runW_min (k0 : Nat) (ps : List Int) : ∀ (u : Int) (ts : List Toy) (st : List Int) (n : Nat), st.length = ts.length → (k0 = 0 ∨ n < k0) →
    (runW (goB k0) u ts st n ps).1 = if 0 < k0 then min (runW (fun _ => true) u ts st n ps).1 k0 else (runW (fun _ => true) u ts st n ps).1 := by
  induction ps with
  | nil => intro u ts st n _ h; simp only [runW]; split <;> omega
  | cons p r ih =>
    intro u ts st n h2 h
    rcases nextL_cases ts u p with hc | ⟨b, hb, hc, hrd⟩
    · have hlt : nextL ts u p < 0 := by omega
      have e1 : ∀ go : Nat → Bool, runW go u ts st n (p :: r) = (n, st, ts) := fun go => by rw [runW, if_pos hlt]
      rw [e1, e1]
      simp only
      split <;> omega
    · have hbs : b < st.length := by omega
      have e := runW_on (go := fun _ => true) (u := u) (ts := ts) (st := st) (n := n) (ps := p :: r) (k := 0) (b := b) (by simp) hc hb hbs rfl
      rw [List.drop_zero] at e
      rw [e]
      simp only [List.drop_succ_cons, List.drop_zero]
      have g2 : (st.set b (st[b] + 1)).length = (ts.set b (toyStep ts[b])).length := by simp [h2]
      by_cases hg : n + 1 = k0
      · have hgf : goB k0 n = false := by unfold goB; simp; omega
        have e' := runW_stop (go := goB k0) (u := u) (ts := ts) (st := st) (n := n) (ps := p :: r) (k := 0) (b := b) (by simp) hc hb hbs hgf
        rw [List.drop_zero] at e'
        rw [e']
        simp only
        have hge : n + 1 ≤ (runW (fun _ => true) (u + 1) (ts.set b (toyStep ts[b])) (st.set b (st[b] + 1)) (n + 1) r).1 := by
          have hx : ∀ (q : List Int) (u : Int) (ts : List Toy) (st : List Int) (n : Nat), n ≤ (runW (fun _ => true) u ts st n q).1 := by
            intro q
            induction q with
            | nil => intro u ts st n; simp [runW]
            | cons a q ih2 =>
              intro u ts st n
              rw [runW]
              split
              · exact Nat.le_refl _
              · rw [if_pos rfl]
                exact Nat.le_trans (by omega) (ih2 _ _ _ _)
          exact hx _ _ _ _ _
        rw [if_pos (by omega)]
        omega
      · have hgt : goB k0 n = true := by unfold goB; simp; omega
        have e' := runW_on (go := goB k0) (u := u) (ts := ts) (st := st) (n := n) (ps := p :: r) (k := 0) (b := b) (by simp) hc hb hbs hgt
        rw [List.drop_zero] at e'
        rw [e']
        simp only [List.drop_succ_cons, List.drop_zero]
        exact ih _ _ _ _ g2 (by omega)

theorem see_any (lb : Nat) (k k0 : Nat) (w : World) (h : Blk w lb 45 #[.int .i64 (k : Int), .int .i64 (k0 : Int)]) (hk : k < 100000) (hk0 : k0 < 1000) :
    Calls Try.prog 20 #[.pointer (some ⟨lb, 0, none⟩), .int .i64 ((k : Int) + 1)] w fun e w' => e = .returned (.bool (goB k0 k)) ∧ ∃ q, w' = (w.setCell ⟨lb, 0, none⟩ (.int .i64 ((k : Int) + 1))).drewN q := by
  have c0 := h.cell 0
  have c1 := h.cell 1
  have f0 := h.frozen 0
  simp at c0 c1
  have h2 := h.set_ 0 (.int .i64 ((k : Int) + 1))
  have d0 := h2.cell 0
  have d1 := h2.cell 1
  simp at d0 d1
  have hg : goB k0 k = ((k : Int) + 1 != (k0 : Int)) := rfl
  have HG := Lib.hid hg
  clear hg
  go_enter Try.func20, Try.ntmps20
  go_wp2
  go_quiet (fail)
  go_wp2
  go_ret
  exact ⟨ret_b (by rw [HG.out]), _, rfl⟩
theorem see_look (w : World) (es : List (Option Nat)) (cb lb k0 : Nat) (hk0 : k0 < 1000) (hlb : lb < w.heap.size) (hni : ¬ InT es cb lb) :
    See w es cb 20 #[.pointer (some ⟨lb, 0, none⟩)] (fun k W => Blk W lb 45 #[.int .i64 (k : Int), .int .i64 (k0 : Int)]) (fun j => j = lb) (goB k0) := by
  refine ⟨fun args w => by kernel_rfl, fun k W hk hJ => (see_any lb k k0 W hJ hk hk0).mono fun e w' ⟨h1, q, h2⟩ => ?_, fun k W W' hJ hb => (hb lb hlb hni).trans hJ, fun j hj => by subst hj; exact ⟨hlb, hni⟩⟩
  subst h2
  refine ⟨h1, ?_, ?_⟩
  · have := hJ.set_ 0 (.int .i64 ((k : Int) + 1))
    have e : (((k + 1 : Nat)) : Int) = (k : Int) + 1 := by omega
    rw [e]
    exact this
  · exact ((Keep.refl (fun j => j = lb) W).setCell (p := ⟨lb, 0, none⟩) (.inl rfl) _).drewN q

theorem schedWatches_walk (l : List Toy) (A : Option Addr) (c : Nat) (ps : List Int) (Ap : Option Addr) (cp : Nat) (most : Int) (w : World) (hr : Reads w w.heap.size 3 A l.length (toyV l)) (hok : ∀ a ∈ l, a.ok) (hlc : l.length ≤ maxLen ∧ l.length ≤ c)
    (hp : Reads w w.heap.size 1 Ap ps.length (i64s ps)) (hsm : Small ps) (hlc2 : ps.length ≤ maxLen ∧ ps.length ≤ cp) (hmo : 0 ≤ most ∧ most ≤ 255) :
    Calls Try.prog 6 #[.slice A l.length c, .slice Ap ps.length cp, .int .u8 most] w fun e w' => e = .returned (.bool true) ∧ Below w.heap.size w w' := by
  have hl := hlc.1
  have hl2 := hlc2.1
  clear hlc hlc2
  obtain ⟨hmo0, hmo1⟩ := hmo
  obtain ⟨n, hn⟩ : ∃ n, n = l.length := ⟨_, rfl⟩
  obtain ⟨m, hm⟩ : ∃ m, m = ps.length := ⟨_, rfl⟩
  have HN := Lib.hid hn
  have HM := Lib.hid hm
  rw [← hn] at hr hl ⊢
  rw [← hm] at hp hl2 ⊢
  clear hn hm
  cases hfb : fewB l n m with
  | false =>
    have HB := Lib.hid hfb
    clear hfb
    go_enter Try.func6, Try.ntmps6
    go_wp2_with fail
    refine (awake27_any w).mono ?_
    rintro e w1 ⟨rfl, hb⟩
    go_wp2_with fail
    refine (few_any l _ _ _ _ _ m _ (hr.up hb) hl hl2).mono ?_
    rintro e w2 ⟨rfl, hb2⟩
    rw [HB.out]
    have hb3 := sub_trans hb hb2
    go_wp2
    go_ret
    exact ⟨rfl, hb3⟩
  | true =>
    have hts := toysOk hok hfb
    obtain ⟨_, hn12, hm100⟩ := fewB_true hfb
    have HB := Lib.hid hfb
    obtain ⟨k0, hk0⟩ : ∃ k0 : Nat, most % 20 = (k0 : Int) := ⟨(most % 20).toNat, by omega⟩
    have hk0b : k0 < 20 := by omega
    obtain ⟨res, hres⟩ : ∃ res, res = runW (goB k0) 0 l (List.replicate n 0) 0 ps := ⟨_, rfl⟩
    obtain ⟨ful, hful⟩ : ∃ ful, ful = runAll 0 l n ps := ⟨_, rfl⟩
    have hmin : res.1 = if 0 < k0 then min ful.1 k0 else ful.1 := by rw [hres, hful]; exact runW_min k0 ps 0 l _ 0 (by simp; exact HN.out) (by omega)
    obtain ⟨q1, q2, q3, q4, q5⟩ := runAll_facts (u := 0) (ps := ps) hts HN.out
    rw [← hful] at q1 q2 q3 q4 q5
    have HR := Lib.hid hres
    have HF := Lib.hid hful
    have hfl : ful.1 ≤ 100 := by have := HM.out; omega
    have hrl : res.1 ≤ 100 := by rw [hmin]; split <;> omega
    have HMIN := Lib.hid hmin
    clear hfb hres hful q1 q2 q3 q4 q5 hmin
    go_enter Try.func6, Try.ntmps6
    go_wp2_with fail
    refine (awake27_any w).mono ?_
    rintro e w1 ⟨rfl, hb⟩
    have hr1 := hr.up hb
    have hp1 := hp.up hb
    go_wp2_with fail
    refine (few_any l _ _ _ _ _ m _ hr1 hl hl2).mono ?_
    rintro e w2 ⟨rfl, hb2⟩
    rw [HB.out]
    have hb3 := sub_trans hb hb2
    have hr2 := hr1.up hb2
    have hp2 := hp1.up hb2
    go_wp2_with fail
    refine (tasks_at l _ _ _ _ hr2 (by omega)).mono ?_
    rintro e w3 ⟨B, d, es, cb, rfl, hb4, hq, hqA, hT, hin⟩
    have hb5 := sub_trans hb3 hb4
    have hr3 := hr2.below hb4
    have hp3 := hp2.below hb4
    have hz3 := hb4.size
    have hz2 := hb3.size
    have hlk := Blk.new_at w3 45 #[.int .i64 0, .int .i64 (k0 : Int)] (g := w3.heap.size) rfl
    have hba := sub_alloc (Below.refl _ w3) (.cells #[.int .i64 0, .int .i64 (k0 : Int)] 45)
    have hTa := hT.keep hba
    have hqa := hq.up hba
    have hpa := (hp3.more hz3).up hba
    have hra := (hr3.more hz3).up hba
    have hbb := sub_trans hb5 hba
    have hni : ¬ InT es cb w3.heap.size := fun h => by have := hT.in_lt h; omega
    have hqA2 : ∀ ad, B = some ad → 0 < n → ¬ (InT es cb ad.block ∨ ad.block = w3.heap.size) := fun ad e h0 h => by
      rcases h with h | h
      · exact hqA ad e h
      · obtain ⟨ad', e', hlt, _⟩ := hq.2 h0
        rw [e] at e'
        injection e' with e'
        subst e'
        omega
    have hpA2 : ∀ ad, Ap = some ad → 0 < m → ¬ (InT es cb ad.block ∨ ad.block = w3.heap.size) := fun ad e h0 h => by
      obtain ⟨ad', e', hlt, _⟩ := hp3.2 h0
      rw [e] at e'
      injection e' with e'
      subst e'
      rcases h with h | h
      · have := hin _ h; omega
      · omega
    have hrA2 : ∀ ad, A = some ad → 0 < n → ¬ (InT es cb ad.block ∨ ad.block = w3.heap.size) := fun ad e h0 h => by
      obtain ⟨ad', e', hlt, _⟩ := hr3.2 h0
      rw [e] at e'
      injection e' with e'
      subst e'
      rcases h with h | h
      · have := hin _ h; omega
      · omega
    clear hr hr1 hr2 hb hb2 hp hp1 hp2 hb3 hr3 hp3 hq hqA hT
    go_wp2_with fail
    refine (watch_any es l cb 0 ps _ _ _ _ n m _ _ _ _ _ _ hTa hts hqa hqA2 hpa hpA2 hsm (by omega) (by omega) (by omega) (see_look _ es cb w3.heap.size k0 (by omega) (by simp) hni) hlk).mono ?_
    rintro e w4 ⟨sl, rfl, hown, hT4, hK4, hJ4⟩
    rw [← HR.out] at hown hT4 hJ4 ⊢
    have hz4 := hK4.size
    have hb6 := hbb.trans (hK4.below (B := w.heap.size) (by have := hbb.size; omega) (fun k h => by rcases h with h | h; have := hin k h; omega; omega))
    have hr5 := (hK4.reads hra (Nat.le_refl _) hrA2).more (B' := w4.heap.size) hz4
    have hp5 := (hK4.reads hpa (Nat.le_refl _) hpA2).more (B' := w4.heap.size) hz4
    obtain ⟨B4, d4, rfl, _, _⟩ := own_form hown
    generalize (decide (nextL res.2.2 (0 + (res.1 : Int)) 0 < 0) && decide (0 < openL res.2.2)) = sk at *
    have k7 := Blk.new_at w4 31 #[.int .i64 (res.1 : Int), .slice B4 n d4, .bool sk] (g := w4.heap.size) rfl
    have hbc := sub_alloc (Below.refl _ w4) (.cells #[.int .i64 (res.1 : Int), .slice B4 n d4, .bool sk] 31)
    have hb7 := sub_trans hb6 hbc
    have hr6 := hr5.up hbc
    have hp6 := hp5.up hbc
    have hJ6 := Blk.later hJ4 hbc
    clear hr5 hp5 hb6 hbc hown hT4 hK4 hJ4 hra hpa hqa hTa hlk hba hbb hb4 hb5
    go_wp2_with fail
    refine (rrun_any l 0 ps _ _ _ _ n m _ hts hr6 hp6 hsm (by omega) (by omega) (by omega)).mono ?_
    rintro e w5 ⟨B5, d5, B6, d6, rfl, hs7, ht7, hb8⟩
    rw [← HF.out] at hs7 ht7 ⊢
    have hb9 := sub_trans hb7 hb8
    have k8 := k7.later hb8
    have hJ8 := Blk.later hJ6 hb8
    have c0 := k8.cell 0
    have j0 := hJ8.cell 0
    simp at c0 j0
    clear hr6 hp6 hb7 hb8 k7 hJ6 hs7 ht7 k8 hJ8
    have hcase : (k0 = 0 ∧ res.1 = ful.1) ∨ (0 < k0 ∧ k0 < ful.1 ∧ res.1 = k0) ∨ (0 < k0 ∧ ¬ k0 < ful.1 ∧ res.1 = ful.1) := by
      have := HMIN.out
      split at this <;> omega
    generalize res.1 = r at *
    generalize ful.1 = f at *
    clear HR HF HMIN
    rcases hcase with ⟨h1, rfl⟩ | ⟨h1, h2, rfl⟩ | ⟨h1, h2, rfl⟩
    · have d1 : ¬ (0 : Int) < (k0 : Int) := by omega
      clear h1
      go_wp2
      go_ret
      exact ⟨rfl, hb9⟩
    · have d1 : (0 : Int) < (r : Int) := by omega
      have d2 : (r : Int) < (f : Int) := by omega
      go_wp2
      go_ret
      exact ⟨rfl, hb9⟩
    · have d1 : (0 : Int) < (k0 : Int) := by omega
      have d2 : ¬ (k0 : Int) < (r : Int) := by omega
      go_wp2
      go_ret
      exact ⟨rfl, hb9⟩
end Go.Proofs.Ytenjhklkljeijaa
