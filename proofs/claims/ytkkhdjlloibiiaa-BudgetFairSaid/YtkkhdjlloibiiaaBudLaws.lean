/-
  BudgetShares: its walk, with the chapter's example. Condition: none.
-/
import Derived.Test.YtkkhdjlloibiiaaBudRef
import Derived.Test.YtkkhdjlloibiiaaSame06
namespace Go.Proofs.Ytkkhdjlloibiiaa
open Go.RowKit Go.Fw
set_option maxHeartbeats 1000000
set_option maxRecDepth 4000
set_option linter.unusedVariables false
set_option linter.unusedSimpArgs false

/-- what is handed out: the shares, or none -/
def sharesOf (total : Int) (l : List Wnt) : List Int := if bcheck total l = 0 then shareL total l else []
theorem sharesOf_ok {total : Int} {l : List Wnt} (h : bcheck total l = 0) : sharesOf total l = shareL total l := if_pos h
theorem sharesOf_bad {total : Int} {l : List Wnt} (h : bcheck total l ≠ 0) : sharesOf total l = [] := if_neg h
theorem share_at (total : Int) (l : List Wnt) (A : Option Addr) (c n : Nat) (w : World) (hr : Reads w w.heap.size 2 A n (wnts l)) (hl : n ≤ 1000) (ht : In64 total) (hok : ∀ x ∈ l, x.ok) :
    Calls Try.prog 7 #[.int .i64 total, .slice A n c] w fun e w' => ∃ B d, e = .returned (.tuple #[.slice B (sharesOf total l).length d, .int .i64 (bcheck total l)]) ∧ Below w.heap.size w w' ∧ Reads w' w'.heap.size 1 B (sharesOf total l).length (i64s (sharesOf total l)) := by
  refine (share_any total l A c n w hr hl ht hok).mono ?_
  rintro e w' ⟨v, rfl, hm⟩
  have hn := wnt_len hr
  have hx : (if bcheck total l = 0 then n else 0) = (sharesOf total l).length := by
    unfold sharesOf
    split
    · rw [shareL_length, hn]
    · rfl
  rw [hx] at hm
  change MineS 1 w w' 2 v _ (i64s (sharesOf total l)) at hm
  obtain ⟨B, d, rfl, _, _, hq⟩ := hm.form
  exact ⟨B, d, rfl, hm.below, hq⟩
theorem rshare_at (total : Int) (l : List Wnt) (A : Option Addr) (c n : Nat) (w : World) (hr : Reads w w.heap.size 2 A n (wnts l)) (hl : n ≤ 1000) (hok : ∀ x ∈ l, x.ok) (h0 : bcheck total l = 0) :
    Calls Try.prog 12 #[.int .i64 total, .slice A n c] w fun e w' => ∃ B d, e = .returned (.slice B n d) ∧ Below w.heap.size w w' ∧ Reads w' w'.heap.size 1 B n (i64s (shareL total l)) := by
  refine (rshare_any total l A c n w hr hl hok h0).mono ?_
  rintro e w' ⟨v, rfl, hm⟩
  obtain ⟨B, d, rfl, _, _, hq⟩ := hm.form
  exact ⟨B, d, rfl, hm.below, hq⟩
theorem wants_at (l : List Wnt) (A : Option Addr) (c n : Nat) (w : World) (hr : Reads w w.heap.size 2 A n (wnts l)) (hl : n ≤ 1000) :
    Calls Try.prog 8 #[.slice A n c] w fun e w' => ∃ B d, e = .returned (.slice B n d) ∧ Below w.heap.size w w' ∧ Reads w' w'.heap.size 2 B n (wnts l) := by
  refine (wants_any l A c n w hr hl).mono ?_
  rintro e w' ⟨v, rfl, hm⟩
  obtain ⟨B, d, rfl, _, _, hq⟩ := hm.form
  exact ⟨B, d, rfl, hm.below, hq⟩
theorem ShInv.small {l : List Wnt} {has : List Int} (h : ShInv l has) : Small has := by
  intro k hk
  have := h.at_ k (by rw [← h.len]; exact hk) hk
  omega
theorem shareF_inv {l : List Wnt} : ∀ (f : Nat) (has : List Int), ShInv l has → ShInv l (shareF f l has) := by
  intro f
  induction f with
  | zero => intro has h; exact h
  | succ f ih =>
    intro has h
    rcases needL_cases (lacksL l has) with ⟨hc, _⟩ | ⟨b, hb, hc, hp, _⟩
    · rw [shareF_end _ (by omega)]; exact h
    · have hll := lacksL_length h.len
      have hbl : b < l.length := by omega
      have hbh : b < has.length := by have := h.len; omega
      rw [lacksL_get hb hbl hbh] at hp
      rw [shareF_on f b hc hbh]
      exact ih _ (h.step hbl hbh hp)
theorem shareL_inv {total : Int} {l : List Wnt} (h0 : bcheck total l = 0) (hok : ∀ x ∈ l, x.ok) : ShInv l (shareL total l) := shareF_inv _ _ (ShInv.start (bcheck_zero h0).2.2.2.1 hok)

theorem awake51_any (w : World) : Calls Try.prog 6 #[] w fun e w' => e = .returned (.bool true) ∧ Below w.heap.size w w' := by
  have e1 := Lib.hid (show sharesOf 5 [⟨0, 4⟩, ⟨0, 2⟩] = [4, 1] by decide)
  have e2 := Lib.hid (show bcheck 5 [⟨0, 4⟩, ⟨0, 2⟩] = 0 by decide)
  have e3 := Lib.hid (show bcheck 1 [⟨1, 1⟩, ⟨1, 1⟩] = 12 by decide)
  go_enter Try.func6, Try.ntmps6
  go_wp2_with fail
  refine (share_at 5 [⟨0, 4⟩, ⟨0, 2⟩] _ _ 2 _ (reads_newS w 48 #[.int .i64 0, .int .i64 4, .int .i64 0, .int .i64 2] 2 2 _ _ rfl rfl (by simp)) (by omega) ⟨by decide, by decide⟩ (fun x hx => by simp at hx; rcases hx with rfl | rfl <;> exact ⟨⟨by decide, by decide⟩, ⟨by decide, by decide⟩⟩)).mono ?_
  rintro e w1 ⟨A1, d1, rfl, hb1, hq1⟩
  rw [e1.out] at hq1 ⊢
  rw [e2.out]
  have hb1' := sub_trans (sub_alloc (Below.refl _ w) _) hb1
  have hq1 : Reads w1 w1.heap.size 1 A1 2 (i64s [4, 1]) := hq1
  go_wp2_with fail
  refine (share_at 1 [⟨1, 1⟩, ⟨1, 1⟩] _ _ 2 _ (reads_newS w1 48 #[.int .i64 1, .int .i64 1, .int .i64 1, .int .i64 1] 2 2 _ _ rfl rfl (by simp)) (by omega) ⟨by decide, by decide⟩ (fun x hx => by simp at hx; rcases hx with rfl | rfl <;> exact ⟨⟨by decide, by decide⟩, ⟨by decide, by decide⟩⟩)).mono ?_
  rintro e w2 ⟨A2, d2, rfl, hb2, hq2⟩
  rw [e3.out]
  have hb2' := sub_trans (sub_alloc hb1' _) hb2
  have hq3 := ((hq1.alloc (Nat.le_refl _) (.cells #[.int .i64 1, .int .i64 1, .int .i64 1, .int .i64 1] 48)).more (B' := (w1.alloc (.cells #[.int .i64 1, .int .i64 1, .int .i64 1, .int .i64 1] 48)).heap.size) (by simp)).up hb2
  clear hb1 hq1 hb2 hq2 hb1'
  go_wp2_with fail
  have hq4 := (hq3.alloc (Nat.le_refl _) (.cells #[.int .i64 4, .int .i64 1] 2)).more (B' := (w2.alloc (.cells #[.int .i64 4, .int .i64 1] 2)).heap.size) (by simp)
  refine (same_any [4, 1] [4, 1] _ _ _ _ 2 2 (w2.heap.size + 1) _ (by simpa using hq4) (reads_new_at w2 2 #[.int .i64 4, .int .i64 1] 2 _ _ rfl rfl rfl) (by omega) (by omega) (small_of (by decide)) (small_of (by decide))).mono ?_
  rintro e w3 ⟨rfl, hb3⟩
  rw [decide_eq_true (rfl : ([4, 1] : List Int) = [4, 1])]
  have hb3' := sub_trans (sub_alloc hb2' _) hb3
  go_wp2
  go_ret
  exact ⟨rfl, hb3'⟩

theorem budgetShares_walk (total : Int) (l : List Wnt) (A : Option Addr) (c : Nat) (w : World) (ht : -9223372036854775808 ≤ total ∧ total ≤ 9223372036854775807) (hr : Reads w w.heap.size 2 A l.length (wnts l)) (hok : ∀ a ∈ l, a.ok) (hlc : l.length ≤ maxLen ∧ l.length ≤ c) :
    Calls Try.prog 3 #[.int .i64 total, .slice A l.length c] w fun e w' => e = .returned (.bool true) ∧ Below w.heap.size w w' := by
  obtain ⟨hl, hcc⟩ := hlc
  unfold maxLen at hl
  obtain ⟨n, hn⟩ : ∃ n, n = l.length := ⟨_, rfl⟩
  have HN := Lib.hid hn
  rw [← hn] at hr hl hcc ⊢
  clear hn
  have ht0 := ht.1
  have ht1 := ht.2
  by_cases h : n ≤ 70
  · by_cases hg : 200 < total ∧ total ≤ 4096
    · obtain ⟨hg1, hg2⟩ := hg
      go_enter Try.func3, Try.ntmps3
      go_wp2_with fail
      refine (awake51_any w).mono ?_
      rintro e1 w1 ⟨rfl, hb⟩
      go_wp2
      go_ret
      exact ⟨rfl, hb⟩
    · have hgc : ¬ 200 < total ∨ (200 < total ∧ 4096 < total) := by omega
      obtain ⟨code, hcode⟩ : ∃ code, code = bcheck total l := ⟨_, rfl⟩
      have HC := Lib.hid hcode
      have hi : In64 total := ht
      clear hg ht
      by_cases h0 : code = 0
      · have hsh := sharesOf_ok (hcode.symm.trans h0)
        have hz := bcheck_zero (hcode.symm.trans h0)
        have hg : ¬ 200 < total := by omega
        have hlen : (sharesOf total l).length = n := by rw [hsh, shareL_length, HN.out]
        have hsm := ShInv.small (shareL_inv (hcode.symm.trans h0) hok)
        have HS := Lib.hid hsh
        have HLN := Lib.hid hlen
        have H0 := Lib.hid h0
        subst h0
        clear hsh hcode hz hlen hgc
        go_enter Try.func3, Try.ntmps3
        go_wp2_with fail
        refine (awake51_any w).mono ?_
        rintro e1 w1 ⟨rfl, hb⟩
        have hr1 := hr.up hb
        go_wp2_with fail
        refine (wants_at l _ _ _ _ hr1 (by omega)).mono ?_
        rintro e2 w2 ⟨A2, d2, rfl, hb2, hq2⟩
        have hr2 := hr1.up hb2
        have hb2' := sub_trans hb hb2
        go_wp2_with fail
        refine (share_at total l _ _ _ _ hq2 (by omega) hi hok).mono ?_
        rintro e3 w3 ⟨A3, d3, rfl, hb3, hq3⟩
        rw [← HC.out]
        rw [HLN.out] at hq3 ⊢
        rw [HS.out] at hq3
        have hr3 := hr2.up hb3
        have hb3' := sub_trans hb2' hb3
        clear hq2 hb hb2 hb3 hr hr1 hr2 hb2'
        go_wp2_with fail
        refine (rbcheck_any total l _ _ _ _ hr3 (by omega) hi hok).mono ?_
        rintro e4 w4 ⟨rfl, hb4⟩
        rw [← HC.out]
        have hr4 := hr3.up hb4
        have hq4 := hq3.up hb4
        have hb4' := sub_trans hb3' hb4
        clear hq3 hr3 hb4 hb3'
        go_wp2_with fail
        refine (wants_at l _ _ _ _ hr4 (by omega)).mono ?_
        rintro e5 w5 ⟨A5, d5, rfl, hb5, hq5⟩
        have hr5 := hr4.up hb5
        have hq6 := hq4.up hb5
        have hb5' := sub_trans hb4' hb5
        clear hr4 hq4 hb4' hb5
        go_wp2_with fail
        refine (bcheck_any total l _ _ _ _ hq5 (by omega) hi hok).mono ?_
        rintro e6 w6 ⟨rfl, hb6⟩
        rw [← HC.out]
        have hr6 := hr5.up hb6
        have hq7 := hq6.up hb6
        have hb6' := sub_trans hb5' hb6
        clear hr5 hq6 hb5' hb6 hq5
        go_wp2_with fail
        refine (rshare_at total l _ _ _ _ hr6 (by omega) hok HC.out.symm).mono ?_
        rintro e7 w7 ⟨A7, d7, rfl, hb7, hq8⟩
        have hq9 := hq7.up hb7
        have hb7' := sub_trans hb6' hb7
        go_wp2_with fail
        refine (same_any (shareL total l) (shareL total l) _ _ _ _ _ _ _ _ hq9 hq8 (by omega) (by omega) hsm hsm).mono ?_
        rintro e8 w8 ⟨rfl, hb8⟩
        rw [decide_eq_true (rfl : shareL total l = shareL total l)]
        have hb8' := sub_trans hb7' hb8
        go_wp2
        go_ret
        exact ⟨rfl, hb8'⟩
      · have hsh := sharesOf_bad (fun e => h0 (hcode.trans e))
        have HS := Lib.hid hsh
        have h0' : (code != 0) = true := by simpa using h0
        have h0'' : (code == 0) = false := by simpa using h0
        clear hsh hcode h0
        rcases hgc with hg | ⟨hg, hg2⟩
        all_goals
          go_enter Try.func3, Try.ntmps3
          go_wp2_with fail
          refine (awake51_any w).mono ?_
          rintro e1 w1 ⟨rfl, hb⟩
          have hr1 := hr.up hb
          go_wp2_with fail
          refine (wants_at l _ _ _ _ hr1 (by omega)).mono ?_
          rintro e2 w2 ⟨A2, d2, rfl, hb2, hq2⟩
          have hr2 := hr1.up hb2
          have hb2' := sub_trans hb hb2
          go_wp2_with fail
          refine (share_at total l _ _ _ _ hq2 (by omega) hi hok).mono ?_
          rintro e3 w3 ⟨A3, d3, rfl, hb3, hq3⟩
          rw [← HC.out, HS.out]
          have hr3 := hr2.up hb3
          have hb3' := sub_trans hb2' hb3
          clear hq2 hb hb2 hb3 hr hr1 hr2 hb2' hq3
          go_wp2_with fail
          refine (rbcheck_any total l _ _ _ _ hr3 (by omega) hi hok).mono ?_
          rintro e4 w4 ⟨rfl, hb4⟩
          rw [← HC.out]
          have hr4 := hr3.up hb4
          have hb4' := sub_trans hb3' hb4
          clear hr3 hb4 hb3'
          go_wp2_with fail
          refine (wants_at l _ _ _ _ hr4 (by omega)).mono ?_
          rintro e5 w5 ⟨A5, d5, rfl, hb5, hq5⟩
          have hb5' := sub_trans hb4' hb5
          clear hr4 hb4' hb5
          go_wp2_with fail
          refine (bcheck_any total l _ _ _ _ hq5 (by omega) hi hok).mono ?_
          rintro e6 w6 ⟨rfl, hb6⟩
          rw [← HC.out]
          have hb6' := sub_trans hb5' hb6
          go_wp2
          go_ret
          exact ⟨rfl, hb6'⟩
  · go_enter Try.func3, Try.ntmps3
    go_wp2_with fail
    refine (awake51_any w).mono ?_
    rintro e1 w1 ⟨rfl, hb⟩
    go_wp2
    go_ret
    exact ⟨rfl, hb⟩
end Go.Proofs.Ytkkhdjlloibiiaa
