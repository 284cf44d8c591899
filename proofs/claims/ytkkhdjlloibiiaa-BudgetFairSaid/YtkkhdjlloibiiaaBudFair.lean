/-
  BudgetFair: the plain part, and its walk. Condition: none.
-/
import Derived.Test.YtkkhdjlloibiiaaBudFit
namespace Go.Fw
def FairS (l : List Wnt) (has : List Int) : Prop := ∀ i k (hi : i < l.length) (hk : k < l.length) (hi' : i < has.length) (hk' : k < has.length), l[k].mn < has[k] → l[i].want - has[i] ≤ l[k].want - has[k] + 1
theorem FairS.step {l : List Wnt} {has : List Int} (h : FairS l has) {b : Nat} (hb : b < l.length) (hb' : b < has.length) (hmax : ∀ j (h1 : j < l.length) (h2 : j < has.length), l[j].want - has[j] ≤ l[b].want - has[b]) : FairS l (has.set b (has[b] + 1)) := by
  intro i k hi hk hi' hk'
  have hi2 : i < has.length := by simpa using hi'
  have hk2 : k < has.length := by simpa using hk'
  have g1 := h i k hi hk hi2 hk2
  have g2 := hmax i hi hi2
  have g3 := hmax k hk hk2
  have g4 := h b k hb hk hb' hk2
  simp only [List.getElem_set]
  split <;> split
  · rename_i e1 e2; subst e1; subst e2; intro _; omega
  · rename_i e1 e2; subst e1; intro _; omega
  · rename_i e1 e2; subst e2; intro hx; have := g4 hx; omega
  · intro hx; exact g1 hx
theorem sumZ_set {ls : List Int} {b : Nat} (hb : b < ls.length) : sumZ (ls.set b (ls[b] + 1)) = sumZ ls + 1 := by
  induction ls generalizing b with
  | nil => simp at hb
  | cons x r ih =>
    obtain _ | b := b
    · simp [sumZ]; omega
    · have := ih (b := b) (by simpa using hb)
      simp only [List.set_cons_succ, sumZ, List.getElem_cons_succ, this]
      omega
theorem shareF_facts {l : List Wnt} : ∀ (f : Nat) (has : List Int), ShInv l has → FairS l has → FairS l (shareF f l has) ∧ (sumZ (shareF f l has) = sumZ has + f ∨ ((∀ k (h1 : k < l.length) (h2 : k < (shareF f l has).length), l[k].want ≤ (shareF f l has)[k]) ∧ sumZ (shareF f l has) ≤ sumZ has + f)) := by
  intro f
  induction f with
  | zero => intro has hv hf; exact ⟨hf, .inl (by simp [shareF])⟩
  | succ f ih =>
    intro has hv hf
    rcases needL_cases (lacksL l has) with ⟨hc, hle⟩ | ⟨b, hb, hc, hp, hmax⟩
    · rw [shareF_end _ (by omega)]
      refine ⟨hf, .inr ⟨fun k h1 h2 => ?_, by omega⟩⟩
      have hk : k < (lacksL l has).length := by rw [lacksL_length hv.len]; exact h1
      have := hle k hk
      rw [lacksL_get hk h1 h2] at this
      omega
    · have hll := lacksL_length hv.len
      have hbl : b < l.length := by omega
      have hbh : b < has.length := by have := hv.len; omega
      rw [lacksL_get hb hbl hbh] at hp
      rw [shareF_on f b hc hbh]
      have hm : ∀ j (h1 : j < l.length) (h2 : j < has.length), l[j].want - has[j] ≤ l[b].want - has[b] := by
        intro j h1 h2
        have := hmax j (by omega)
        rwa [lacksL_get (by omega) h1 h2, lacksL_get hb hbl hbh] at this
      obtain ⟨g1, g2⟩ := ih _ (hv.step hbl hbh hp) (hf.step hbl hbh hm)
      rw [sumZ_set hbh] at g2
      refine ⟨g1, ?_⟩
      rcases g2 with g2 | ⟨g2, g3⟩
      · left; omega
      · right; exact ⟨g2, by omega⟩
theorem FairS.start (l : List Wnt) : FairS l (l.map Wnt.mn) := by
  intro i k hi hk hi' hk' h
  simp at h
theorem satF_sum (ls : List Int) : ∀ out, 0 ≤ out → out ≤ 9223372036854775807 → (∀ x ∈ ls, 0 ≤ x) → satF out ls = min (out + sumZ ls) 9223372036854775807 := by
  induction ls with
  | nil => intro out h0 h1 _; simp only [satF, sumZ]; omega
  | cons x r ih =>
    intro out h0 h1 h
    have hx := h x (by simp)
    have hr := sumZ_nonneg (l := r) fun y hy => h y (by simp [hy])
    have e : sat (out + x) = min (out + x) 9223372036854775807 := by
      by_cases hb : 9223372036854775807 < out + x
      · rw [sat_hi _ hb]; omega
      · rw [sat_id _ ⟨by omega, by omega⟩]; omega
    rw [satF, e, ih _ (by omega) (by omega) fun y hy => h y (by simp [hy])]
    simp only [sumZ]
    omega
theorem sum_le {l : List Wnt} : ∀ {has : List Int}, ShInv l has → sumZ has ≤ sumZ (l.map Wnt.want) := by
  induction l with
  | nil => intro has h; have := h.len; obtain rfl : has = [] := List.eq_nil_of_length_eq_zero (by simpa using this); simp [sumZ]
  | cons x l ih =>
    intro has h
    have hl := h.len
    match has, hl with
    | y :: has, hl =>
      have h0 := h.at_ 0 (by simp) (by simp)
      have := ih (has := has) ⟨by simpa using hl, fun k h1 h2 => by have := h.at_ (k + 1) (by simpa using h1) (by simpa using h2); simpa using this⟩
      simp only [List.map_cons, sumZ]
      simp only [List.getElem_cons_zero] at h0
      omega
theorem sum_eq {l : List Wnt} : ∀ {has : List Int}, ShInv l has → (∀ k (h1 : k < l.length) (h2 : k < has.length), l[k].want ≤ has[k]) → sumZ has = sumZ (l.map Wnt.want) := by
  induction l with
  | nil => intro has h _; have := h.len; obtain rfl : has = [] := List.eq_nil_of_length_eq_zero (by simpa using this); rfl
  | cons x l ih =>
    intro has h hw
    have hl := h.len
    match has, hl with
    | y :: has, hl =>
      have h0 := h.at_ 0 (by simp) (by simp)
      have w0 := hw 0 (by simp) (by simp)
      have := ih (has := has) ⟨by simpa using hl, fun k h1 h2 => by have := h.at_ (k + 1) (by simpa using h1) (by simpa using h2); simpa using this⟩ fun k h1 h2 => by have := hw (k + 1) (by simpa using h1) (by simpa using h2); simpa using this
      simp only [List.map_cons, sumZ]
      simp only [List.getElem_cons_zero] at h0 w0
      omega
theorem fair_all {total : Int} {l : List Wnt} (h0 : bcheck total l = 0) (hv : ShInv l (shareL total l)) (hv0 : ShInv l (l.map Wnt.mn)) :
    FairS l (shareL total l) ∧ sumZ (shareL total l) = min total (satF 0 (l.map Wnt.want)) ∧ sumZ (shareL total l) ≤ 4096 := by
  obtain ⟨z1, z2, _, z4, z5⟩ := bcheck_zero h0
  obtain ⟨g1, g2⟩ := shareF_facts (total - sumZ (l.map Wnt.mn)).toNat (l.map Wnt.mn) hv0 (FairS.start l)
  have hw : ∀ x ∈ l.map Wnt.want, 0 ≤ x := by
    intro y hy
    obtain ⟨z, hz, rfl⟩ := List.mem_map.1 hy
    have := z4 z hz
    omega
  have hs := satF_sum (l.map Wnt.want) 0 (by omega) (by omega) hw
  have hl := sum_le hv
  change (sumZ (shareL total l) = _ ∨ (∀ k (h1 : k < l.length) (h2 : k < (shareL total l).length), l[k].want ≤ (shareL total l)[k]) ∧ sumZ (shareL total l) ≤ _) at g2
  refine ⟨g1, ?_⟩
  rw [hs]
  rcases g2 with g2 | ⟨g2, g3⟩
  · omega
  · have := sum_eq hv g2
    omega
end Go.Fw
namespace Go.Proofs.Ytkkhdjlloibiiaa
open Go.RowKit Go.Fw
set_option maxHeartbeats 2000000
set_option maxRecDepth 4000
set_option linter.unusedVariables false
set_option linter.unusedSimpArgs false

theorem budgetFair_walk (total : Int) (l : List Wnt) (A : Option Addr) (c : Nat) (w : World) (ht : -9223372036854775808 ≤ total ∧ total ≤ 9223372036854775807) (hr : Reads w w.heap.size 2 A l.length (wnts l)) (hok : ∀ a ∈ l, a.ok) (hlc : l.length ≤ maxLen ∧ l.length ≤ c) :
    Calls Try.prog 5 #[.int .i64 total, .slice A l.length c] w fun e w' => e = .returned (.bool true) ∧ Below w.heap.size w w' := by
  obtain ⟨hl, hcc⟩ := hlc
  unfold maxLen at hl
  obtain ⟨n, hn⟩ : ∃ n, n = l.length := ⟨_, rfl⟩
  have HN := Lib.hid hn
  rw [← hn] at hr hl hcc ⊢
  clear hn
  have ht0 := ht.1
  have ht1 := ht.2
  by_cases h : n ≤ 20
  · by_cases hg : 200 < total
    · go_enter Try.func5, Try.ntmps5
      go_wp2_with fail
      refine (awake51_any w).mono ?_
      rintro e1 w1 ⟨rfl, hb⟩
      go_wp2
      go_ret
      exact ⟨rfl, hb⟩
    · obtain ⟨code, hcode⟩ : ∃ code, code = bcheck total l := ⟨_, rfl⟩
      have HC := Lib.hid hcode
      have hi : In64 total := ht
      clear ht
      by_cases h0 : code = 0
      · have hc0 := hcode.symm.trans h0
        have hsh := sharesOf_ok hc0
        have hz := bcheck_zero hc0
        have hlen : (sharesOf total l).length = n := by rw [hsh, shareL_length, HN.out]
        have hv := shareL_inv hc0 hok
        obtain ⟨hfair, hsum, hs4⟩ := fair_all hc0 hv (ShInv.start hz.2.2.2.1 hok)
        have hsm := ShInv.small hv
        have HS := Lib.hid hsh
        have HLN := Lib.hid hlen
        have H0 := Lib.hid h0
        have HV := Lib.hid hv
        have HFA := Lib.hid hfair
        have HSU := Lib.hid hsum
        have hl0 := lacksL_length hv.len
        obtain ⟨sh, hsh2⟩ : ∃ sh, sh = shareL total l := ⟨_, rfl⟩
        rw [← hsh2] at HS HV HFA HSU hl0 hs4 hsm
        have HLL := Lib.hid hl0
        have hwn : ∀ x ∈ sh, 0 ≤ x := by
          intro y hy
          obtain ⟨k, hk, rfl⟩ := List.getElem_of_mem hy
          have := HV.out.at_ k (by have := HV.out.len; omega) hk
          omega
        have HWN := Lib.hid hwn
        subst h0
        clear hsh hcode hz hlen hfair hsum hv hl0 hsh2 hwn hc0
        go_enter Try.func5, Try.ntmps5
        go_wp2_with fail
        refine (awake51_any w).mono ?_
        rintro e1 w1 ⟨rfl, hb⟩
        have hr1 := hr.up hb
        go_wp2_with fail
        refine (wants_at l _ _ _ _ hr1 (by omega)).mono ?_
        rintro e2 w2 ⟨A2, d2, rfl, hb2, hq2⟩
        have hr2 := hr1.up hb2
        have hb2' := sub_trans hb hb2
        go_wp2_with fail
        refine (share_at total l _ _ _ _ hq2 (by omega) hi hok).mono ?_
        rintro e3 w3 ⟨A3, d3, rfl, hb3, hq3⟩
        rw [← HC.out]
        rw [HLN.out] at hq3 ⊢
        rw [HS.out] at hq3
        have hr3 := hr2.up hb3
        have hb3' := sub_trans hb2' hb3
        clear hq2 hb hb2 hb3 hr hr1 hr2 hb2'
        have hns : (n : Int) = (n : Int) := rfl
        go_wp2_with fail
        go_loopw [7, 8, 9, 48] (fun s a b i wr => ∃ (k : Nat) (S Al La : Int), k ≤ n ∧ i = .int .i64 k ∧ s = .int .i64 S ∧ a = .int .i64 Al ∧ b = .int .i64 La ∧ In64 Al ∧ In64 La ∧ 0 ≤ S ∧ S ≤ 4096 ∧ Hid (sumZ sh = S + sumZ (sh.drop k)) ∧ Hid (satF 0 (l.map Wnt.want) = satF Al ((l.map Wnt.want).drop k)) ∧ Hid (satF 0 (lacksL l sh) = satF La ((lacksL l sh).drop k)) ∧ Below w3.heap.size w3 wr) (fun _ _ _ i _ => n - (intOf i).toNat)
        case atStart => exact ⟨0, 0, 0, 0, by omega, rfl, rfl, rfl, rfl, ⟨by decide, by decide⟩, ⟨by decide, by decide⟩, by omega, by omega, Lib.hid (by simp), Lib.hid rfl, Lib.hid rfl, Below.refl _ _⟩
        case round =>
          obtain ⟨k, S, Al, La, hk, rfl, rfl, rfl, rfl, hAl, hLa, hS0, hS1, HD, HA, HB, hb⟩ := hrel
          by_cases hlt : k < n
          · have hkl : k < l.length := by have := HN.out; omega
            have hkh : k < sh.length := by have := HN.out; have := HV.out.len; omega
            have hkk : k < (lacksL l sh).length := by have := HLL.out; omega
            have hkw : k < (l.map Wnt.want).length := by simpa using hkl
            obtain ⟨bl, off, rfl, hbl, g0, g1⟩ := wnt_at (hr3.below hb) hkl
            obtain ⟨ad, u, rfl, hbl2, hx, g2⟩ := (hq3.below hb).at_ hlt
            obtain rfl := i64s_get hx hkh
            obtain ⟨i1, i2, i3, i4⟩ := HV.out.at_ k hkl hkh
            have hD : sumZ sh = S + sh[k] + sumZ (sh.drop (k + 1)) := by rw [HD.out, List.drop_eq_getElem_cons hkh]; simp only [sumZ]; omega
            have hD2 := sumZ_nonneg (l := sh.drop (k + 1)) fun x hx => HWN.out x (List.mem_of_mem_drop hx)
            have hA := HA.out.trans (satF_on Al hkw)
            have hB := HB.out.trans (satF_on La hkk)
            rw [lacksL_get hkk hkl hkh] at hB
            have hwx : (l.map Wnt.want)[k] = l[k].want := by simp
            rw [hwx] at hA
            have hF : ∀ j (hj : j < l.length) (hj' : j < sh.length), l[j].mn < sh[j] → l[k].want - sh[k] ≤ l[j].want - sh[j] + 1 := fun j hj hj' => HFA.out k j hkl hj hkh hj'
            generalize l[k] = x at *
            obtain ⟨x0, x1⟩ := x
            generalize hyy : sh[k] = y at *
            have HY := Lib.hid hyy
            clear hyy
            simp only at g0 g1 i1 i2 i3 i4 hA hB hF
            have hb2 : ∀ o, Below w3.heap.size w3 (wr.alloc o) := fun o => sub_alloc hb o
            have a2 : ∀ o, (wr.alloc o).cell? (ad.add k) = some (.int .i64 y) := fun o => (World.cell?_alloc_lt wr o _ (World.block_lt_of_cell? wr _ g2)).trans g2
            have iy : In64 (x1 - y) := ⟨by omega, by omega⟩
            have ix : In64 x1 := ⟨by omega, by omega⟩
            have is1 := sat_in (Al + x1)
            have is2 := sat_in (La + (x1 - y))
            have hlen : (k : Int) < (n : Int) := by omega
            have hkb := Blk.new_at wr 44 #[.int .i64 x0, .int .i64 x1] (g := wr.heap.size) rfl
            have hS2 : S + y ≤ 4096 := by omega
            have hy0 : 0 ≤ y := by omega
            have HD2 := Lib.hid hD
            have HA2 := Lib.hid hA
            have HB2 := Lib.hid hB
            have HF2 := Lib.hid hF
            have d1 : decide (y < x0) = false := by simp; omega
            have d2 : decide (x1 < y) = false := by simp; omega
            clear hx hD hA hB hF hwx hD2 HD HA HB
            go_wp2
            go_quiet (fail)
            go_wp2_with (go_at_call 14; refine (radd_any _ _ _ hAl ix).mono ?_; rintro e w' ⟨rfl, rfl⟩)
            go_quiet ((go_at_call 14; exact quiet_a (radd_any _ _ _ hLa iy)))
            go_wp2_with fail
            obtain ⟨wo, hwo⟩ : ∃ wo : World, wo = wr := ⟨_, rfl⟩
            subst hwo
            go_loopw [90] (fun i wr => ∃ (j : Nat), j ≤ n ∧ i = .int .i64 j ∧ Blk wr wo.heap.size 44 #[.int .i64 x0, .int .i64 x1] ∧ Below w3.heap.size w3 wr) (fun i _ => n - (intOf i).toNat)
            case atStart => exact ⟨0, by omega, rfl, hkb, by repeat (first | exact hb | apply sub_drewN | apply sub_alloc)⟩
            case round =>
              clear hkb a2 hb2 g0 g1 g2 hbl2
              obtain ⟨j, hj, rfl, hkb, hbi⟩ := hrel
              by_cases hlt2 : j < n
              · have hjl : j < l.length := by have := HN.out; omega
                have hjh : j < sh.length := by have := HN.out; have := HV.out.len; omega
                obtain ⟨bl', off', e1, _, p0, p1⟩ := wnt_at (hr3.below hbi) hjl
                simp only [Option.some.injEq, Addr.mk.injEq, and_true] at e1
                obtain ⟨rfl, rfl⟩ := e1
                obtain ⟨ad', u', e2, _, hx2, p2⟩ := (hq3.below hbi).at_ hlt2
                obtain ⟨ad'', u'', e3, _, hx3, p3⟩ := (hq3.below hbi).at_ hlt
                injection e2 with e2
                subst e2
                injection e3 with e3
                subst e3
                obtain rfl := i64s_get hx2 hjh
                have hx3' := i64s_get hx3 hkh
                rw [HY.out] at hx3'
                subst hx3'
                obtain ⟨o1, o2, o3, o4⟩ := HV.out.at_ j hjl hjh
                have hFj := HF2.out j hjl hjh
                generalize l[j] = z at *
                obtain ⟨z0, z1⟩ := z
                generalize sh[j] = v at *
                simp only at p0 p1 o1 o2 o3 o4 hFj
                have c0 := hkb.cell 0
                have c1 := hkb.cell 1
                have cl := hkb.lt
                simp at c0 c1
                have a3 : ∀ o, (wr.alloc o).cell? (ad.add k) = some (.int .i64 y) := fun o => (World.cell?_alloc_lt wr o _ (World.block_lt_of_cell? wr _ p3)).trans p3
                have a4 : ∀ o, (wr.alloc o).cell? (ad.add j) = some (.int .i64 v) := fun o => (World.cell?_alloc_lt wr o _ (World.block_lt_of_cell? wr _ p2)).trans p2
                have hkb2 := hkb.alloc (.cells #[.int .i64 z0, .int .i64 z1] 44)
                have hj2 : (j : Int) < (n : Int) := by omega
                clear hx2 hx3
                by_cases hv : z0 < v
                · have hF2 := hFj hv
                  have d3 : decide (z0 < v) = true := by simp [hv]
                  have d4 : decide (z1 - v + 1 < x1 - y) = false := by simp; omega
                  have q1 : 1 ≤ v := by omega
                  clear hFj
                  go_wp2
                  go_quiet (fail)
                  go_wp2
                  go_roundw
                  case rel => exact ⟨j + 1, by omega, by go_num, hkb2, by repeat (first | exact hbi | apply sub_drewN | apply sub_alloc)⟩
                  case measure => simp [intOf]; omega
                · have d3 : decide (z0 < v) = false := by simp [hv]
                  clear hFj
                  go_wp2
                  go_quiet (fail)
                  go_wp2
                  go_roundw
                  case rel => exact ⟨j + 1, by omega, by go_num, hkb2, by repeat (first | exact hbi | apply sub_drewN | apply sub_alloc)⟩
                  case measure => simp [intOf]; omega
              · go_wp2
                go_roundw
                case rel => exact ⟨k + 1, S + y, _, _, by omega, by go_num, rfl, rfl, rfl, is1, is2, by omega, by omega, HD2, HA2, HB2, hbi⟩
                case measure => simp [intOf]; omega
          · have hkn : k = n := by omega
            subst hkn
            have hD : sumZ sh = S := by rw [HD.out, List.drop_eq_nil_of_le (by have := HN.out; have := HV.out.len; omega)]; simp [sumZ]
            have hA : satF 0 (l.map Wnt.want) = Al := by rw [HA.out, List.drop_eq_nil_of_le (by have := HN.out; simp; omega)]; rfl
            have hB : satF 0 (lacksL l sh) = La := by rw [HB.out, List.drop_eq_nil_of_le (by have := HLL.out; have := HN.out; omega)]; rfl
            have hmin : S = min total Al := by rw [← hD, ← hA]; exact HSU.out
            have hmc : (total ≤ Al ∧ S = total) ∨ (¬ total ≤ Al ∧ S = Al) := by omega
            have HB2 := Lib.hid hB
            have hr4 := hr3.up hb
            have hq4 := hq3.up hb
            have hb4 := sub_trans hb3' hb
            clear hD hA hB hmin HD HA HB hlt hr3 hq3 hb
            rcases hmc with ⟨hle, rfl⟩ | ⟨hle, rfl⟩
            all_goals
              go_wp2_with fail
              refine (wants_at l _ _ _ _ hr4 (by omega)).mono ?_
              rintro e5 w5 ⟨A5, d5, rfl, hb5, hq5⟩
              have hq6 := hq4.up hb5
              have hb5' := sub_trans hb4 hb5
              go_wp2_with fail
              refine (lacks_any l sh _ _ _ _ _ _ _ hq5 hq6 (Nat.le_refl _) (by omega) HV.out).mono ?_
              rintro e6 w6 ⟨rfl, hb6⟩
              rw [HB2.out]
              have hb6' := sub_trans hb5' hb6
              go_wp2
              go_ret
              exact ⟨rfl, hb6'⟩
      · have hsh := sharesOf_bad (fun e => h0 (hcode.trans e))
        have HS := Lib.hid hsh
        have h0' : (code != 0) = true := by simpa using h0
        clear hsh hcode h0
        go_enter Try.func5, Try.ntmps5
        go_wp2_with fail
        refine (awake51_any w).mono ?_
        rintro e1 w1 ⟨rfl, hb⟩
        have hr1 := hr.up hb
        go_wp2_with fail
        refine (wants_at l _ _ _ _ hr1 (by omega)).mono ?_
        rintro e2 w2 ⟨A2, d2, rfl, hb2, hq2⟩
        have hb2' := sub_trans hb hb2
        go_wp2_with fail
        refine (share_at total l _ _ _ _ hq2 (by omega) hi hok).mono ?_
        rintro e3 w3 ⟨A3, d3, rfl, hb3, hq3⟩
        rw [← HC.out, HS.out]
        have hb3' := sub_trans hb2' hb3
        go_wp2
        go_ret
        exact ⟨rfl, hb3'⟩
  · go_enter Try.func5, Try.ntmps5
    go_wp2_with fail
    refine (awake51_any w).mono ?_
    rintro e1 w1 ⟨rfl, hb⟩
    go_wp2
    go_ret
    exact ⟨rfl, hb⟩
end Go.Proofs.Ytkkhdjlloibiiaa
