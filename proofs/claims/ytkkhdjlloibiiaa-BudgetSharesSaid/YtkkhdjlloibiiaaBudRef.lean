/-
  The walk of the reference's Share. Conditions: few elements, numbers of 64 bits, nothing wrong.
-/
import Derived.Test.YtkkhdjlloibiiaaBudShare
namespace Go.Proofs.Ytkkhdjlloibiiaa
open Go.RowKit Go.Fw
set_option maxHeartbeats 1000000
set_option maxRecDepth 4000
set_option linter.unusedVariables false
set_option linter.unusedSimpArgs false
theorem elem64S : ElemS Try.prog 24 2 (.int .i64 0) 1 8 := ⟨Try.underlying24, by kernel_rfl, rfl⟩

theorem rshare_any (total : Int) (l : List Wnt) (A : Option Addr) (c n : Nat) (w : World) (hr : Reads w w.heap.size 2 A n (wnts l)) (hl : n ≤ 1000) (hok : ∀ x ∈ l, x.ok) (h0 : bcheck total l = 0) :
    Calls Try.prog 12 #[.int .i64 total, .slice A n c] w fun e w' => ∃ v, e = .returned v ∧ MineS 1 w w' 2 v n (i64s (shareL total l)) := by
  have hn := wnt_len hr
  have HN := Lib.hid hn
  clear hn
  obtain ⟨z1, z2, z3, z4, z5⟩ := bcheck_zero h0
  have hms : ∀ x ∈ l.map Wnt.mn, 0 ≤ x := by
    intro y hy
    obtain ⟨z, hz, rfl⟩ := List.mem_map.1 hy
    exact (z4 z hz).1
  have hinv := Lib.hid (ShInv.start z4 hok)
  have HST : Hid (shareL total l = shareF (total - sumZ (l.map Wnt.mn)).toNat l (l.map Wnt.mn)) := Lib.hid rfl
  have hml : (l.map Wnt.mn).length = l.length := by simp
  obtain ⟨ms, hmsd⟩ : ∃ ms, ms = l.map Wnt.mn := ⟨_, rfl⟩
  have HMS := Lib.hid hmsd
  rw [← hmsd] at hms hinv HST hml z5
  have HZ4 := Lib.hid z4
  have HML := Lib.hid hml
  have HSUM := Lib.hid (sumZ_take_le hms)
  clear h0 hmsd z4 hml hms
  go_enter Try.func12, Try.ntmps12
  go_wp2
  go_loopw [5, 6, 7] (fun v f i wr => ∃ (k : Nat), k ≤ n ∧ i = .int .i64 k ∧ f = .int .i64 (total - sumZ (ms.take k)) ∧ MineS 1 w wr 2 v k (i64s (ms.take k))) (fun _ _ i _ => n - (intOf i).toNat)
  case atStart => exact ⟨0, by omega, rfl, by simp [sumZ], MineS.nil_ 1 _ _⟩
  case round =>
    obtain ⟨k, hk, rfl, rfl, hm⟩ := hrel
    by_cases hlt : k < n
    · have hkl : k < l.length := by have := HN.out; omega
      have hkm : k < ms.length := by have := HN.out; have := HML.out; omega
      obtain ⟨bl, off, rfl, hbl, g0, g1⟩ := wnt_at (hr.below hm.below) hkl
      have hsu := sumZ_take hkm
      have hs1 := HSUM.out k
      have hs2 := HSUM.out (k + 1)
      have hmk : ms[k] = l[k].mn := by have := HMS.out; subst this; simp
      have hz4 := HZ4.out _ (List.getElem_mem hkl)
      have hse : i64s (ms.take (k + 1)) = i64s (ms.take k) ++ [.int .i64 l[k].mn] := by rw [List.take_succ_eq_append_getElem hkm, hmk]; simp [i64s]
      rw [hmk] at hsu
      generalize l[k] = x at *
      obtain ⟨x0, x1⟩ := x
      simp only at g0 g1 hse hsu hz4
      have s1 : 0 ≤ sumZ (ms.take k) := hs1.1
      have s2 : sumZ (ms.take k) ≤ 4096 := by omega
      have s3 : 0 ≤ x0 := hz4.1
      have s4 : x0 ≤ 4096 := by omega
      have s0 : total - sumZ (ms.take k) - x0 = total - sumZ (ms.take (k + 1)) := by omega
      have HSE := Lib.hid hse
      have HS0 := Lib.hid s0
      generalize sumZ (ms.take k) = S at *
      clear hmk hse hsu s0 hs1 hs2 hz4
      go_wp2_with (at_builtin; go_must (refine wpList_append_oneG elem64S (by decide) rfl (.tmp 18) (.tmp 24) rfl rfl hm.own hm.le rfl rfl rfl (by simp [Value.oneCell']) (by omega) (by unfold maxLen; omega) ?_); intro v' w' hm' hg'; have g0' := ((hm.below.grown hg' hm.le (fun k hk => (hm.own.lt k hk).1)).cell (p := ⟨bl, off + k * 2, none⟩) hbl).trans ((hm.below.cell (p := ⟨bl, off + k * 2, none⟩) hbl).symm.trans g0); clear g0 g1)
      go_roundw
      case rel => exact ⟨k + 1, by omega, by go_num, by rw [← HS0.out], by rw [HSE.out]; exact hm.app hg' hm'⟩
      case measure => simp [intOf]; omega
    · have hkn : k = ms.length := by have := HN.out; have := HML.out; omega
      rw [hkn, List.take_length] at hm ⊢
      have hms2 := HSUM.out ms.length
      rw [List.take_length] at hms2
      have hkn2 : ms.length = n := by omega
      rw [hkn2] at hm
      clear hkn
      have hf : total - sumZ ms = ((total - sumZ ms).toNat : Int) := by omega
      have hf2 : (total - sumZ ms).toNat ≤ 4096 := by omega
      rw [hf]
      generalize (total - sumZ ms).toNat = f0 at *
      clear hf hms2 z5 hlt hk
      rw [hkn2]
      clear hkn2
      obtain ⟨v, hv⟩ : ∃ v, v = u5 := ⟨_, rfl⟩
      subst hv
      have hnn : ¬ (n : Int) < (n : Int) := by omega
      go_wp2_with fail
      go_loopw [6] (fun fv wr => ∃ (f : Nat) (has : List Int), f ≤ 4096 ∧ fv = .int .i64 f ∧ Hid (shareL total l = shareF f l has) ∧ Hid (ShInv l has) ∧ MineS 1 w wr 2 v n (i64s has)) (fun fv _ => (intOf fv).toNat)
      case atStart => exact ⟨f0, ms, hf2, rfl, HST, hinv, hm⟩
      case round =>
        clear hm hf2 HST hinv hnn
        obtain ⟨f, has, hf, rfl, HG, HI, hm⟩ := hrel
        by_cases hf0 : f = 0
        · subst hf0
          have HE := Lib.hid (show MineS 1 w wr 2 v n (i64s (shareL total l)) by rw [HG.out]; exact hm)
          clear hm
          go_wp2
          go_ret
          exact ⟨_, rfl, HE.out⟩
        · have hfp : 0 < f := by omega
          have hlen : has.length = n := by have := HI.out.len; have := HN.out; omega
          have hll : (lacksL l has).length = n := by rw [lacksL_length HI.out.len]; have := HN.out; omega
          have HL := Lib.hid hlen
          have HLL := Lib.hid hll
          have hbest := Lib.hid (show BestOf (lacksL l has) 0 (-1) 0 from .inl ⟨rfl, rfl, fun j _ h => by omega⟩)
          have hneed : Hid (needL (lacksL l has) = needF 0 (-1) 0 ((lacksL l has).drop 0)) := Lib.hid rfl
          have hcell : ∀ k, k < n → ∃ g c, v = .slice (some ⟨g, 0, none⟩) n c ∧ ∃ y : Int, has[k]? = some y ∧ wr.cell? ⟨g, k, none⟩ = some (.int .i64 y) := by
            intro k hk
            obtain ⟨g, c, hv, _, _, _, hc, _⟩ := own_at hm.own hk
            refine ⟨g, c, hv, has[k]'(by omega), List.getElem?_eq_getElem _, ?_⟩
            rw [hc]
            simp [i64s, show k < has.length by omega]
          have HC := Lib.hid hcell
          clear hlen hll hcell hf0
          go_wp2_with fail
          obtain ⟨wo, hwo⟩ : ∃ wo : World, wo = wr := ⟨_, rfl⟩
          subst hwo
          go_loopw [8, 9] (fun bv i wr => ∃ (k : Nat) (best most : Int), k ≤ n ∧ i = .int .i64 k ∧ bv = .int .i64 best ∧ Hid (BestOf (lacksL l has) k best most) ∧ Hid (needL (lacksL l has) = needF k best most ((lacksL l has).drop k)) ∧ Hid (∃ q, wr = wo.drewN q)) (fun _ i _ => n - (intOf i).toNat)
          case atStart => exact ⟨0, -1, 0, by omega, rfl, rfl, hbest, hneed, Lib.hid ⟨0, rfl⟩⟩
          case round =>
            obtain ⟨k, best, most, hk, rfl, rfl, HB, HF, HW⟩ := hrel
            obtain ⟨q, rfl⟩ := HW.out
            clear HW hbest hneed
            by_cases hlt : k < n
            · have hkl : k < l.length := by have := HN.out; omega
              have hkh : k < has.length := by have := HL.out; omega
              have hkk : k < (lacksL l has).length := by have := HLL.out; omega
              obtain ⟨bl, off, rfl, hbl, g0, g1⟩ := wnt_at (hr.below hm.below) hkl
              obtain ⟨g, c2, rfl, y, hy, g2⟩ := HC.out k hlt
              have hy' : has[k] = y := by rw [List.getElem?_eq_getElem hkh] at hy; injection hy
              have hat := HI.out.at_ k hkl hkh
              have b1 := needF_yes best most hkk
              have b2 := needF_no best most hkk
              rw [lacksL_get hkk hkl hkh, hy'] at b1 b2
              have hby := fun hm => HB.out.yes hkk hm
              have hbn := fun hm => HB.out.no hkk hm
              rw [lacksL_get hkk hkl hkh, hy'] at hby hbn
              rw [hy'] at hat
              have hm0 : 0 ≤ most := by rcases HB.out with ⟨_, h, _⟩ | ⟨_, _, _, _, _, h, _⟩ <;> omega
              have hX : ∀ b, b < n → ∃ z0 z1 yb : Int, wo.cell? ⟨bl, off + b * 2 + 1, none⟩ = some (.int .i64 z1) ∧ wo.cell? ⟨g, b, none⟩ = some (.int .i64 yb) ∧ 0 ≤ yb ∧ yb ≤ z1 ∧ z1 ≤ 9223372036854775807 ∧ ∀ (h : b < (lacksL l has).length), (lacksL l has)[b] = z1 - yb := by
                intro b hb
                have hb1 : b < l.length := by have := HN.out; omega
                have hb2 : b < has.length := by have := HL.out; omega
                obtain ⟨bl', off', e1, _, _, e2⟩ := wnt_at (hr.below hm.below) hb1
                obtain ⟨g', c', e3, yb, e4, e5⟩ := HC.out b hb
                have h4 : has[b] = yb := by rw [List.getElem?_eq_getElem hb2] at e4; injection e4
                have ha := HI.out.at_ b hb1 hb2
                simp only [Option.some.injEq, Addr.mk.injEq, and_true] at e1
                obtain ⟨rfl, rfl⟩ := e1
                injection e3 with e3 _ _
                simp only [Option.some.injEq, Addr.mk.injEq, and_true] at e3
                subst e3
                rw [h4] at ha
                exact ⟨0, _, yb, e2, e5, by omega, by omega, by omega, fun h => by rw [lacksL_get h hb1 hb2, h4]⟩
              have HX := Lib.hid hX
              have HBE := Lib.hid HB.out
              clear hX
              generalize l[k] = X at *
              obtain ⟨x0, x1⟩ := X
              simp only at g0 g1 hat b1 b2 hby hbn
              obtain ⟨t1, t2, t3, t4⟩ := hat
              have t5 : 0 ≤ y := by omega
              clear hy hy' g0 t1 t2 HB
              by_cases c0 : y < x1
              · have d0 : decide (y < x1) = true := by simp [c0]
                rcases HBE.out with ⟨rfl, rfl, _⟩ | ⟨b, hbl2, hbk, rfl, hmb, hmp, _⟩
                · have HY := Lib.hid (b1 (by omega))
                  have HYB := Lib.hid (hby (by omega))
                  clear b1 b2 hby hbn
                  go_wp2
                  go_quiet (fail)
                  go_wp2
                  go_quiet (fail)
                  go_wp2
                  go_roundw
                  case rel => exact ⟨k + 1, k, _, by omega, by go_num, rfl, HYB, Lib.hid (by rw [HF.out, HY.out]), Lib.hid ⟨_, rfl⟩⟩
                  case measure => simp [intOf]; omega
                · have hbn2 : b < n := by omega
                  obtain ⟨z0, z1, yb, q1, q2, q3, q4, q5, q6⟩ := HX.out b hbn2
                  rw [q6 hbl2] at hmb
                  subst hmb
                  have d3 : decide ((b : Int) < 0) = false := by simp
                  have d4 : (b : Int) < (n : Int) := by omega
                  clear q6
                  by_cases c1 : z1 - yb < x1 - y
                  · have HY := Lib.hid (b1 c1)
                    have HYB := Lib.hid (hby c1)
                    clear b1 b2 hby hbn
                    go_wp2
                    go_quiet (fail)
                    go_wp2
                    go_quiet (fail)
                    go_wp2
                    go_roundw
                    case rel => exact ⟨k + 1, k, _, by omega, by go_num, rfl, HYB, Lib.hid (by rw [HF.out, HY.out]), Lib.hid ⟨_, rfl⟩⟩
                    case measure => simp [intOf]; omega
                  · have HY := Lib.hid (b2 c1)
                    have HYB := Lib.hid (hbn c1)
                    clear b1 b2 hby hbn
                    go_wp2
                    go_quiet (fail)
                    go_wp2
                    go_quiet (fail)
                    go_wp2
                    go_roundw
                    case rel => exact ⟨k + 1, b, _, by omega, by go_num, rfl, HYB, Lib.hid (by rw [HF.out, HY.out]), Lib.hid ⟨_, rfl⟩⟩
                    case measure => simp [intOf]; omega
              · have d0 : decide (y < x1) = false := by simp [c0]
                have c1 : ¬ most < x1 - y := by omega
                have HY := Lib.hid (b2 c1)
                have HYB := Lib.hid (hbn c1)
                clear b1 b2 hby hbn
                go_wp2
                go_quiet (fail)
                go_wp2
                go_quiet (fail)
                go_wp2
                go_roundw
                case rel => exact ⟨k + 1, best, _, by omega, by go_num, rfl, HYB, Lib.hid (by rw [HF.out, HY.out]), Lib.hid ⟨_, rfl⟩⟩
                case measure => simp [intOf]; omega
            · have hkn : k = n := by omega
              subst hkn
              have hbk : Hid (needL (lacksL l has) = best) := by
                show _ = _
                rw [HF.out, List.drop_eq_nil_of_le (by have := HLL.out; omega)]
                rfl
              have hm2 := hm.later (sub_drewN (Below.refl _ _) q)
              have HBE := Lib.hid HB.out
              clear HB HF
              rcases HBE.out with ⟨rfl, rfl, _⟩ | ⟨b, hbl2, hbk2, rfl, hmb, hmp, _⟩
              · have HE := Lib.hid (show MineS 1 w (wo.drewN q) 2 v k (i64s (shareL total l)) by rw [HG.out, shareF_end f (by rw [hbk.out]; decide)]; exact hm2)
                clear hm hm2 hlt
                go_wp2
                go_ret
                exact ⟨_, rfl, HE.out⟩
              · obtain ⟨f, rfl⟩ : ∃ f', f = f' + 1 := ⟨f - 1, by omega⟩
                have hbn : b < l.length := by have := HN.out; omega
                have hbh : b < has.length := by have := HL.out; omega
                rw [lacksL_get hbl2 hbn hbh] at hmb
                have HS := Lib.hid (HG.out.trans (shareF_on f b hbk.out hbh))
                have HI2 := Lib.hid (HI.out.step hbn hbh (by omega))
                have hat := HI.out.at_ b hbn hbh
                obtain ⟨g, c2, rfl, hgB, hgw, hcc, hcl, hfz, hst⟩ := own_at hm2.own hbk2
                have hcl' : (wo.drewN q).cell? ⟨g, b, none⟩ = some (.int .i64 has[b]) := by rw [hcl]; simp [i64s, hbh]
                have hset := hst (.int .i64 (has[b] + 1))
                have hbel := hm2.below
                have e3 : (i64s has).set b (.int .i64 (has[b] + 1)) = i64s (has.set b (has[b] + 1)) := by simp [i64s, List.map_set]
                rw [e3] at hset
                have hfi : (((f + 1 : Nat) : Int) - 1) = (f : Int) := by omega
                have HFI := Lib.hid hfi
                generalize has[b] = y at *
                generalize has.set b (y + 1) = has2 at *
                have y0 : 0 ≤ y := by omega
                have y1 : y < 9223372036854775807 := by omega
                clear hfi hmb hat e3 hcl hst hm hm2 hlt hbk
                go_wp2
                go_roundw
                case rel => exact ⟨f, has2, by omega, by rw [← HFI.out], HS, HI2, hset, hbel.setCell hgB _⟩
                case measure => simp [intOf]
end Go.Proofs.Ytkkhdjlloibiiaa
