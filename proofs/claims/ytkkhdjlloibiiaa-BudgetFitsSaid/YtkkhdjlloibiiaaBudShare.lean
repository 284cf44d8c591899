/-
  The walks of budget.neediest and budget.Share. Conditions: few elements, numbers of 64 bits.
-/
import Derived.Test.YtkkhdjlloibiiaaBudWalk
namespace Go.Proofs.Ytkkhdjlloibiiaa
open Go.RowKit Go.Fw
set_option maxHeartbeats 1000000
set_option maxRecDepth 4000
set_option linter.unusedVariables false
set_option linter.unusedSimpArgs false

theorem neediest_any (l : List Wnt) (has : List Int) (A A2 : Option Addr) (c c2 n B : Nat) (w : World) (hr : Reads w B 2 A n (wnts l)) (hr2 : Reads w B 1 A2 n (i64s has)) (hB : B ≤ w.heap.size) (hl : n ≤ 1000) (hin : ShInv l has) :
    Calls Try.prog 17 #[.slice A n c, .slice A2 n c2] w fun e w' => e = .returned (.int .i64 (needL (lacksL l has))) ∧ Below w.heap.size w w' := by
  have hn := wnt_len hr
  have HN := Lib.hid hn
  clear hn
  have HF : Hid (needL (lacksL l has) = needF 0 (-1) 0 ((lacksL l has).drop 0)) := Lib.hid rfl
  go_enter Try.func17, Try.ntmps17
  go_wp2
  go_loopw [5, 6, 12] (fun b m i wr => ∃ (k : Nat) (best most : Int), k ≤ n ∧ i = .int .i64 k ∧ b = .int .i64 best ∧ m = .int .i64 most ∧ 0 ≤ most ∧ Hid (needL (lacksL l has) = needF k best most ((lacksL l has).drop k)) ∧ Below w.heap.size w wr) (fun _ _ i _ => n - (intOf i).toNat)
  case atStart => exact ⟨0, -1, 0, by omega, rfl, rfl, rfl, by decide, HF, Below.refl _ _⟩
  case round =>
    obtain ⟨k, best, most, hk, rfl, rfl, rfl, hm0, HG, hb⟩ := hrel
    by_cases hlt : k < n
    · have hkl : k < l.length := by have := HN.out; omega
      have hkh : k < has.length := by have := HN.out; have := hin.len; omega
      have hkk : k < (lacksL l has).length := by rw [lacksL_length hin.len]; exact hkl
      have hbw : Below B w wr := hb.mono hB
      obtain ⟨bl, off, rfl, hbl, g0, g1⟩ := wnt_at (hr.below hbw) hkl
      obtain ⟨ad, u, rfl, hbl2, hx, g2⟩ := (hr2.below hbw).at_ hlt
      obtain rfl := i64s_get hx hkh
      obtain ⟨i1, i2, i3, i4⟩ := hin.at_ k hkl hkh
      have b1 := needF_yes best most hkk
      have b2 := needF_no best most hkk
      rw [lacksL_get hkk hkl hkh] at b1 b2
      generalize l[k] = x at *
      obtain ⟨x0, x1⟩ := x
      generalize has[k] = y at *
      simp only at g0 g1 b1 b2 i1 i2 i3 i4
      have hb2 : ∀ o, Below w.heap.size w (wr.alloc o) := fun o => sub_alloc hb o
      have a2 : ∀ o, (wr.alloc o).cell? (ad.add k) = some (.int .i64 y) := fun o => (World.cell?_alloc_lt wr o _ (World.block_lt_of_cell? wr _ g2)).trans g2
      by_cases c1 : most < x1 - y
      · have HX := Lib.hid (b1 c1)
        clear b1 b2 hx
        go_wp2
        go_quiet (fail)
        go_wp2
        go_roundw
        case rel => exact ⟨k + 1, k, x1 - y, by omega, by go_num, rfl, rfl, by omega, Lib.hid (by rw [HG.out, HX.out]), by repeat (first | exact hb | apply sub_drewN | apply sub_alloc)⟩
        case measure => simp [intOf]; omega
      · have HX := Lib.hid (b2 c1)
        clear b1 b2 hx
        go_wp2
        go_quiet (fail)
        go_wp2
        go_roundw
        case rel => exact ⟨k + 1, best, most, by omega, by go_num, rfl, rfl, hm0, Lib.hid (by rw [HG.out, HX.out]), by repeat (first | exact hb | apply sub_drewN | apply sub_alloc)⟩
        case measure => simp [intOf]; omega
    · have HX : Hid (needL (lacksL l has) = best) := by
        show _ = _
        rw [HG.out, List.drop_eq_nil_of_le (by rw [lacksL_length hin.len]; have := HN.out; omega)]
        rfl
      go_wp2
      go_ret
      exact ⟨ret_i HX.out.symm, hb⟩

theorem run_make64 (n : Nat) (hn : n ≤ 1000) (w : World) : (Instr.makeSlice 24 (.int .i64 (n : Int)) (.int .i64 (n : Int))).run Try.prog w = .ok (.slice (some ⟨w.heap.size, 0, none⟩) n n) (w.alloc (.cells (iarr (List.replicate n 0)) 2)) := by
  obtain ⟨i, hi, hz, hsz, hby⟩ := info_parts (show (Try.prog.info? 2).map (fun i => (i.zero, i.size, i.bytes)) = some (some (.int .i64 0), 1, 8) by kernel_rfl)
  have h := run_make (P := Try.prog) w 24 2 i (.int .i64 0) Try.underlying24 hi hz .i64 .i64 n n (by omega) (by omega) (by rw [hby]; omega) (by omega)
  rw [hsz, Nat.mul_one] at h
  simp only [Int.toNat_natCast] at h
  rw [made_zeros] at h
  exact h

/-- the closure that gives one more -/
theorem give_any (has : List Int) (b : Nat) (f : Int) (g0 g1 g2 n : Nat) (w : World) (h0 : Blk w g0 2 (iarr has)) (h1 : Blk w g1 24 #[.slice (some ⟨g0, 0, none⟩) n n]) (h2 : Blk w g2 2 #[.int .i64 f]) (h01 : g0 ≠ g1) (h02 : g0 ≠ g2) (h12 : g1 ≠ g2)
    (hb : b < n) (hbl : b < has.length) (hx : -9223372036854775808 ≤ has[b]) (hx' : has[b] < 9223372036854775807) (hf : 0 ≤ f ∧ f ≤ 9223372036854775807) (hn : n ≤ 1000) :
    Calls Try.prog 16 #[.int .i64 b, .pointer (some ⟨g1, 0, none⟩), .pointer (some ⟨g2, 0, none⟩)] w fun e w' => e = .returned (.tuple #[]) ∧
      ((w.setCell ⟨g0, b, none⟩ (.int .i64 (has[b] + 1))).setCell ⟨g2, 0, none⟩ (.int .i64 (f - 1))) = w' := by
  have c0 := h0.cell b
  rw [iarr_get hbl] at c0
  have c1 := h1.cell 0
  have c2 := h2.cell 0
  have f0 := h0.frozen b
  have f2 := h2.frozen 0
  simp at c1 c2
  obtain ⟨hf0, hf1⟩ := hf
  generalize has[b] = x at *
  go_enter Try.func16, Try.ntmps16
  go_wp2
  go_end0
  exact ⟨rfl, rfl⟩

def cellNat (w : World) (p : Addr) : Nat := match w.cell? p with | some (.int _ n) => n.toNat | _ => 0
theorem cellNat_of {w : World} {p : Addr} {n : Int} (h : w.cell? p = some (.int .i64 n)) : cellNat w p = n.toNat := by unfold cellNat; rw [h]
theorem sumZ_take_le {l : List Int} (h : ∀ x ∈ l, 0 ≤ x) (k : Nat) : 0 ≤ sumZ (l.take k) ∧ sumZ (l.take k) ≤ sumZ l := by
  have h1 := sumZ_nonneg (l := l.take k) fun x hx => h x (List.mem_of_mem_take hx)
  have h2 := sumZ_nonneg (l := l.drop k) fun x hx => h x (List.mem_of_mem_drop hx)
  have h3 : sumZ l = sumZ (l.take k) + sumZ (l.drop k) := by rw [← sumZ_app, List.take_append_drop]
  omega
theorem start_set {ms : List Int} {k n : Nat} (hk : k < ms.length) (hn : n = ms.length) : (ms.take k ++ List.replicate (n - k) 0).set k ms[k] = ms.take (k + 1) ++ List.replicate (n - (k + 1)) 0 := by
  subst hn
  have e : ms.length - k = (ms.length - (k + 1)) + 1 := by omega
  rw [e, List.replicate_succ, List.set_append_right _ _ (by simp; omega)]
  have h1 : k - (ms.take k).length = 0 := by simp; omega
  rw [h1, List.set_cons_zero, List.take_succ_eq_append_getElem hk, List.append_assoc]
  rfl

theorem share_any (total : Int) (l : List Wnt) (A : Option Addr) (c n : Nat) (w : World) (hr : Reads w w.heap.size 2 A n (wnts l)) (hl : n ≤ 1000) (ht : In64 total) (hok : ∀ x ∈ l, x.ok) :
    Calls Try.prog 7 #[.int .i64 total, .slice A n c] w fun e w' => ∃ v, e = .returned (.tuple #[v, .int .i64 (bcheck total l)]) ∧ MineS 1 w w' 2 v (if bcheck total l = 0 then n else 0) (i64s (if bcheck total l = 0 then shareL total l else [])) := by
  have hn := wnt_len hr
  have HN := Lib.hid hn
  clear hn
  by_cases h0 : bcheck total l = 0
  · rw [if_pos h0, if_pos h0]
    obtain ⟨z1, z2, z3, z4, z5⟩ := bcheck_zero h0
    have H0 := Lib.hid h0
    have hmk := run_make64 n hl
    have hms : ∀ x ∈ l.map Wnt.mn, 0 ≤ x := by
      intro y hy
      obtain ⟨z, hz, rfl⟩ := List.mem_map.1 hy
      exact (z4 z hz).1
    have hinv := ShInv.start z4 hok
    have HST : Hid (shareL total l = shareF (total - sumZ (l.map Wnt.mn)).toNat l (l.map Wnt.mn)) := Lib.hid rfl
    have hml : (l.map Wnt.mn).length = l.length := by simp
    obtain ⟨ms, hmsd⟩ : ∃ ms, ms = l.map Wnt.mn := ⟨_, rfl⟩
    have HMS := Lib.hid hmsd
    rw [← hmsd] at hms hinv HST hml z5
    clear h0 hmsd
    have HZ4 := Lib.hid z4
    have HML := Lib.hid hml
    have hsum := sumZ_take_le hms
    have HSUM := Lib.hid hsum
    clear z4 hml hsum hms
    go_enter Try.func7, Try.ntmps7
    go_wp2_with fail
    refine (bcheck_any total l _ _ _ _ hr hl ht hok).mono ?_
    rintro e w1 ⟨rfl, hb1⟩
    rw [H0.out]
    have hr1 := hr.up hb1
    go_wp2_with fail
    clear hmk
    have hW0 := sub_alloc (sub_alloc (sub_alloc hb1 (.cells (iarr (List.replicate n 0)) 2)) (.cells #[.slice (some ⟨w1.heap.size, 0, none⟩) n n] 24)) (.cells #[.int .i64 total] 2)
    have k0 := ((Blk.new_at w1 2 (iarr (List.replicate n 0)) (g := w1.heap.size) rfl).alloc (.cells #[.slice (some ⟨w1.heap.size, 0, none⟩) n n] 24)).alloc (.cells #[.int .i64 total] 2)
    have k1 := (Blk.new_at (w1.alloc (.cells (iarr (List.replicate n 0)) 2)) 24 #[.slice (some ⟨w1.heap.size, 0, none⟩) n n] (g := w1.heap.size + 1) (by simp)).alloc (.cells #[.int .i64 total] 2)
    have k2 := Blk.new_at ((w1.alloc (.cells (iarr (List.replicate n 0)) 2)).alloc (.cells #[.slice (some ⟨w1.heap.size, 0, none⟩) n n] 24)) 2 #[.int .i64 total] (g := w1.heap.size + 1 + 1) (by simp)
    have hbw := hb1.size
    go_loopw [26] (fun i wr => ∃ (k : Nat), k ≤ n ∧ i = .int .i64 k ∧ Blk wr w1.heap.size 2 (iarr (ms.take k ++ List.replicate (n - k) 0)) ∧ Blk wr (w1.heap.size + 1) 24 #[.slice (some ⟨w1.heap.size, 0, none⟩) n n] ∧ Blk wr (w1.heap.size + 1 + 1) 2 #[.int .i64 (total - sumZ (ms.take k))] ∧ Below w.heap.size w wr) (fun i _ => n - (intOf i).toNat)
    case atStart => exact ⟨0, by omega, rfl, k0, k1, by simpa [sumZ] using k2, hW0⟩
    case round =>
      obtain ⟨k, hk, rfl, k0, k1, k2, hb⟩ := hrel
      by_cases hlt : k < n
      · have hkl : k < l.length := by have := HN.out; omega
        have hkm : k < ms.length := by have := HN.out; have := HML.out; omega
        obtain ⟨bl, off, rfl, hbl, g0, g1⟩ := wnt_at (hr.up hb) hkl
        have hse := start_set hkm (show n = ms.length by have := HN.out; have := HML.out; omega)
        have hsu := sumZ_take hkm
        have hs1 := HSUM.out k
        have hs2 := HSUM.out (k + 1)
        have hmk : ms[k] = l[k].mn := by have := HMS.out; subst this; simp
        have hln : k < (ms.take k ++ List.replicate (n - k) 0).length := by simp; omega
        have hget : (ms.take k ++ List.replicate (n - k) 0)[k] = 0 := by
          rw [List.getElem_append_right (by simp; omega)]
          simp
        rw [hmk] at hse hsu
        have hz4 := HZ4.out _ (List.getElem_mem hkl)
        generalize l[k] = x at *
        obtain ⟨x0, x1⟩ := x
        simp only at g0 g1 hse hsu
        generalize sumZ (ms.take k) = S at *
        generalize ms.take k ++ List.replicate (n - k) 0 = cur at *
        have c0 := k0.cell k
        rw [iarr_get hln, hget] at c0
        have c1 := k1.cell 0
        have c2 := k2.cell 0
        have f0 := k0.frozen k
        have f2 := k2.frozen 0
        simp at c1 c2
        have l0 := k0.lt
        have l1 := k1.lt
        have l2 := k2.lt
        have HSE := Lib.hid hse
        have HSU := Lib.hid hsu
        have s0 : total - S - x0 = total - sumZ (ms.take (k + 1)) := by omega
        have HS0 := Lib.hid s0
        have s1 : 0 ≤ S := hs1.1
        have s2 : S ≤ 4096 := by omega
        have s3 : 0 ≤ x0 := hz4.1
        have s4 : x0 ≤ 4096 := by omega
        clear hget hln hmk hse hsu s0 hs1 hs2 hz4
        go_wp2
        go_roundw
        case rel =>
          refine ⟨k + 1, by omega, by go_num, ?_, ?_, ?_, ?_⟩
          · rw [← HSE.out, ← iarr_set]
            exact ((k0.set_ k _).far (p := ⟨w1.heap.size + 1 + 1, 0, none⟩) (by simp; omega) _).alloc _
          · exact ((k1.far (p := ⟨w1.heap.size, k, none⟩) (by simp) _).far (p := ⟨w1.heap.size + 1 + 1, 0, none⟩) (by simp) _).alloc _
          · rw [← HS0.out]
            exact ((k2.far (p := ⟨w1.heap.size, k, none⟩) (by simp; omega) _).set_ 0 _).alloc _
          · exact sub_alloc ((hb.setCell (p := ⟨w1.heap.size, k, none⟩) hbw _).setCell (p := ⟨w1.heap.size + 1 + 1, 0, none⟩) (by simp; omega) _) _
        case measure => simp [intOf]; omega
      · have hkn : k = ms.length := by have := HN.out; have := HML.out; omega
        rw [hkn, List.take_length, show n - ms.length = 0 by omega, List.replicate_zero, List.append_nil] at k0
        rw [hkn, List.take_length] at k2
        have hms2 := HSUM.out ms.length
        rw [List.take_length] at hms2
        clear hkn
        have hf : total - sumZ ms = ((total - sumZ ms).toNat : Int) := by omega
        have hf2 : (total - sumZ ms).toNat ≤ 4096 := by omega
        rw [hf] at k2
        generalize (total - sumZ ms).toNat = f0 at *
        clear hf hms2 z5
        go_wp2_with fail
        go_loopw [12] (fun i wr => ∃ (f : Nat) (has : List Int), f ≤ 4096 ∧ Hid (shareL total l = shareF f l has) ∧ Hid (ShInv l has) ∧ Blk wr w1.heap.size 2 (iarr has) ∧ Blk wr (w1.heap.size + 1) 24 #[.slice (some ⟨w1.heap.size, 0, none⟩) n n] ∧ Blk wr (w1.heap.size + 1 + 1) 2 #[.int .i64 f] ∧ Below w.heap.size w wr) (fun _ wr => cellNat wr ⟨w1.heap.size + 1 + 1, 0, none⟩)
        case atStart => exact ⟨f0, ms, hf2, HST, Lib.hid hinv, k0, k1, k2, hb⟩
        case round =>
          clear k0 k1 k2 hb hf2 HST hinv hr1 hW0
          obtain ⟨f, has, hf, HG, HI, k0, k1, k2, hb⟩ := hrel
          have hlen : has.length = n := by have := HI.out.len; have := HN.out; omega
          have hown := own_of_blk (B := w.heap.size) (n := n) (s := 1) k0 hbw (by rw [iarr_size]; omega) (by unfold maxLen; omega)
          rw [iarr_list] at hown
          have c1 := k1.cell 0
          have c2 := k2.cell 0
          simp at c1 c2
          have hend : shareL total l = has → MineS 1 w wr 2 (.slice (some ⟨w1.heap.size, 0, none⟩) n n) n (i64s (shareL total l)) := fun e => by rw [e]; exact ⟨hown, hb⟩
          by_cases hf0 : f = 0
          · subst hf0
            have HE := Lib.hid (hend HG.out)
            clear hend hlen
            go_wp2
            go_ret2
            exact ⟨_, by rw [H0.out]; rfl, HE.out⟩
          · have hfp : 0 < f := by omega
            have HL := Lib.hid hlen
            clear hlen hf0
            have hq := Reads.of_own hown
            go_wp2_with fail
            refine (neediest_any l has _ _ _ _ _ _ _ (hr.up hb) hq (Nat.le_refl _) hl HI.out).mono ?_
            rintro e w2 ⟨rfl, hb2⟩
            have j0 := k0.later hb2
            have j1 := k1.later hb2
            have j2 := k2.later hb2
            have hb3 := sub_trans hb hb2
            rcases needL_cases (lacksL l has) with ⟨hc, _⟩ | ⟨b, hbl, hc, hp, _⟩
            · have HE := Lib.hid ((hend ((HG.out).trans (shareF_end f (by omega)))).later hb2)
              rw [hc]
              have d1 := j1.cell 0
              simp at d1
              clear hend hc hq hown c1 c2 k0 k1 k2
              go_wp2
              go_ret2
              exact ⟨_, by rw [H0.out]; rfl, HE.out⟩
            · have hll := lacksL_length HI.out.len
              have hbn : b < l.length := by omega
              have hbh : b < has.length := by have := HI.out.len; omega
              rw [lacksL_get hbl hbn hbh] at hp
              have hat := HI.out.at_ b hbn hbh
              obtain ⟨f, rfl⟩ : ∃ f', f = f' + 1 := ⟨f - 1, by omega⟩
              have HS := Lib.hid (HG.out.trans (shareF_on f b hc hbh))
              have HI2 := Lib.hid (HI.out.step hbn hbh hp)
              have hbn2 : b < n := by have := HN.out; omega
              have hb0 : -9223372036854775808 ≤ has[b] := by omega
              have hb1' : has[b] < 9223372036854775807 := by omega
              have hfi : (((f + 1 : Nat) : Int) - 1) = (f : Int) := by omega
              have HFI := Lib.hid hfi
              rw [hc]
              clear hend hc hq hown c1 c2 hp hat hll hfi
              go_wp2_with fail
              refine (give_any has b ((f + 1 : Nat) : Int) w1.heap.size (w1.heap.size + 1) (w1.heap.size + 1 + 1) n _ j0 j1 j2 (by omega) (by omega) (by omega) hbn2 hbh hb0 hb1' (by omega) hl).mono ?_
              rintro e w3 ⟨rfl, rfl⟩
              go_wp2
              go_roundw
              case rel =>
                refine ⟨f, _, by omega, HS, HI2, ?_, ?_, ?_, ?_⟩
                · rw [← iarr_set]
                  exact (j0.set_ b _).far (p := ⟨w1.heap.size + 1 + 1, 0, none⟩) (by simp; omega) _
                · exact (j1.far (p := ⟨w1.heap.size, b, none⟩) (by simp) _).far (p := ⟨w1.heap.size + 1 + 1, 0, none⟩) (by simp) _
                · rw [← HFI.out]
                  exact (j2.far (p := ⟨w1.heap.size, b, none⟩) (by simp; omega) _).set_ 0 _
                · exact (hb3.setCell (p := ⟨w1.heap.size, b, none⟩) hbw _).setCell (p := ⟨w1.heap.size + 1 + 1, 0, none⟩) (by simp; omega) _
              case measure =>
                have e1 := (((j2.far (p := ⟨w1.heap.size, b, none⟩) (by simp; omega) (.int .i64 (has[b] + 1))).set_ 0 (.int .i64 (((f + 1 : Nat) : Int) - 1)))).cell 0
                have e2 := k2.cell 0
                simp at e2
                rw [cellNat_of (n := ((f + 1 : Nat) : Int) - 1) (by simpa using e1), cellNat_of (n := ((f + 1 : Nat) : Int)) (by simpa using e2)]
                omega
  · rw [if_neg h0, if_neg h0]
    have H0 := Lib.hid h0
    have hb' : (bcheck total l != 0) = true := by simpa using h0
    clear h0
    go_enter Try.func7, Try.ntmps7
    go_wp2_with fail
    refine (bcheck_any total l _ _ _ _ hr hl ht hok).mono ?_
    rintro e w1 ⟨rfl, hb1⟩
    go_wp2
    go_ret2
    exact ⟨_, rfl, MineS.nil_at 1 hb1 2⟩
end Go.Proofs.Ytkkhdjlloibiiaa
