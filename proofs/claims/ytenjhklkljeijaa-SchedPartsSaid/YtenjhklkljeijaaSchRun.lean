/-
  The walks of sched.Run, of the reference's Run and of few. Conditions: few tasks and picks, small numbers.
-/
import Derived.Test.YtenjhklkljeijaaSchWatch
import Derived.Test.YtenjhklkljeijaaSame07
namespace Go.Fw
open Go.RowKit
/-- a cell of a row of the call's own, of several cells an element: it reads, may be written, and what the row is then -/
theorem own_atS {w : World} {B s : Nat} {e : TypeId} {n j : Nat} {v : Value} {xs : List Value} (h : w.ownsRow B e s v n xs) (hj : j < n * s) :
    ∃ g c, v = .slice (some ⟨g, 0, none⟩) n c ∧ B ≤ g ∧ g < w.heap.size ∧ n ≤ c ∧ w.cell? ⟨g, j, none⟩ = xs[j]? ∧ w.frozen? ⟨g, j, none⟩ = false ∧ ∀ u, (w.setCell ⟨g, j, none⟩ u).ownsRow B e s v n (xs.set j u) := by
  obtain ⟨hl, h⟩ := h
  rcases h with ⟨_, rfl⟩ | ⟨g, cap, cur, rfl, hB, hh, hnc, hc, hs, ht⟩
  · simp at hl; omega
  · have hb' : Blk w g e cur := hh
    refine ⟨g, cap, rfl, hB, hb'.lt, hnc, ?_, hb'.frozen j, fun u => ⟨by simpa using hl, .inr ⟨g, cap, cur.setIfInBounds j u, rfl, hB, hb'.set_ j u, hnc, hc, by simpa using hs, ?_⟩⟩⟩
    · rw [hb'.cell, ← ht]
      rw [List.getElem?_take_of_lt hj]
      simp
    · rw [← ht, Array.toList_setIfInBounds, List.take_set]
theorem toyV_set (ts : List Toy) : ∀ (b : Nat) (h : b < ts.length), (toyV ts).set (b * 3) (.int .i64 (ts[b].left - 1)) = toyV (ts.set b (toyStep ts[b])) := by
  induction ts with
  | nil => intro b h; simp at h
  | cons t r ih =>
    intro b h
    have e : toyV (t :: r) = t.cells ++ toyV r := rfl
    obtain _ | b := b
    · simp [toyV, Toy.cells, toyStep]
    · rw [e, List.set_append_right _ _ (by rw [Toy.cells_length]; omega), Toy.cells_length, show (b + 1) * 3 - 3 = b * 3 by omega]
      simp only [List.getElem_cons_succ, List.set_cons_succ]
      rw [ih b (by simpa using h)]
      rfl
theorem toyV_get (ts : List Toy) (b j : Nat) (h : b < ts.length) (hj : j < 3) : (toyV ts)[b * 3 + j]? = ts[b].cells[j]? := flat_get _ 3 Toy.cells_length ts b j h hj
end Go.Fw
namespace Go.Proofs.Ytenjhklkljeijaa
open Go.RowKit Go.Fw
set_option maxHeartbeats 2000000
set_option maxRecDepth 4000
set_option linter.unusedVariables false
set_option linter.unusedSimpArgs false

theorem run1_any (x : Int) (w : World) : Calls Try.prog 21 #[.int .i64 x] w fun e w' => e = .returned (.bool true) ∧ w = w' := by
  go_enter Try.func21, Try.ntmps21
  go_wp2
  go_ret
  exact ⟨rfl, rfl⟩
theorem see_all (w : World) (es : List (Option Nat)) (cb : Nat) : See w es cb 21 #[] (fun _ _ => True) (fun _ => False) (fun _ => true) :=
  ⟨fun args w => by kernel_rfl, fun k W _ _ => (run1_any _ W).mono fun e w' ⟨h1, h2⟩ => ⟨h1, trivial, h2 ▸ Keep.refl _ _⟩, fun _ _ _ _ _ => trivial, fun _ h => h.elim⟩

def runAll (u : Int) (ts : List Toy) (n : Nat) (picks : List Int) : Nat × List Int × List Toy := runW (fun _ => true) u ts (List.replicate n 0) 0 picks
def stuckB (u : Int) (res : Nat × List Int × List Toy) : Bool := decide (nextL res.2.2 (u + res.1) 0 < 0) && decide (0 < openL res.2.2)
theorem watch_all (es : List (Option Nat)) (ts : List Toy) (cb : Nat) (u : Int) (picks : List Int) (A Ap : Option Addr) (c cp n m : Nat) (w : World) (res : Nat × List Int × List Toy) (hres : res = runAll u ts n picks)
    (hT : Tasks w es ts cb u) (hok : TsOk ts) (hr : Reads w w.heap.size 1 A n (es.map tkV)) (hrA : ∀ ad, A = some ad → 0 < n → ¬ InT es cb ad.block) (hp : Reads w w.heap.size 1 Ap m (i64s picks)) (hpA : ∀ ad, Ap = some ad → 0 < m → ¬ InT es cb ad.block)
    (hsm : Small picks) (hn : n ≤ 100) (hm : m ≤ 200) (hu : 0 ≤ u ∧ u ≤ 1000) :
    Calls Try.prog 19 #[.slice A n c, .slice Ap m cp, .func (.func 21) #[] #[]] w fun e w' => ∃ B d, e = .returned (.agg #[.int .i64 (res.1 : Int), .slice B n d, .bool (stuckB u res)]) ∧
      Reads w' w'.heap.size 1 B n (i64s res.2.1) ∧ (∀ ad, B = some ad → w.heap.size ≤ ad.block) ∧ Tasks w' es res.2.2 cb (u + (res.1 : Int)) ∧ Keep (InT es cb) w w' := by
  subst hres
  refine (watch_any es ts cb u picks A Ap c cp n m _ _ _ _ _ w hT hok hr (fun ad e h0 h => h.elim (hrA ad e h0) id) hp (fun ad e h0 h => h.elim (hpA ad e h0) id) hsm hn hm hu (see_all _ es cb) trivial).mono ?_
  rintro e1 w1 ⟨sl, he, hown, hT2, hK, _⟩
  obtain ⟨B, d, rfl, _, _⟩ := own_form hown
  refine ⟨B, d, he, Reads.of_own hown, fun ad e => ?_, hT2, Keep.more hK fun k h => h.elim id (fun h => h.elim)⟩
  subst e
  exact (hown.lt _ rfl).1

theorem run_any (es : List (Option Nat)) (ts : List Toy) (cb : Nat) (u : Int) (picks : List Int) (A Ap : Option Addr) (c cp n m : Nat) (w : World)
    (hT : Tasks w es ts cb u) (hok : TsOk ts) (hr : Reads w w.heap.size 1 A n (es.map tkV)) (hrA : ∀ ad, A = some ad → 0 < n → ¬ InT es cb ad.block) (hp : Reads w w.heap.size 1 Ap m (i64s picks)) (hpA : ∀ ad, Ap = some ad → 0 < m → ¬ InT es cb ad.block)
    (hsm : Small picks) (hn : n ≤ 100) (hm : m ≤ 200) (hu : 0 ≤ u ∧ u ≤ 1000) :
    Calls Try.prog 10 #[.slice A n c, .slice Ap m cp] w fun e w' => ∃ B d, e = .returned (.agg #[.int .i64 ((runAll u ts n picks).1 : Int), .slice B n d, .bool (stuckB u (runAll u ts n picks))]) ∧
      Reads w' w'.heap.size 1 B n (i64s (runAll u ts n picks).2.1) ∧ (∀ ad, B = some ad → w.heap.size ≤ ad.block) ∧ Tasks w' es (runAll u ts n picks).2.2 cb (u + ((runAll u ts n picks).1 : Int)) ∧ Keep (InT es cb) w w' := by
  obtain ⟨res, hres⟩ : ∃ res, res = runAll u ts n picks := ⟨_, rfl⟩
  rw [← hres]
  have HRES := Lib.hid hres
  clear hres
  have hb0 := sub_alloc (Below.refl _ w) (.cells #[.int .i64 0, .slice none 0 0, .bool false] 31)
  have k0 := Blk.new_at w 31 #[.int .i64 0, .slice none 0 0, .bool false] (g := w.heap.size) rfl
  have hni : ¬ InT es cb w.heap.size := fun h => by have := hT.in_lt h; omega
  have hT1 := hT.keep hb0
  have hr1 := hr.up hb0
  have hp1 := hp.up hb0
  go_enter Try.func10, Try.ntmps10
  go_wp2_with fail
  refine (watch_all es ts cb u picks A Ap c cp n m _ res HRES.out hT1 hok hr1 hrA hp1 hpA hsm hn hm hu).mono ?_
  rintro e1 w1 ⟨B, d, rfl, hq, hB, hT2, hK⟩
  generalize hsb : stuckB u res = sb at *
  have HSB := Lib.hid hsb
  clear hsb
  have k1 := hK.blk k0 hni
  have f0 := k1.frozen 0
  have f1 := k1.frozen 1
  have f2 := k1.frozen 2
  have c0 := k1.cell 0
  have c1 := k1.cell 1
  have c2 := k1.cell 2
  simp at c0 c1 c2
  have hwz := hb0.size
  have hzz := hK.size
  go_wp2
  have kk : Keep (fun k => k = w.heap.size) w1 (((w1.setCell ⟨w.heap.size, 0, none⟩ (.int .i64 (res.1 : Int))).setCell ⟨w.heap.size, 1, none⟩ (.slice B n d)).setCell ⟨w.heap.size, 2, none⟩ (.bool sb)) := (((Keep.refl (fun k => k = w.heap.size) w1).setCell (p := ⟨w.heap.size, 0, none⟩) (.inl rfl) _).setCell (p := ⟨w.heap.size, 1, none⟩) (.inl rfl) _).setCell (p := ⟨w.heap.size, 2, none⟩) (.inl rfl) _
  refine bodyPost_ret (v := .agg #[.int .i64 (res.1 : Int), .slice B n d, .bool sb]) (by simp [results, Try.results10, go_sem, c0, c1, c2]) rfl ⟨B, d, by rw [HSB.out], ?_, fun ad e => by have := hB ad e; simp at this; omega, ?_, ?_⟩
  · exact (kk.reads hq (Nat.le_refl _) (fun ad e _ h => by have := hB ad e; simp at this; omega)).more kk.size
  · exact ((hT2.far (p := ⟨w.heap.size, 0, none⟩) hni _).far (p := ⟨w.heap.size, 1, none⟩) hni _).far (p := ⟨w.heap.size, 2, none⟩) hni _
  · exact ((((Keep.of_below hb0).trans hK).setCell (p := ⟨w.heap.size, 0, none⟩) (.inr (Nat.le_refl _)) _).setCell (p := ⟨w.heap.size, 1, none⟩) (.inr (Nat.le_refl _)) _).setCell (p := ⟨w.heap.size, 2, none⟩) (.inr (Nat.le_refl _)) _

theorem elemToy : ElemS Try.prog 22 49 (.agg #[.int .i64 0, .int .i64 0, .int .i64 0]) 3 24 := ⟨Try.underlying22, by kernel_rfl, rfl⟩
theorem toyV_one (ts : List Toy) : ∀ u ∈ toyV ts, u.oneCell' = true := by
  intro u hu
  obtain ⟨t, _, hu⟩ := List.mem_flatMap.1 hu
  simp [Toy.cells] at hu
  rcases hu with rfl | rfl | rfl <;> rfl

theorem rrun_any (ts : List Toy) (u : Int) (picks : List Int) (A Ap : Option Addr) (c cp n m : Nat) (w : World)
    (hok : TsOk ts) (hr : Reads w w.heap.size 3 A n (toyV ts)) (hp : Reads w w.heap.size 1 Ap m (i64s picks)) (hsm : Small picks) (hn : n ≤ 100) (hm : m ≤ 200) (hu : 0 ≤ u ∧ u ≤ 1000) :
    Calls Try.prog 11 #[.slice A n c, .int .i64 u, .slice Ap m cp] w fun e w' => ∃ B1 d1 B2 d2, e = .returned (.tuple #[.int .i64 ((runAll u ts n picks).1 : Int), .slice B1 n d1, .slice B2 n d2]) ∧
      Reads w' w'.heap.size 1 B1 n (i64s (runAll u ts n picks).2.1) ∧ Reads w' w'.heap.size 3 B2 n (toyV (runAll u ts n picks).2.2) ∧ Below w.heap.size w w' := by
  have hl2 : n = ts.length := toy_len hr
  have hl3 : m = picks.length := by have := hp.len; rwa [i64s_length] at this
  have HL2 := Lib.hid hl2
  have HL3 := Lib.hid hl3
  have hmk := run_make3 n (by omega)
  have HOK := Lib.hid hok
  obtain ⟨res, hres⟩ : ∃ res, res = runAll u ts n picks := ⟨_, rfl⟩
  rw [← hres]
  have HR := Lib.hid hres
  obtain ⟨hu0, hu1⟩ := hu
  obtain ⟨ti, hti, htz, hts, htb⟩ := info_parts elemToy.info
  have hb1 := sub_alloc (Below.refl _ w) (.cells (iarr (List.replicate n 0)) 3)
  have hb2 := sub_alloc hb1 (.cells #[] 49)
  have ha1 := (own_of_blk (B := w.heap.size) (n := n) (s := 1) (Blk.new_at w 3 (iarr (List.replicate n 0)) (g := w.heap.size) rfl) (Nat.le_refl _) (by rw [iarr_size]; simp) (by unfold maxLen; omega)).alloc (.cells #[] 49)
  rw [iarr_list] at ha1
  have ha2 := own_of_blk (B := w.heap.size) (n := 0) (s := 3) (Blk.new_at (w.alloc (.cells (iarr (List.replicate n 0)) 3)) 49 #[] (g := w.heap.size + 1) (by simp)) (by omega) rfl (by unfold maxLen; omega)
  have hq := (hr.below hb2)
  clear hl2 hl3 hok hres
  go_enter Try.func11, Try.ntmps11
  go_wp2_with (at_builtin; go_must (refine wpList_append_any _ rfl (.tmp 17) (.tmp 18) _ rfl w.heap.size 49 ti _ 3 24 elemToy.under hti htz hts htb rfl (by omega) _ 0 [] rfl ha2 _ A n c (toyV ts) rfl hq (toyV_one _) (by unfold maxLen; omega) (by omega) hb2.size ?_); intro v' w' hm' hg' hat')
  have hg2 : ((w.alloc (.cells (iarr (List.replicate n 0)) 3)).alloc (.cells #[] 49)).grownBy w' (some (w.heap.size + 1)) := hg'
  have hmt : MineS 3 w w' 49 v' n (toyV ts) := ⟨by simpa using hm', hb2.grown hg2 hb2.size (fun k e => by injection e with e; omega)⟩
  have k0 : Blk w' w.heap.size 3 (iarr (List.replicate n 0)) := ((Blk.new_at w 3 (iarr (List.replicate n 0)) (g := w.heap.size) rfl).alloc (.cells #[] 49)).grown hg2 (by simp)
  obtain ⟨B2, d2, rfl, _, _⟩ := own_form hmt.own
  clear ha1 ha2 hm' hg' hg2 hat' hq hb1 hb2 hmk
  go_loopw [11, 12] (fun s i wr => ∃ (k : Nat) (tt : List Toy) (st : List Int), k ≤ m ∧ i = .int .i64 k ∧ s = .int .i64 k ∧ Hid (res = runW (fun _ => true) (u + (k : Int)) tt st k (picks.drop k)) ∧ Hid (TsOk tt) ∧ Hid (st.length = n) ∧ Hid (tt.length = n) ∧ Hid (∀ (j : Nat) (h : j < st.length), 0 ≤ st[j] ∧ st[j] ≤ k) ∧
    MineS 3 w wr 49 (.slice B2 n d2) n (toyV tt) ∧ Blk wr w.heap.size 3 (iarr st)) (fun _ i _ => m - (intOf i).toNat)
  case atStart => exact ⟨0, ts, List.replicate n 0, by omega, rfl, rfl, by rw [HR.out]; exact Lib.hid (by simp [runAll]), HOK, Lib.hid (by simp), Lib.hid HL2.out.symm, Lib.hid (by simp), hmt, k0⟩
  case round =>
    clear hmt k0
    obtain ⟨k, tt, st, hk, rfl, rfl, HG, HTS, HST, HTL, HSB, hm, k0⟩ := hrel
    have hpT := hp.below hm.below
    have hTs := HTS.out
    have hwz := hm.le
    have hown0 := own_of_blk (B := w.heap.size) (n := n) (s := 1) k0 (Nat.le_refl _) (by rw [iarr_size]; have := HST.out; omega) (by unfold maxLen; omega)
    rw [iarr_list] at hown0
    have hfin : res = (k, st, tt) → Reads wr wr.heap.size 1 (some ⟨w.heap.size, 0, none⟩) n (i64s res.2.1) ∧ Reads wr wr.heap.size 3 B2 n (toyV res.2.2) := fun e => by rw [e]; exact ⟨Reads.of_own hown0, Reads.of_own hm.own⟩
    have HFIN := Lib.hid hfin
    clear hfin
    by_cases hlt : k < m
    · obtain ⟨ad, pv, rfl, _, hx, hcp⟩ := hpT.at_ hlt
      have hkp : k < picks.length := by have := HL3.out; omega
      obtain rfl := i64s_get hx hkp
      have hpk : In64 picks[k] := hsm k hkp
      have hend := runW_end (go := fun _ => true) (u := u + (k : Int)) (ts := tt) (st := st) (n := k) hkp
      have hon := fun b => runW_on (go := fun _ => true) (u := u + (k : Int)) (ts := tt) (st := st) (n := k) (b := b) hkp
      generalize picks[k] = pk at *
      have HE := Lib.hid (And.intro hend hon)
      clear hend hon hx hown0
      go_wp2_with fail
      refine (rnext_any tt (u + (k : Int)) pk _ _ _ _ _ (Reads.of_own hm.own) (Nat.le_refl _) (by omega) hTs (by omega) hpk).mono ?_
      rintro e3 w3 ⟨rfl, hb3⟩
      have qm := hm.later hb3
      have q0 := k0.later hb3
      clear hm k0 hpT hcp
      rcases nextL_cases tt (u + (k : Int)) pk with hc | ⟨b, hbt, hc, hrd⟩
      · rw [hc]
        have HRes : Hid (res = (k, st, tt)) := HG.out.trans (HE.out.1 (by rw [hc]; decide))
        clear hc
        obtain ⟨r1, r2⟩ := HFIN.out HRes.out
        have r3 := r1.up hb3
        have r4 := r2.up hb3
        have hbf := qm.below
        clear r1 r2
        go_wp2
        go_ret3
        exact ⟨_, _, _, _, by rw [HRes.out]; rfl, r3, r4, hbf⟩
      · rw [hc]
        have HC := Lib.hid hc
        clear hc
        have hbn : b < n := by have := HTL.out; omega
        have hbs : b < st.length := by have := HST.out; omega
        have hleft : ¬ tt[b].left < 1 := by
          intro h
          unfold readyT at hrd
          rw [if_pos h] at hrd
          cases hrd
        have hl1000 := (hTs.few _ (List.getElem_mem hbt)).left
        have hTs2 := hTs.step hbt (by omega)
        obtain ⟨g, cc, hv, hgB, hgw, hcc, hcl, hfz, hst⟩ := own_atS qm.own (j := b * 3) (by omega)
        injection hv with hv _ hcd
        subst hv
        subst hcd
        have h0 := toyV_get tt b 0 hbt (by omega)
        rw [Nat.add_zero] at h0
        rw [h0] at hcl
        have hcl2 : w3.cell? ⟨g, b * 3, none⟩ = some (.int .i64 tt[b].left) := hcl
        have hne : (Value.slice (some ⟨g, 0, none⟩) n d2).ownBlock ≠ some w.heap.size := own_ne qm.own q0 (by decide)
        have hgne : w.heap.size ≠ g := fun e => hne (by simp [Value.ownBlock, e])
        have hset := hst (.int .i64 (tt[b].left - 1))
        rw [toyV_set tt b hbt] at hset
        have hsb := HSB.out b hbs
        have c0 := q0.cell b
        rw [iarr_get hbs] at c0
        have f0 := q0.frozen b
        obtain ⟨hs0, hs1⟩ := hsb
        have r0 := (q0.far (p := ⟨g, b * 3, none⟩) hgne (.int .i64 (tt[b].left - 1))).set_ b (.int .i64 (st[b] + 1))
        rw [iarr_set] at r0
        have hset2 := own_set (p := ⟨w.heap.size, b, none⟩) hset hne (.int .i64 (st[b] + 1))
        have hbel := (qm.below.setCell (p := ⟨g, b * 3, none⟩) hgB (.int .i64 (tt[b].left - 1))).setCell (p := ⟨w.heap.size, b, none⟩) (Nat.le_refl _) (.int .i64 (st[b] + 1))
        have e1 : u + (k : Int) + 1 = u + ((k + 1 : Nat) : Int) := by omega
        have HX : Hid (res = runW (fun _ => true) (u + ((k + 1 : Nat) : Int)) (tt.set b (toyStep tt[b])) (st.set b (st[b] + 1)) (k + 1) (picks.drop (k + 1))) := by
          show _ = _
          rw [HG.out, HE.out.2 b HC.out hbt hbs (by trivial), e1]
        have hst2 : (st.set b (st[b] + 1)).length = n := by have := HST.out; simpa using this
        have htl2 : (tt.set b (toyStep tt[b])).length = n := by have := HTL.out; simpa using this
        have hsb2 : ∀ (j : Nat) (h : j < (st.set b (st[b] + 1)).length), 0 ≤ (st.set b (st[b] + 1))[j] ∧ (st.set b (st[b] + 1))[j] ≤ ((k + 1 : Nat) : Int) := by
          intro j hj
          rw [List.getElem_set]
          split
          · omega
          · have := HSB.out j (by simpa using hj); omega
        have HST2 := Lib.hid hst2
        have HTL2 := Lib.hid htl2
        have HSB2 := Lib.hid hsb2
        have HTS2 := Lib.hid hTs2
        have i1 : (b : Int) < (n : Int) := by omega
        generalize tt.set b (toyStep tt[b]) = tt2 at *
        generalize st.set b (st[b] + 1) = st2 at *
        generalize tt[b].left = lf at *
        generalize st[b] = sb at *
        clear hst2 htl2 hsb2 hTs2 e1 h0 hcl hst hrd hne hset q0
        go_wp2
        go_roundw
        case rel => exact ⟨k + 1, tt2, st2, by omega, by go_num, by go_num, HX, HTS2, HST2, HTL2, HSB2, ⟨hset2, hbel⟩, r0⟩
        case measure => simp [intOf]; omega
    · have HRes : Hid (res = (k, st, tt)) := by
        show _ = _
        rw [HG.out, List.drop_eq_nil_of_le (by have := HL3.out; omega)]
        rfl
      obtain ⟨r1, r2⟩ := HFIN.out HRes.out
      have hbf := hm.below
      clear hown0
      go_wp2
      go_ret3
      exact ⟨_, _, _, _, by rw [HRes.out]; rfl, r1, r2, hbf⟩
end Go.Proofs.Ytenjhklkljeijaa
