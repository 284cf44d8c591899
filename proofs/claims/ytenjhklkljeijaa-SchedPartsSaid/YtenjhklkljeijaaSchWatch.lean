/-
  The walk of sched.Watch: whatever looks on. Conditions: few tasks and picks, small numbers.
-/
import Derived.Test.YtenjhklkljeijaaSchTask
namespace Go.Proofs.Ytenjhklkljeijaa
open Go.RowKit Go.Fw
set_option maxHeartbeats 2000000
set_option maxRecDepth 4000
set_option linter.unusedVariables false
set_option linter.unusedSimpArgs false

theorem run_make3 (n : Nat) (hn : n ≤ 1000) (w : World) : (Instr.makeSlice 23 (.int .i64 (n : Int)) (.int .i64 (n : Int))).run Try.prog w = .ok (.slice (some ⟨w.heap.size, 0, none⟩) n n) (w.alloc (.cells (iarr (List.replicate n 0)) 3)) := by
  obtain ⟨i, hi, hz, hsz, hby⟩ := info_parts (show (Try.prog.info? 3).map (fun i => (i.zero, i.size, i.bytes)) = some (some (.int .i64 0), 1, 8) by kernel_rfl)
  have h := run_make (P := Try.prog) w 23 3 i (.int .i64 0) Try.underlying23 hi hz .i64 .i64 n n (by omega) (by omega) (by rw [hby]; omega) (by omega)
  rw [hsz, Nat.mul_one] at h
  simp only [Int.toNat_natCast] at h
  rw [made_zeros] at h
  exact h

/-- what looks on: its value, what it knows, what it writes, when it says that it is enough -/
structure See (w : World) (es : List (Option Nat)) (cb : Nat) (fid : FuncId) (bs : Array Value) (J : Nat → World → Prop) (Lk : Nat → Prop) (go : Nat → Bool) : Prop where
  enter : ∀ (args : Array Value) (w : World), (callFunc fid args).run Try.prog w = .ok (.enter fid args) w
  call : ∀ (k : Nat) (W : World), k < 100000 → J k W → Calls Try.prog fid (bs.push (.int .i64 ((k : Int) + 1))) W fun e W' => e = .returned (.bool (go k)) ∧ J (k + 1) W' ∧ Keep Lk W W'
  keep : ∀ (k : Nat) (W W' : World), J k W → (∀ j, j < w.heap.size → ¬ InT es cb j → W'.heap[j]? = W.heap[j]?) → J k W'
  low : ∀ j, Lk j → j < w.heap.size ∧ ¬ InT es cb j
theorem Keep.more {L L' : Nat → Prop} {w w' : World} (h : Keep L w w') (hl : ∀ k, L k → L' k) : Keep L' w w' := ⟨h.os, h.tape, h.output, h.size, fun k hk hn => h.block k hk fun e => hn (hl k e)⟩

/-- what a run came to -/
def WatchPost (w : World) (es : List (Option Nat)) (cb : Nat) (u : Int) (J : Nat → World → Prop) (Lk : Nat → Prop) (n : Nat) (res : Nat × List Int × List Toy) (e : Ending) (w' : World) : Prop :=
  ∃ sl, e = .returned (.agg #[.int .i64 (res.1 : Int), sl, .bool (decide (nextL res.2.2 (u + res.1) 0 < 0) && decide (0 < openL res.2.2))]) ∧
    w'.ownsRow w.heap.size 3 1 sl n (i64s res.2.1) ∧ Tasks w' es res.2.2 cb (u + res.1) ∧ Keep (fun k => InT es cb k ∨ Lk k) w w' ∧ J res.1 w'

theorem neq_func (fid : FuncId) (bs : Array Value) (w : World) : (binOp .neq 47 (.func (.func fid) bs #[]) .nilFunc).run Try.prog w = .ok (.bool true) w := by kernel_rfl
theorem watch_any (es : List (Option Nat)) (ts : List Toy) (cb : Nat) (u : Int) (picks : List Int) (A Ap : Option Addr) (c cp n m : Nat) (fid : FuncId) (bs : Array Value) (J : Nat → World → Prop) (Lk : Nat → Prop) (go : Nat → Bool) (w : World)
    (hT : Tasks w es ts cb u) (hok : TsOk ts) (hr : Reads w w.heap.size 1 A n (es.map tkV)) (hrA : ∀ ad, A = some ad → 0 < n → ¬ (InT es cb ad.block ∨ Lk ad.block)) (hp : Reads w w.heap.size 1 Ap m (i64s picks)) (hpA : ∀ ad, Ap = some ad → 0 < m → ¬ (InT es cb ad.block ∨ Lk ad.block))
    (hsm : Small picks) (hn : n ≤ 100) (hm : m ≤ 200) (hu : 0 ≤ u ∧ u ≤ 1000) (hS : See w es cb fid bs J Lk go) (hJ : J 0 w) :
    Calls Try.prog 19 #[.slice A n c, .slice Ap m cp, .func (.func fid) bs #[]] w (WatchPost w es cb u J Lk n (runW go u ts (List.replicate n 0) 0 picks)) := by
  have hl : n = es.length := by have := hr.len; simpa using this
  have hl2 : n = ts.length := hl.trans hT.len
  have hl3 : m = picks.length := by have := hp.len; rwa [i64s_length] at this
  have HL := Lib.hid hl
  have HL2 := Lib.hid hl2
  have HL3 := Lib.hid hl3
  have hmk := run_make3 n (by omega)
  have HS := Lib.hid hS
  have HRA := Lib.hid hrA
  have HPA := Lib.hid hpA
  have HJ := Lib.hid hJ
  have HTT := Lib.hid hT
  have HOK := Lib.hid hok
  obtain ⟨res, hres⟩ : ∃ res, res = runW go u ts (List.replicate n 0) 0 picks := ⟨_, rfl⟩
  rw [← hres]
  have HR := Lib.hid hres
  obtain ⟨hu0, hu1⟩ := hu
  clear hl hl2 hl3 hS hrA hpA hJ hT hres hok
  go_enter Try.func19, Try.ntmps19
  go_wp2_with fail
  have k60 := (((Blk.new_at w 31 #[.int .i64 0, .slice none 0 0, .bool false] (g := w.heap.size) rfl).alloc (.cells (iarr (List.replicate n 0)) 3)).alloc (.cells #[.int .i64 0, .slice (some ⟨w.heap.size + 1, 0, none⟩) n n, .bool false] 31))
  have k00 := (Blk.new_at (w.alloc (.cells #[.int .i64 0, .slice none 0 0, .bool false] 31)) 3 (iarr (List.replicate n 0)) (g := w.heap.size + 1) (by simp)).alloc (.cells #[.int .i64 0, .slice (some ⟨w.heap.size + 1, 0, none⟩) n n, .bool false] 31)
  have k70 := Blk.new_at ((w.alloc (.cells #[.int .i64 0, .slice none 0 0, .bool false] 31)).alloc (.cells (iarr (List.replicate n 0)) 3)) 31 #[.int .i64 0, .slice (some ⟨w.heap.size + 1, 0, none⟩) n n, .bool false] (g := w.heap.size + 1 + 1) (by simp)
  have hb0 := sub_alloc (sub_alloc (sub_alloc (Below.refl _ w) (.cells #[.int .i64 0, .slice none 0 0, .bool false] 31)) (.cells (iarr (List.replicate n 0)) 3)) (.cells #[.int .i64 0, .slice (some ⟨w.heap.size + 1, 0, none⟩) n n, .bool false] 31)
  clear hmk
  go_loopw [17] (fun i wr => ∃ (k : Nat) (tt : List Toy) (st : List Int), k ≤ m ∧ i = .int .i64 k ∧ Hid (res = runW go (u + (k : Int)) tt st k (picks.drop k)) ∧ Hid (TsOk tt) ∧ Hid (st.length = n) ∧ Hid (∀ (j : Nat) (h : j < st.length), 0 ≤ st[j] ∧ st[j] ≤ k) ∧ Tasks wr es tt cb (u + (k : Int)) ∧
    Blk wr w.heap.size 31 #[.int .i64 0, .slice none 0 0, .bool false] ∧ Blk wr (w.heap.size + 1) 3 (iarr st) ∧ Blk wr (w.heap.size + 1 + 1) 31 #[.int .i64 k, .slice (some ⟨w.heap.size + 1, 0, none⟩) n n, .bool false] ∧ Keep (fun k => InT es cb k ∨ Lk k) w wr ∧ Hid (J k wr)) (fun i _ => m - (intOf i).toNat)
  case atStart => exact ⟨0, ts, List.replicate n 0, by omega, rfl, by rw [HR.out]; exact Lib.hid (by simp), HOK, Lib.hid (by simp), Lib.hid (by simp), by simpa using HTT.out.keep hb0, k60, k00, k70, Keep.of_below hb0, Lib.hid (HS.out.keep 0 _ _ HJ.out (fun j hj hn => hb0.block j hj))⟩
  case round =>
    clear k60 k00 k70 hb0
    obtain ⟨k, tt, st, hk, rfl, HG, HTS, HST, HSB, hT, k6, k0, k7, hK, HJK⟩ := hrel
    have hrT := hK.reads hr (Nat.le_refl _) HRA.out
    have hpT := hK.reads hp (Nat.le_refl _) HPA.out
    have hTs := HTS.out
    have hwz := hK.size
    by_cases hlt : k < m
    · obtain ⟨ad, pv, rfl, _, hx, hcp⟩ := hpT.at_ hlt
      have hkp : k < picks.length := by have := HL3.out; omega
      obtain rfl := i64s_get hx hkp
      have hpk : In64 picks[k] := hsm k hkp
      have hend := runW_end (go := go) (u := u + (k : Int)) (ts := tt) (st := st) (n := k) hkp
      have hon := fun b => runW_on (go := go) (u := u + (k : Int)) (ts := tt) (st := st) (n := k) (b := b) hkp
      have hstop := fun b => runW_stop (go := go) (u := u + (k : Int)) (ts := tt) (st := st) (n := k) (b := b) hkp
      generalize picks[k] = pk at *
      have HE := Lib.hid (And.intro hend (And.intro hon hstop))
      clear hend hon hstop hx
      go_wp2_with fail
      refine (next_any es tt cb (u + (k : Int)) pk _ _ _ _ _ hT hrT (by omega) (by omega) hTs (by omega) hpk).mono ?_
      rintro e3 w3 ⟨rfl, hb3⟩
      have q6 := k6.later hb3
      have q7 := k7.later hb3
      have q0 := k0.later hb3
      have qT := hT.keep hb3
      have qrT := hrT.below (hb3.mono hwz)
      have qK := hK.trans (Keep.of_below hb3)
      have qJ := HS.out.keep k _ _ HJK.out (fun j hj hn => hb3.block j (by omega))
      have QJ := Lib.hid qJ
      have hlen := hT.len
      have HLN := Lib.hid hlen
      clear hT hrT hpT k6 k7 k0 hK HJK qJ hlen hcp
      rcases nextL_cases tt (u + (k : Int)) pk with hc | ⟨b, hbt, hc, hrd⟩
      · rw [hc]
        have HRes : Hid (res = (k, st, tt)) := HG.out.trans (HE.out.1 (by rw [hc]; decide))
        clear hc
        have hT := qT
        have hrT := qrT
        have k6 := q6
        have k7 := q7
        have k0 := q0
        have hK := qK
        have hJt := QJ.out
        clear qT qrT q6 q7 q0 qK QJ
        obtain ⟨nt, hnt⟩ : ∃ nt, nt = k := ⟨_, rfl⟩
        subst hnt
        have htz := hK.size
        go_wp2_with fail
        refine (next_any es tt cb (u + (nt : Int)) 0 _ _ _ _ _ hT hrT (by omega) (by omega) hTs (by omega) ⟨by decide, by decide⟩).mono ?_
        rintro e5 w5 ⟨rfl, hb5⟩
        have k6' := k6.later hb5
        have k7' := k7.later hb5
        have k0' := k0.later hb5
        have hT5 := hT.keep hb5
        have hrT5 := hrT.below (hb5.mono htz)
        have hK5 := hK.trans (Keep.of_below hb5)
        have hJ5 := HS.out.keep nt _ _ hJt (fun j hj hn => hb5.block j (by omega))
        have hz5 := hK5.size
        generalize hX : nextL tt (u + (nt : Int)) 0 = x at *
        have HX := Lib.hid hX
        clear hX
        have hOL := openL_le tt
        generalize hO : openL tt = O at *
        have HO := Lib.hid hO
        have hO2 : O ≤ 100 := by have := hT5.len; have := HL.out; omega
        clear hO hOL
        have hpost : ∀ (sb : Bool) (w6 : World), sb = (decide (x < 0) && decide (0 < O)) → Keep (fun k => InT es cb k ∨ Lk k) w w6 → (∀ j, j < w5.heap.size → j ≠ w.heap.size → j ≠ w.heap.size + 1 + 1 → w6.heap[j]? = w5.heap[j]?) → WatchPost w es cb u J Lk n res (.returned (.agg #[.int .i64 (nt : Int), .slice (some ⟨w.heap.size + 1, 0, none⟩) n n, .bool sb])) w6 := by
          intro sb w6 hsb hk6 hbl
          have hr6 : res = (nt, st, tt) := HRes.out
          have hst : st.length = n := HST.out
          have h0 : Blk w6 (w.heap.size + 1) 3 (iarr st) := (hbl _ k0'.lt (by omega) (by omega)).trans k0'
          have hT6 : Tasks w6 es tt cb (u + (nt : Int)) := hT5.turn fun k hk => hbl k (hT5.in_lt hk) (fun e => by have := HTT.out.in_lt hk; omega) (fun e => by have := HTT.out.in_lt hk; omega)
          refine ⟨.slice (some ⟨w.heap.size + 1, 0, none⟩) n n, ?_, ?_, ?_, hk6, ?_⟩
          · rw [hr6, hsb, ← HX.out, ← HO.out]
          · rw [hr6]
            have h1 := own_of_blk (B := w.heap.size) (n := n) (s := 1) h0 (by omega) (by rw [iarr_size]; omega) (by unfold maxLen; omega)
            rwa [iarr_list] at h1
          · rw [hr6]; exact hT6
          · rw [hr6]; exact HS.out.keep nt _ _ hJ5 (fun j hj hn => hbl j (by omega) (by omega) (by omega))
        have c60 := k6'.cell 0
        have c61 := k6'.cell 1
        have c62 := k6'.cell 2
        have c70 := k7'.cell 0
        have c71 := k7'.cell 1
        have c72 := k7'.cell 2
        have f60 := k6'.frozen 0
        have f61 := k6'.frozen 1
        have f62 := k6'.frozen 2
        have f72 := k7'.frozen 2
        simp at c60 c61 c62 c70 c71 c72
        by_cases hx : x < 0
        · have d1 : decide (x < 0) = true := by simp [hx]
          go_wp2_with fail
          refine (open_any es tt cb _ _ _ _ _ _ hT5 hrT5 (by omega) (by omega)).mono ?_
          rintro e6 w6 ⟨rfl, rfl⟩
          rw [HO.out]
          go_wp2
          refine bodyPost_ret (v := .agg #[.int .i64 (nt : Int), .slice (some ⟨w.heap.size + 1, 0, none⟩) n n, .bool (decide (0 < O))]) (by simp [results, Try.results19, go_sem, c60, c61, c62]) rfl (hpost _ _ (by simp [hx]) ((((hK5.setCell (p := ⟨w.heap.size + 1 + 1, 2, none⟩) (.inr (by simp; omega)) _).setCell (p := ⟨w.heap.size, 0, none⟩) (.inr (Nat.le_refl _)) _).setCell (p := ⟨w.heap.size, 1, none⟩) (.inr (Nat.le_refl _)) _).setCell (p := ⟨w.heap.size, 2, none⟩) (.inr (Nat.le_refl _)) _) (fun j hj h1 h2 => ?_))
          exact (Below.heap_setCell _ ⟨w.heap.size, 2, none⟩ _ j h1).trans ((Below.heap_setCell _ ⟨w.heap.size, 1, none⟩ _ j h1).trans ((Below.heap_setCell _ ⟨w.heap.size, 0, none⟩ _ j h1).trans (Below.heap_setCell _ ⟨w.heap.size + 1 + 1, 2, none⟩ _ j h2)))
        · have d1 : decide (x < 0) = false := by simp [hx]
          go_wp2
          refine bodyPost_ret (v := .agg #[.int .i64 (nt : Int), .slice (some ⟨w.heap.size + 1, 0, none⟩) n n, .bool false]) (by simp [results, Try.results19, go_sem, c60, c61, c62]) rfl (hpost _ _ (by simp [d1]) ((((hK5.setCell (p := ⟨w.heap.size + 1 + 1, 2, none⟩) (.inr (by simp; omega)) _).setCell (p := ⟨w.heap.size, 0, none⟩) (.inr (Nat.le_refl _)) _).setCell (p := ⟨w.heap.size, 1, none⟩) (.inr (Nat.le_refl _)) _).setCell (p := ⟨w.heap.size, 2, none⟩) (.inr (Nat.le_refl _)) _) (fun j hj h1 h2 => ?_))
          exact (Below.heap_setCell _ ⟨w.heap.size, 2, none⟩ _ j h1).trans ((Below.heap_setCell _ ⟨w.heap.size, 1, none⟩ _ j h1).trans ((Below.heap_setCell _ ⟨w.heap.size, 0, none⟩ _ j h1).trans (Below.heap_setCell _ ⟨w.heap.size + 1 + 1, 2, none⟩ _ j h2)))
      · rw [hc]
        have HC := Lib.hid hc
        clear hc
        have hbe : b < es.length := by have := HLN.out; omega
        have hbn : b < n := by have := HL.out; omega
        have hbs : b < st.length := by have := HST.out; omega
        have htk := qT.toy b hbe hbt
        have hleft : ¬ tt[b].left < 1 := by
          intro h
          unfold readyT at hrd
          rw [if_pos h] at hrd
          cases hrd
        have hl1000 := (hTs.few _ (List.getElem_mem hbt)).left
        obtain ⟨ad2, v2, rfl, _, hx2, hc2⟩ := qrT.at_ hbn
        have hx3 : v2 = tkV es[b] := by simp [hbe] at hx2; exact hx2.symm
        subst hx3
        rcases hes : es[b] with _ | p
        · rw [hes] at htk
          exact absurd htk hleft
        · rw [hes] at htk hc2
          have hbk : Blk w3 p 54 (toyC tt[b] cb) := htk
          have hpc := qT.ne hbe hes
          have hstep := qT.step hbe hbt hes
          have hTs2 := hTs.step hbt (by omega)
          have hc3 : w3.cell? (ad2.add b) = some (.iface 52 (.pointer (some ⟨p, 0, none⟩))) := hc2
          have hip : InT es cb p := .inl (hes ▸ List.getElem_mem hbe)
          have hpl := HTT.out.in_lt hip
          have hcl := HTT.out.in_lt (.inr rfl)
          have m3 := m_step
          have m4 := neq_func fid bs
          have m5 := HS.out.enter
          have i1 : (b : Int) < (n : Int) := by omega
          have HTS2 := Lib.hid hTs2
          have hcb := qT.clock
          clear hx2 htk hc2 hrd hTs2
          go_wp2_with fail
          refine (step_any p cb tt[b] (u + (k : Int)) w3 hbk hcb hpc ⟨by omega, hl1000⟩ ⟨by omega, by omega⟩).mono ?_
          rintro e4 w4 ⟨rfl, hw4⟩
          have j6 := (q6.far (p := ⟨p, 0, none⟩) (by simp; omega) (.int .i64 (tt[b].left - 1))).far (p := ⟨cb, 0, none⟩) (by simp; omega) (.int .i64 (u + (k : Int) + 1))
          have j7 := (q7.far (p := ⟨p, 0, none⟩) (by simp; omega) (.int .i64 (tt[b].left - 1))).far (p := ⟨cb, 0, none⟩) (by simp; omega) (.int .i64 (u + (k : Int) + 1))
          have j0 := (q0.far (p := ⟨p, 0, none⟩) (by simp; omega) (.int .i64 (tt[b].left - 1))).far (p := ⟨cb, 0, none⟩) (by simp; omega) (.int .i64 (u + (k : Int) + 1))
          have jK := (qK.setCell (p := ⟨p, 0, none⟩) (.inl (.inl hip)) (.int .i64 (tt[b].left - 1))).setCell (p := ⟨cb, 0, none⟩) (.inl (.inl (.inr rfl))) (.int .i64 (u + (k : Int) + 1))
          have jJ := HS.out.keep k _ w4 QJ.out (fun j hj hn => by
            rw [← hw4]
            exact (Below.heap_setCell _ ⟨cb, 0, none⟩ _ j (fun e => hn (e ▸ .inr rfl))).trans (Below.heap_setCell _ ⟨p, 0, none⟩ _ j (fun e => hn (e ▸ hip))))
          have JJ := Lib.hid jJ
          rw [hw4] at j6 j7 j0 jK hstep
          clear hw4 q6 q7 q0 qK QJ qT qrT hbk hcb hc3 hpc m3 jJ
          have hsb := HSB.out b hbs
          have c0 := j0.cell b
          rw [iarr_get hbs] at c0
          have c70 := j7.cell 0
          have c71 := j7.cell 1
          have f0 := j0.frozen b
          have f70 := j7.frozen 0
          simp at c70 c71
          obtain ⟨hs0, hs1⟩ := hsb
          generalize hsbv : st[b] = sb at *
          have HSBV := Lib.hid hsbv
          clear hsbv
          go_wp2_with fail
          have e1 : u + (k : Int) + 1 = u + ((k + 1 : Nat) : Int) := by omega
          have e2 : ((k : Int) + 1) = ((k + 1 : Nat) : Int) := by omega
          have hw4z := jK.size
          have gT := (hstep.far (p := ⟨w.heap.size + 1, b, none⟩) (fun e => by have := HTT.out.in_lt e; simp at this; omega) (.int .i64 (sb + 1))).far (p := ⟨w.heap.size + 1 + 1, 0, none⟩) (fun e => by have := HTT.out.in_lt e; simp at this; omega) (.int .i64 ((k : Int) + 1))
          have g6 := (j6.far (p := ⟨w.heap.size + 1, b, none⟩) (by simp) (.int .i64 (sb + 1))).far (p := ⟨w.heap.size + 1 + 1, 0, none⟩) (by simp; omega) (.int .i64 ((k : Int) + 1))
          have g0 := (j0.set_ b (.int .i64 (sb + 1))).far (p := ⟨w.heap.size + 1 + 1, 0, none⟩) (by simp) (.int .i64 ((k : Int) + 1))
          rw [iarr_set] at g0
          have g7 := (j7.far (p := ⟨w.heap.size + 1, b, none⟩) (by simp) (.int .i64 (sb + 1))).set_ 0 (.int .i64 ((k : Int) + 1))
          have gK := (jK.setCell (p := ⟨w.heap.size + 1, b, none⟩) (.inr (by simp)) (.int .i64 (sb + 1))).setCell (p := ⟨w.heap.size + 1 + 1, 0, none⟩) (.inr (by simp; omega)) (.int .i64 ((k : Int) + 1))
          have gJ := HS.out.keep k _ ((w4.setCell ⟨w.heap.size + 1, b, none⟩ (.int .i64 (sb + 1))).setCell ⟨w.heap.size + 1 + 1, 0, none⟩ (.int .i64 ((k : Int) + 1))) JJ.out (fun j hj hn =>
            (Below.heap_setCell _ ⟨w.heap.size + 1 + 1, 0, none⟩ _ j (by simp; omega)).trans (Below.heap_setCell _ ⟨w.heap.size + 1, b, none⟩ _ j (by simp; omega)))
          refine (HS.out.call k _ (by omega) gJ).mono ?_
          rintro e6 w6 ⟨rfl, hJ6, hK6⟩
          have hlow := HS.out.low
          have s6 := hK6.blk g6 (fun h => by have := (hlow _ h).1; omega)
          have s0 := hK6.blk g0 (fun h => by have := (hlow _ h).1; omega)
          have s7 := hK6.blk g7 (fun h => by have := (hlow _ h).1; omega)
          have sT := gT.turn (w' := w6) fun j hj => hK6.block j (gT.in_lt hj) (fun h => (hlow j h).2 hj)
          have sK := gK.trans (Keep.more hK6 (L' := fun k => InT es cb k ∨ Lk k) fun _ h => .inr h)
          have hst2 : (st.set b (sb + 1)).length = n := by have := HST.out; simpa using this
          have hsb2 : ∀ (j : Nat) (h : j < (st.set b (sb + 1)).length), 0 ≤ (st.set b (sb + 1))[j] ∧ (st.set b (sb + 1))[j] ≤ ((k + 1 : Nat) : Int) := by
            intro j hj
            rw [List.getElem_set]
            split
            · omega
            · have := HSB.out j (by simpa using hj); omega
          have HST2 := Lib.hid hst2
          have HSB2 := Lib.hid hsb2
          have HJ6 := Lib.hid hJ6
          have HE1 := Lib.hid e1
          have HE2 := Lib.hid e2
          have HLOW := Lib.hid hlow
          rw [e1] at sT
          clear gT g6 g0 g7 gK gJ j6 j0 j7 jK JJ hK6 c0 c70 c71 f0 f70 hstep e1 e2 hst2 hsb2 hJ6 hlow m4 m5
          cases hgo : go k with
          | true =>
            have HX : Hid (res = runW go (u + ((k + 1 : Nat) : Int)) (tt.set b (toyStep tt[b])) (st.set b (sb + 1)) (k + 1) (picks.drop (k + 1))) := by
              show _ = _
              rw [HG.out, HE.out.2.1 b HC.out hbt hbs hgo, HSBV.out, HE1.out]
            clear hgo
            go_wp2
            go_roundw
            case rel => exact ⟨k + 1, _, _, by omega, by go_num, HX, HTS2, HST2, HSB2, sT, s6, s0, by rw [← HE2.out]; exact s7, sK, HJ6⟩
            case measure => simp [intOf]; omega
          | false =>
            have HRes : Hid (res = (k + 1, st.set b (sb + 1), tt.set b (toyStep tt[b]))) := by
              show _ = _
              rw [HG.out, HE.out.2.2 b HC.out hbt hbs hgo, HSBV.out]
            clear hgo
            have HST := HST2
            have hT := sT
            have k6 := s6
            have k0 := s0
            have hK := sK
            have hJt := HJ6.out
            have hTs := HTS2.out
            have hrT := hK.reads hr (Nat.le_refl _) HRA.out
            rw [HE2.out] at s7
            have k7 := s7
            clear sT s6 s0 s7 sK
            generalize tt.set b (toyStep tt[b]) = tt at *
            generalize st.set b (sb + 1) = st at *
            have hkm : k + 1 ≤ 200 := by omega
            generalize hnt : k + 1 = nt at *
            clear hnt
            have htz := hK.size
            go_wp2_with fail
            refine (next_any es tt cb (u + (nt : Int)) 0 _ _ _ _ _ hT hrT (by omega) (by omega) hTs (by omega) ⟨by decide, by decide⟩).mono ?_
            rintro e5 w5 ⟨rfl, hb5⟩
            have k6' := k6.later hb5
            have k7' := k7.later hb5
            have k0' := k0.later hb5
            have hT5 := hT.keep hb5
            have hrT5 := hrT.below (hb5.mono htz)
            have hK5 := hK.trans (Keep.of_below hb5)
            have hJ5 := HS.out.keep nt _ _ hJt (fun j hj hn => hb5.block j (by omega))
            have hz5 := hK5.size
            generalize hX : nextL tt (u + (nt : Int)) 0 = x at *
            have HX := Lib.hid hX
            clear hX
            have hOL := openL_le tt
            generalize hO : openL tt = O at *
            have HO := Lib.hid hO
            have hO2 : O ≤ 100 := by have := hT5.len; have := HL.out; omega
            clear hO hOL
            have hpost : ∀ (sb : Bool) (w6 : World), sb = (decide (x < 0) && decide (0 < O)) → Keep (fun k => InT es cb k ∨ Lk k) w w6 → (∀ j, j < w5.heap.size → j ≠ w.heap.size → j ≠ w.heap.size + 1 + 1 → w6.heap[j]? = w5.heap[j]?) → WatchPost w es cb u J Lk n res (.returned (.agg #[.int .i64 (nt : Int), .slice (some ⟨w.heap.size + 1, 0, none⟩) n n, .bool sb])) w6 := by
              intro sb w6 hsb hk6 hbl
              have hr6 : res = (nt, st, tt) := HRes.out
              have hst : st.length = n := HST.out
              have h0 : Blk w6 (w.heap.size + 1) 3 (iarr st) := (hbl _ k0'.lt (by omega) (by omega)).trans k0'
              have hT6 : Tasks w6 es tt cb (u + (nt : Int)) := hT5.turn fun k hk => hbl k (hT5.in_lt hk) (fun e => by have := HTT.out.in_lt hk; omega) (fun e => by have := HTT.out.in_lt hk; omega)
              refine ⟨.slice (some ⟨w.heap.size + 1, 0, none⟩) n n, ?_, ?_, ?_, hk6, ?_⟩
              · rw [hr6, hsb, ← HX.out, ← HO.out]
              · rw [hr6]
                have h1 := own_of_blk (B := w.heap.size) (n := n) (s := 1) h0 (by omega) (by rw [iarr_size]; omega) (by unfold maxLen; omega)
                rwa [iarr_list] at h1
              · rw [hr6]; exact hT6
              · rw [hr6]; exact HS.out.keep nt _ _ hJ5 (fun j hj hn => hbl j (by omega) (by omega) (by omega))
            have c60 := k6'.cell 0
            have c61 := k6'.cell 1
            have c62 := k6'.cell 2
            have c70 := k7'.cell 0
            have c71 := k7'.cell 1
            have c72 := k7'.cell 2
            have f60 := k6'.frozen 0
            have f61 := k6'.frozen 1
            have f62 := k6'.frozen 2
            have f72 := k7'.frozen 2
            simp at c60 c61 c62 c70 c71 c72
            by_cases hx : x < 0
            · have d1 : decide (x < 0) = true := by simp [hx]
              go_wp2_with fail
              refine (open_any es tt cb _ _ _ _ _ _ hT5 hrT5 (by omega) (by omega)).mono ?_
              rintro e6 w6 ⟨rfl, rfl⟩
              rw [HO.out]
              go_wp2
              refine bodyPost_ret (v := .agg #[.int .i64 (nt : Int), .slice (some ⟨w.heap.size + 1, 0, none⟩) n n, .bool (decide (0 < O))]) (by simp [results, Try.results19, go_sem, c60, c61, c62]) rfl (hpost _ _ (by simp [hx]) ((((hK5.setCell (p := ⟨w.heap.size + 1 + 1, 2, none⟩) (.inr (by simp; omega)) _).setCell (p := ⟨w.heap.size, 0, none⟩) (.inr (Nat.le_refl _)) _).setCell (p := ⟨w.heap.size, 1, none⟩) (.inr (Nat.le_refl _)) _).setCell (p := ⟨w.heap.size, 2, none⟩) (.inr (Nat.le_refl _)) _) (fun j hj h1 h2 => ?_))
              exact (Below.heap_setCell _ ⟨w.heap.size, 2, none⟩ _ j h1).trans ((Below.heap_setCell _ ⟨w.heap.size, 1, none⟩ _ j h1).trans ((Below.heap_setCell _ ⟨w.heap.size, 0, none⟩ _ j h1).trans (Below.heap_setCell _ ⟨w.heap.size + 1 + 1, 2, none⟩ _ j h2)))
            · have d1 : decide (x < 0) = false := by simp [hx]
              go_wp2
              refine bodyPost_ret (v := .agg #[.int .i64 (nt : Int), .slice (some ⟨w.heap.size + 1, 0, none⟩) n n, .bool false]) (by simp [results, Try.results19, go_sem, c60, c61, c62]) rfl (hpost _ _ (by simp [d1]) ((((hK5.setCell (p := ⟨w.heap.size + 1 + 1, 2, none⟩) (.inr (by simp; omega)) _).setCell (p := ⟨w.heap.size, 0, none⟩) (.inr (Nat.le_refl _)) _).setCell (p := ⟨w.heap.size, 1, none⟩) (.inr (Nat.le_refl _)) _).setCell (p := ⟨w.heap.size, 2, none⟩) (.inr (Nat.le_refl _)) _) (fun j hj h1 h2 => ?_))
              exact (Below.heap_setCell _ ⟨w.heap.size, 2, none⟩ _ j h1).trans ((Below.heap_setCell _ ⟨w.heap.size, 1, none⟩ _ j h1).trans ((Below.heap_setCell _ ⟨w.heap.size, 0, none⟩ _ j h1).trans (Below.heap_setCell _ ⟨w.heap.size + 1 + 1, 2, none⟩ _ j h2)))
    · have HRes : Hid (res = (k, st, tt)) := by
        show _ = _
        rw [HG.out, List.drop_eq_nil_of_le (by have := HL3.out; omega)]
        rfl
      obtain ⟨nt, hnt⟩ : ∃ nt, nt = k := ⟨_, rfl⟩
      subst hnt
      have hJt := HJK.out
      have htz := hK.size
      go_wp2_with fail
      refine (next_any es tt cb (u + (nt : Int)) 0 _ _ _ _ _ hT hrT (by omega) (by omega) hTs (by omega) ⟨by decide, by decide⟩).mono ?_
      rintro e5 w5 ⟨rfl, hb5⟩
      have k6' := k6.later hb5
      have k7' := k7.later hb5
      have k0' := k0.later hb5
      have hT5 := hT.keep hb5
      have hrT5 := hrT.below (hb5.mono htz)
      have hK5 := hK.trans (Keep.of_below hb5)
      have hJ5 := HS.out.keep nt _ _ hJt (fun j hj hn => hb5.block j (by omega))
      have hz5 := hK5.size
      generalize hX : nextL tt (u + (nt : Int)) 0 = x at *
      have HX := Lib.hid hX
      clear hX
      have hOL := openL_le tt
      generalize hO : openL tt = O at *
      have HO := Lib.hid hO
      have hO2 : O ≤ 100 := by have := hT5.len; have := HL.out; omega
      clear hO hOL
      have hpost : ∀ (sb : Bool) (w6 : World), sb = (decide (x < 0) && decide (0 < O)) → Keep (fun k => InT es cb k ∨ Lk k) w w6 → (∀ j, j < w5.heap.size → j ≠ w.heap.size → j ≠ w.heap.size + 1 + 1 → w6.heap[j]? = w5.heap[j]?) → WatchPost w es cb u J Lk n res (.returned (.agg #[.int .i64 (nt : Int), .slice (some ⟨w.heap.size + 1, 0, none⟩) n n, .bool sb])) w6 := by
        intro sb w6 hsb hk6 hbl
        have hr6 : res = (nt, st, tt) := HRes.out
        have hst : st.length = n := HST.out
        have h0 : Blk w6 (w.heap.size + 1) 3 (iarr st) := (hbl _ k0'.lt (by omega) (by omega)).trans k0'
        have hT6 : Tasks w6 es tt cb (u + (nt : Int)) := hT5.turn fun k hk => hbl k (hT5.in_lt hk) (fun e => by have := HTT.out.in_lt hk; omega) (fun e => by have := HTT.out.in_lt hk; omega)
        refine ⟨.slice (some ⟨w.heap.size + 1, 0, none⟩) n n, ?_, ?_, ?_, hk6, ?_⟩
        · rw [hr6, hsb, ← HX.out, ← HO.out]
        · rw [hr6]
          have h1 := own_of_blk (B := w.heap.size) (n := n) (s := 1) h0 (by omega) (by rw [iarr_size]; omega) (by unfold maxLen; omega)
          rwa [iarr_list] at h1
        · rw [hr6]; exact hT6
        · rw [hr6]; exact HS.out.keep nt _ _ hJ5 (fun j hj hn => hbl j (by omega) (by omega) (by omega))
      have c60 := k6'.cell 0
      have c61 := k6'.cell 1
      have c62 := k6'.cell 2
      have c70 := k7'.cell 0
      have c71 := k7'.cell 1
      have c72 := k7'.cell 2
      have f60 := k6'.frozen 0
      have f61 := k6'.frozen 1
      have f62 := k6'.frozen 2
      have f72 := k7'.frozen 2
      simp at c60 c61 c62 c70 c71 c72
      by_cases hx : x < 0
      · have d1 : decide (x < 0) = true := by simp [hx]
        go_wp2_with fail
        refine (open_any es tt cb _ _ _ _ _ _ hT5 hrT5 (by omega) (by omega)).mono ?_
        rintro e6 w6 ⟨rfl, rfl⟩
        rw [HO.out]
        go_wp2
        refine bodyPost_ret (v := .agg #[.int .i64 (nt : Int), .slice (some ⟨w.heap.size + 1, 0, none⟩) n n, .bool (decide (0 < O))]) (by simp [results, Try.results19, go_sem, c60, c61, c62]) rfl (hpost _ _ (by simp [hx]) ((((hK5.setCell (p := ⟨w.heap.size + 1 + 1, 2, none⟩) (.inr (by simp; omega)) _).setCell (p := ⟨w.heap.size, 0, none⟩) (.inr (Nat.le_refl _)) _).setCell (p := ⟨w.heap.size, 1, none⟩) (.inr (Nat.le_refl _)) _).setCell (p := ⟨w.heap.size, 2, none⟩) (.inr (Nat.le_refl _)) _) (fun j hj h1 h2 => ?_))
        exact (Below.heap_setCell _ ⟨w.heap.size, 2, none⟩ _ j h1).trans ((Below.heap_setCell _ ⟨w.heap.size, 1, none⟩ _ j h1).trans ((Below.heap_setCell _ ⟨w.heap.size, 0, none⟩ _ j h1).trans (Below.heap_setCell _ ⟨w.heap.size + 1 + 1, 2, none⟩ _ j h2)))
      · have d1 : decide (x < 0) = false := by simp [hx]
        go_wp2
        refine bodyPost_ret (v := .agg #[.int .i64 (nt : Int), .slice (some ⟨w.heap.size + 1, 0, none⟩) n n, .bool false]) (by simp [results, Try.results19, go_sem, c60, c61, c62]) rfl (hpost _ _ (by simp [d1]) ((((hK5.setCell (p := ⟨w.heap.size + 1 + 1, 2, none⟩) (.inr (by simp; omega)) _).setCell (p := ⟨w.heap.size, 0, none⟩) (.inr (Nat.le_refl _)) _).setCell (p := ⟨w.heap.size, 1, none⟩) (.inr (Nat.le_refl _)) _).setCell (p := ⟨w.heap.size, 2, none⟩) (.inr (Nat.le_refl _)) _) (fun j hj h1 h2 => ?_))
        exact (Below.heap_setCell _ ⟨w.heap.size, 2, none⟩ _ j h1).trans ((Below.heap_setCell _ ⟨w.heap.size, 1, none⟩ _ j h1).trans ((Below.heap_setCell _ ⟨w.heap.size, 0, none⟩ _ j h1).trans (Below.heap_setCell _ ⟨w.heap.size + 1 + 1, 2, none⟩ _ j h2)))
end Go.Proofs.Ytenjhklkljeijaa
