/-
  The reference's 'one', walked: whether a task's events may be. Conditions: at most 100000 events.
-/
import Derived.Test.YtbjibpghbaemfaaOnePlain
import Derived.Test.YtbjibpghbaemfaaFind2
namespace Go.Fw
open Go.RowKit
set_option linter.unusedVariables false
theorem oneF_cons {t : Tr} {l : List Ev} {k : Nat} (hk : k < l.length) : oneF t (l.drop k) = (t.rok l[k] && oneF (t.rnext l[k]) (l.drop (k + 1))) := by
  rw [List.drop_eq_getElem_cons hk, oneF]
end Go.Fw
namespace Go.Proofs.Ytbjibpghbaemfaa
open Go.RowKit Go.Fw Go.Shelf
set_option maxHeartbeats 8000000
set_option maxRecDepth 100000
set_option linter.unusedVariables false
set_option linter.unusedSimpArgs false
theorem key_neq (x1 x2 y1 y2 : Int) (w : World) : (binOp .neq 50 (.agg #[.int .u64 x1, .int .u64 x2]) (.agg #[.int .u64 y1, .int .u64 y2])).run Try.prog w = .ok (.bool (!(x1 == y1 && x2 == y2))) w := by
  have hp : Try.prog.stoodInHeld 50 = false := by kernel_rfl
  rw [run_neq_struct, run_equalIn_agg w 9999 50 _ _ (by simp only [Program.fieldsOf, Try.underlying50]) hp]
  simp only [Program.fieldsOf, Try.underlying50]
  simp [Op.eqFields, go_sem, Try.underlying48]
  by_cases h1 : x1 = y1 <;> by_cases h2 : x2 = y2 <;> simp [h1, h2]
theorem kind9 (n : Int) : n = 1 ∨ n = 2 ∨ n = 3 ∨ n = 4 ∨ n = 5 ∨ n = 6 ∨ n = 7 ∨ n < 1 ∨ 7 < n := by omega
theorem rok_of {s : Tr} {x : Ev} {bn d1 kzb d5 kpb ib : Bool} (h1 : (x.nth == (s.rnext x).nth) = bn) (h2 : (decide (1 ≤ x.kind) && decide (x.kind ≤ 3)) = d1) (h3 : (x.hi == 0 && x.lo == 0) = kzb) (h4 : decide (5 ≤ x.kind) = d5) (h5 : (x.hi == s.hi && x.lo == s.lo) = kpb) (h6 : s.is x = ib) :
    s.rok x = (bn && (!(d1 && !kzb) && (!(d5 && !kpb) && ib))) := by
  unfold Tr.rok
  rw [h1, h2, h3, h4, h5, h6]
/-- what stood last -/
def prevIs (l : List Ev) (k : Nat) (s : Tr) : Prop := (k = 0 ∧ s.last = 0 ∧ s.hi = 0 ∧ s.lo = 0) ∨ ∃ (j : Nat) (h : j < l.length), k = j + 1 ∧ s.last = l[j].kind ∧ s.hi = l[j].hi ∧ s.lo = l[j].lo
theorem one_any (l : List Ev) (A : Option Addr) (c n : Nat) (w : World) (ho : ∀ e ∈ l, EvOk e) (hr : Reads w w.heap.size 34 A n (evs l)) (hl : n ≤ 100000) :
    Calls Try.prog 23 #[.slice A n c] w fun e w' => e = .returned (.bool (oneF Tr.zero l)) ∧ Below w.heap.size w w' := by
  have hn := ev_len ho hr
  have HN := Lib.hid hn
  have HO := Lib.hid ho
  clear hn ho
  go_enter Try.func23, Try.ntmps23
  go_wp2
  go_loopw [3, 4] (fun v i wr => ∃ (k : Nat) (q : Int), k ≤ n ∧ i = .int .i64 k ∧ v = .int .i64 q ∧ (0 ≤ q ∧ q ≤ k) ∧ Hid (∃ s : Tr, q = s.nth ∧ oneF Tr.zero l = oneF s (l.drop k) ∧ prevIs l k s ∧ Below w.heap.size w wr)) (fun _ i _ => n - (intOf i).toNat)
  case atStart => exact ⟨0, 0, Nat.zero_le _, rfl, rfl, by omega, Lib.hid ⟨Tr.zero, rfl, rfl, .inl ⟨rfl, rfl, rfl, rfl⟩, Below.refl _ _⟩⟩
  case round =>
    obtain ⟨k, q, hk, rfl, rfl, hqb, HW⟩ := hrel
    obtain ⟨s, hq, hone, hprev, hb⟩ := HW.out
    by_cases hlt : k < n
    · have hkl : k < l.length := by have := HN.out; omega
      obtain ⟨b, o, rfl, hbw, hc⟩ := ev_at HO.out (hr.below hb) hkl
      have hx := HO.out _ (List.getElem_mem hkl)
      have hs := oneF_cons (t := s) hkl
      rw [hs] at hone
      have hnp : prevIs l (k + 1) (s.rnext l[k]) := .inr ⟨k, hkl, rfl, rfl, rfl, rfl⟩
      generalize l[k] = x at *
      have HALL := Lib.hid (And.intro hx.size (And.intro hx.all (at_cells hc)))
      have hp2 : (k = 0 ∧ s.last = 0 ∧ s.hi = 0 ∧ s.lo = 0) ∨ (0 < k ∧ ∃ j : Nat, k = j + 1 ∧ wr.cell? ⟨b, o + j * 34, none⟩ = some (.int .i64 s.last) ∧ wr.cell? ⟨b, o + j * 34 + 27, none⟩ = some (.int .u64 s.hi) ∧ wr.cell? ⟨b, o + j * 34 + 28, none⟩ = some (.int .u64 s.lo)) := by
        rcases hprev with h | ⟨j, hj, e1, e2, e3, e4⟩
        · exact .inl h
        · obtain ⟨b2, o2, q2, _, hc2⟩ := ev_at HO.out (hr.below hb) hj
          injection q2 with q2
          injection q2 with q2 q3 _
          subst q2 q3
          have hx2 := HO.out _ (List.getElem_mem hj)
          have p0 := hc2 0 _ (by simpa using hx2.c0)
          have p1 := hc2 27 _ (by simpa using hx2.c27)
          have p2 := hc2 28 _ (by simpa using hx2.c28)
          exact .inr ⟨by omega, j, e1, by rw [e2]; simpa using p0, by rw [e3]; exact p1, by rw [e4]; exact p2⟩
      have HG := Lib.hid (And.intro hq (And.intro hone (And.intro hb (And.intro hx hnp))))
      have HR := Lib.hid hr
      have HP2 := Lib.hid hp2
      have hbr : b < wr.heap.size := Nat.lt_of_lt_of_le hbw hb.size
      have hsz := hb.size
      clear hs hc hx hr hprev hp2 hone hb hnp HW hq
      have hlen : (k : Int) < (n : Int) := by omega
      have bx0 := ((Blk.new_at wr 52 x.cs rfl).alloc (.cells #[.int .u64 0, .int .u64 0] 50))
      have bk0 := Blk.new_at (wr.alloc (.cells x.cs 52)) 50 #[.int .u64 0, .int .u64 0] (g := wr.heap.size + 1) (by simp)
      have bb0 := sub_alloc (sub_alloc (Below.refl wr.heap.size wr) (.cells x.cs 52)) (.cells #[.int .u64 0, .int .u64 0] 50)
      have HBX := Lib.hid (And.intro bx0 (And.intro bk0 bb0))
      clear bx0 bk0 bb0
      go_upto_region 8 with (first | (refine wpList_load_at rowE rfl (.tmp 17) rfl ⟨b, o + k * 34, none⟩ (by rfl) x.cs HALL.out.1 HALL.out.2.2 ?_) | (refine wpList_alloc_row rowE rfl rfl ?_) | (refine wpList_store_new rowE rfl (.tmp 5) (.tmp 18) rfl _ rfl (by rfl) x.cs _ (by rfl) _ HALL.out.1 rowE.zc_size HALL.out.2.1 ?_))
      generalize ((wr.alloc (.cells x.cs 52)).alloc (.cells #[.int .u64 0, .int .u64 0] 50)) = W8 at *
      have bk1 := HBX.out.2.1
      have fz0 := bk1.frozen 0
      have fz1 := bk1.frozen 1
      have kc0 := bk1.cell 0
      have kc1 := bk1.cell 1
      simp at kc0 kc1
      go_upto_if 21 with fail
      go_cut [6] (fun s6 wx => s6 = .int .i64 s.last ∧ Hid (Blk wx (wr.heap.size + 1) 50 #[.int .u64 s.hi, .int .u64 s.lo] ∧ Blk wx wr.heap.size 52 x.cs ∧ Below wr.heap.size wr wx))
      case first =>
        rcases HP2.out with ⟨h0, e1, e2, e3⟩ | ⟨h0, j, hj, q0, q1, q2⟩
        · have hk0 : ¬ 0 < (k : Int) := by omega
          have HE := Lib.hid (And.intro e1 (And.intro e2 e3))
          clear e1 e2 e3 h0
          go_wp2
          go_meet
          exact ⟨by rw [HE.out.1], Lib.hid ⟨by rw [HE.out.2.1, HE.out.2.2]; exact HBX.out.2.1, HBX.out.1, HBX.out.2.2⟩⟩
        · have hk0 : 0 < (k : Int) := by omega
          have hw : IntKind.i64.wrap ((k : Int) - 1) = (j : Int) := by rw [IntWalk.i64_in _ ⟨by omega, by omega⟩]; omega
          have hkj : (k : Int) - 1 = (j : Int) := by omega
          have hlen2 : (j : Int) < (n : Int) := by omega
          have q00 := (Below.cell HBX.out.2.2 (p := ⟨b, o + j * 34, none⟩) hbr).trans q0
          have q11 := (Below.cell HBX.out.2.2 (p := ⟨b, o + j * 34 + 27, none⟩) hbr).trans q1
          have q22 := (Below.cell HBX.out.2.2 (p := ⟨b, o + j * 34 + 28, none⟩) hbr).trans q2
          have q33 : W8.cell? ⟨b, o + j * 34 + 27 + 1, none⟩ = some (.int .u64 s.lo) := q22
          clear q0 q1 q2 hj
          go_wp2
          go_meet
          refine ⟨rfl, Lib.hid ⟨by simpa using (HBX.out.2.1.set_ 0 (.int .u64 s.hi)).set_ 1 (.int .u64 s.lo), (HBX.out.1.far (p := ⟨wr.heap.size + 1, 0, none⟩) (by show wr.heap.size ≠ wr.heap.size + 1; omega) _).far (p := ⟨wr.heap.size + 1, 1, none⟩) (by show wr.heap.size ≠ wr.heap.size + 1; omega) _, (HBX.out.2.2.setCell (p := ⟨wr.heap.size + 1, 0, none⟩) (Nat.le_succ _) _).setCell (p := ⟨wr.heap.size + 1, 1, none⟩) (Nat.le_succ _) _⟩⟩
      case rest =>
        obtain ⟨rfl, HC⟩ := hcut
        have hbw2 : Below w.heap.size w wc := HG.out.2.2.1.trans (HC.out.2.2.mono hsz)
        have HBW := Lib.hid hbw2
        have hx := HG.out.2.2.2.1
        have y0 := (HC.out.2.1.cell 0).trans hx.c0
        have y2 := (HC.out.2.1.cell 2).trans hx.c2
        have y27 := (HC.out.2.1.cell 27).trans hx.c27
        have y28 := (HC.out.2.1.cell 28).trans hx.c28
        have z0 := HC.out.1.cell 0
        have z1 := HC.out.1.cell 1
        simp at z0 z1
        clear hbw2 hx fz0 fz1 kc0 kc1 bk1
        have hqs := HG.out.1
        have HQS := Lib.hid hqs
        clear hqs
        obtain ⟨kz, hkz, hkn⟩ : ∃ kz : Bool, (x.hi == 0 && x.lo == 0) = !kz ∧ ∀ w, (binOp .neq 50 (.agg #[.int .u64 x.hi, .int .u64 x.lo]) (.agg #[.int .u64 0, .int .u64 0])).run Try.prog w = .ok (.bool kz) w := ⟨_, (Bool.not_not _).symm, key_neq _ _ _ _⟩
        obtain ⟨kp, hkp, hpn⟩ : ∃ kp : Bool, (x.hi == s.hi && x.lo == s.lo) = !kp ∧ ∀ w, (binOp .neq 50 (.agg #[.int .u64 x.hi, .int .u64 x.lo]) (.agg #[.int .u64 s.hi, .int .u64 s.lo])).run Try.prog w = .ok (.bool kp) w := ⟨_, (Bool.not_not _).symm, key_neq _ _ _ _⟩
        have HKZ := Lib.hid (And.intro hkz hkp)
        clear hkz hkp
        rcases kind9 x.kind with hk | hk | hk | hk | hk | hk | hk | hk | hk
        · rw [hk] at y0
          have HN9A : Hid ((decide (1 ≤ x.kind) && decide (x.kind ≤ 3)) = true) := by rw [hk]; exact Lib.hid rfl
          have HN9B : Hid (decide (5 ≤ x.kind) = false) := by rw [hk]; exact Lib.hid rfl
          have HK9 := Lib.hid hk
          clear hk
          cases l3 : (s.last == 3) with
          | true =>
            have l0 : (s.last == 0) = false := by simp at l3 ⊢; omega
            have HIS : Hid (s.is x = true) := by unfold Tr.is; rw [HK9.out]; first | exact Lib.hid (by simp only [l3, l0]; rfl) | exact Lib.hid (by simp [l3, l0])
            have HNX : Hid (q + 1 = (s.rnext x).nth) := by unfold Tr.rnext; rw [if_pos ⟨HK9.out, by simpa using l3⟩, ← HQS.out]; exact Lib.hid rfl
            cases b9 : (x.nth != q + 1) with
            | true =>
              have HB9 : Hid ((x.nth == q + 1) = false) := Lib.hid (by simpa using b9)
              go_wp2
              go_ret
              exact ⟨ret_b (by rw [HG.out.2.1, rok_of ((congrArg (fun z => x.nth == z) HNX.out.symm).trans HB9.out) HN9A.out HKZ.out.1 HN9B.out HKZ.out.2 HIS.out]; simp), HBW.out⟩
            | false =>
              have HB9 : Hid ((x.nth == q + 1) = true) := Lib.hid (by simpa using b9)
              cases kz with
              | true =>
                go_wp2
                go_ret
                exact ⟨ret_b (by rw [HG.out.2.1, rok_of ((congrArg (fun z => x.nth == z) HNX.out.symm).trans HB9.out) HN9A.out HKZ.out.1 HN9B.out HKZ.out.2 HIS.out]; simp), HBW.out⟩
              | false =>
                go_wp2
                go_roundw
                case rel => exact ⟨k + 1, q + 1, by omega, by go_num, rfl, by omega, Lib.hid ⟨s.rnext x, HNX.out, by rw [HG.out.2.1, rok_of ((congrArg (fun z => x.nth == z) HNX.out.symm).trans HB9.out) HN9A.out HKZ.out.1 HN9B.out HKZ.out.2 HIS.out]; simp, HG.out.2.2.2.2, HBW.out⟩⟩
                case measure => simp [intOf]; omega
          | false =>
            cases l0 : (s.last == 0) with
            | true =>
              have HIS : Hid (s.is x = true) := by unfold Tr.is; rw [HK9.out]; first | exact Lib.hid (by simp only [l3, l0]; rfl) | exact Lib.hid (by simp [l3, l0])
              have HNX : Hid (q = (s.rnext x).nth) := by unfold Tr.rnext; rw [if_neg (fun h => by have := h.2; simp [this] at l3)]; exact Lib.hid HQS.out
              cases b9 : (x.nth != q) with
              | true =>
                have HB9 : Hid ((x.nth == q) = false) := Lib.hid (by simpa using b9)
                go_wp2
                go_ret
                exact ⟨ret_b (by rw [HG.out.2.1, rok_of ((congrArg (fun z => x.nth == z) HNX.out.symm).trans HB9.out) HN9A.out HKZ.out.1 HN9B.out HKZ.out.2 HIS.out]; simp), HBW.out⟩
              | false =>
                have HB9 : Hid ((x.nth == q) = true) := Lib.hid (by simpa using b9)
                cases kz with
                | true =>
                  go_wp2
                  go_ret
                  exact ⟨ret_b (by rw [HG.out.2.1, rok_of ((congrArg (fun z => x.nth == z) HNX.out.symm).trans HB9.out) HN9A.out HKZ.out.1 HN9B.out HKZ.out.2 HIS.out]; simp), HBW.out⟩
                | false =>
                  go_wp2
                  go_roundw
                  case rel => exact ⟨k + 1, q, by omega, by go_num, rfl, by omega, Lib.hid ⟨s.rnext x, HNX.out, by rw [HG.out.2.1, rok_of ((congrArg (fun z => x.nth == z) HNX.out.symm).trans HB9.out) HN9A.out HKZ.out.1 HN9B.out HKZ.out.2 HIS.out]; simp, HG.out.2.2.2.2, HBW.out⟩⟩
                  case measure => simp [intOf]; omega
            | false =>
              have HIS : Hid (s.is x = false) := by unfold Tr.is; rw [HK9.out]; first | exact Lib.hid (by simp only [l3, l0]; rfl) | exact Lib.hid (by simp [l3, l0])
              have HNX : Hid (q = (s.rnext x).nth) := by unfold Tr.rnext; rw [if_neg (fun h => by have := h.2; simp [this] at l3)]; exact Lib.hid HQS.out
              cases b9 : (x.nth != q) with
              | true =>
                have HB9 : Hid ((x.nth == q) = false) := Lib.hid (by simpa using b9)
                go_wp2
                go_ret
                exact ⟨ret_b (by rw [HG.out.2.1, rok_of ((congrArg (fun z => x.nth == z) HNX.out.symm).trans HB9.out) HN9A.out HKZ.out.1 HN9B.out HKZ.out.2 HIS.out]; simp), HBW.out⟩
              | false =>
                have HB9 : Hid ((x.nth == q) = true) := Lib.hid (by simpa using b9)
                cases kz with
                | true =>
                  go_wp2
                  go_ret
                  exact ⟨ret_b (by rw [HG.out.2.1, rok_of ((congrArg (fun z => x.nth == z) HNX.out.symm).trans HB9.out) HN9A.out HKZ.out.1 HN9B.out HKZ.out.2 HIS.out]; simp), HBW.out⟩
                | false =>
                  go_wp2
                  go_ret
                  exact ⟨ret_b (by rw [HG.out.2.1, rok_of ((congrArg (fun z => x.nth == z) HNX.out.symm).trans HB9.out) HN9A.out HKZ.out.1 HN9B.out HKZ.out.2 HIS.out]; simp), HBW.out⟩
        · rw [hk] at y0
          have HN9A : Hid ((decide (1 ≤ x.kind) && decide (x.kind ≤ 3)) = true) := by rw [hk]; exact Lib.hid rfl
          have HN9B : Hid (decide (5 ≤ x.kind) = false) := by rw [hk]; exact Lib.hid rfl
          have HK9 := Lib.hid hk
          clear hk
          cases l1 : (s.last == 1) with
          | true =>
            have HIS : Hid (s.is x = true) := by unfold Tr.is; rw [HK9.out]; first | exact Lib.hid (by simp only [l1]; rfl) | exact Lib.hid (by simp [l1])
            have HNX : Hid (q = (s.rnext x).nth) := by unfold Tr.rnext; rw [if_neg (fun h => by have := h.1; rw [HK9.out] at this; omega)]; exact Lib.hid HQS.out
            cases b9 : (x.nth != q) with
            | true =>
              have HB9 : Hid ((x.nth == q) = false) := Lib.hid (by simpa using b9)
              go_wp2
              go_ret
              exact ⟨ret_b (by rw [HG.out.2.1, rok_of ((congrArg (fun z => x.nth == z) HNX.out.symm).trans HB9.out) HN9A.out HKZ.out.1 HN9B.out HKZ.out.2 HIS.out]; simp), HBW.out⟩
            | false =>
              have HB9 : Hid ((x.nth == q) = true) := Lib.hid (by simpa using b9)
              cases kz with
              | true =>
                go_wp2
                go_ret
                exact ⟨ret_b (by rw [HG.out.2.1, rok_of ((congrArg (fun z => x.nth == z) HNX.out.symm).trans HB9.out) HN9A.out HKZ.out.1 HN9B.out HKZ.out.2 HIS.out]; simp), HBW.out⟩
              | false =>
                go_wp2
                go_roundw
                case rel => exact ⟨k + 1, q, by omega, by go_num, rfl, by omega, Lib.hid ⟨s.rnext x, HNX.out, by rw [HG.out.2.1, rok_of ((congrArg (fun z => x.nth == z) HNX.out.symm).trans HB9.out) HN9A.out HKZ.out.1 HN9B.out HKZ.out.2 HIS.out]; simp, HG.out.2.2.2.2, HBW.out⟩⟩
                case measure => simp [intOf]; omega
          | false =>
            have HIS : Hid (s.is x = false) := by unfold Tr.is; rw [HK9.out]; first | exact Lib.hid (by simp only [l1]; rfl) | exact Lib.hid (by simp [l1])
            have HNX : Hid (q = (s.rnext x).nth) := by unfold Tr.rnext; rw [if_neg (fun h => by have := h.1; rw [HK9.out] at this; omega)]; exact Lib.hid HQS.out
            cases b9 : (x.nth != q) with
            | true =>
              have HB9 : Hid ((x.nth == q) = false) := Lib.hid (by simpa using b9)
              go_wp2
              go_ret
              exact ⟨ret_b (by rw [HG.out.2.1, rok_of ((congrArg (fun z => x.nth == z) HNX.out.symm).trans HB9.out) HN9A.out HKZ.out.1 HN9B.out HKZ.out.2 HIS.out]; simp), HBW.out⟩
            | false =>
              have HB9 : Hid ((x.nth == q) = true) := Lib.hid (by simpa using b9)
              cases kz with
              | true =>
                go_wp2
                go_ret
                exact ⟨ret_b (by rw [HG.out.2.1, rok_of ((congrArg (fun z => x.nth == z) HNX.out.symm).trans HB9.out) HN9A.out HKZ.out.1 HN9B.out HKZ.out.2 HIS.out]; simp), HBW.out⟩
              | false =>
                go_wp2
                go_ret
                exact ⟨ret_b (by rw [HG.out.2.1, rok_of ((congrArg (fun z => x.nth == z) HNX.out.symm).trans HB9.out) HN9A.out HKZ.out.1 HN9B.out HKZ.out.2 HIS.out]; simp), HBW.out⟩
        · rw [hk] at y0
          have HN9A : Hid ((decide (1 ≤ x.kind) && decide (x.kind ≤ 3)) = true) := by rw [hk]; exact Lib.hid rfl
          have HN9B : Hid (decide (5 ≤ x.kind) = false) := by rw [hk]; exact Lib.hid rfl
          have HK9 := Lib.hid hk
          clear hk
          cases l2 : (s.last == 2) with
          | true =>
            have HIS : Hid (s.is x = true) := by unfold Tr.is; rw [HK9.out]; first | exact Lib.hid (by simp only [l2]; rfl) | exact Lib.hid (by simp [l2])
            have HNX : Hid (q = (s.rnext x).nth) := by unfold Tr.rnext; rw [if_neg (fun h => by have := h.1; rw [HK9.out] at this; omega)]; exact Lib.hid HQS.out
            cases b9 : (x.nth != q) with
            | true =>
              have HB9 : Hid ((x.nth == q) = false) := Lib.hid (by simpa using b9)
              go_wp2
              go_ret
              exact ⟨ret_b (by rw [HG.out.2.1, rok_of ((congrArg (fun z => x.nth == z) HNX.out.symm).trans HB9.out) HN9A.out HKZ.out.1 HN9B.out HKZ.out.2 HIS.out]; simp), HBW.out⟩
            | false =>
              have HB9 : Hid ((x.nth == q) = true) := Lib.hid (by simpa using b9)
              cases kz with
              | true =>
                go_wp2
                go_ret
                exact ⟨ret_b (by rw [HG.out.2.1, rok_of ((congrArg (fun z => x.nth == z) HNX.out.symm).trans HB9.out) HN9A.out HKZ.out.1 HN9B.out HKZ.out.2 HIS.out]; simp), HBW.out⟩
              | false =>
                go_wp2
                go_roundw
                case rel => exact ⟨k + 1, q, by omega, by go_num, rfl, by omega, Lib.hid ⟨s.rnext x, HNX.out, by rw [HG.out.2.1, rok_of ((congrArg (fun z => x.nth == z) HNX.out.symm).trans HB9.out) HN9A.out HKZ.out.1 HN9B.out HKZ.out.2 HIS.out]; simp, HG.out.2.2.2.2, HBW.out⟩⟩
                case measure => simp [intOf]; omega
          | false =>
            have HIS : Hid (s.is x = false) := by unfold Tr.is; rw [HK9.out]; first | exact Lib.hid (by simp only [l2]; rfl) | exact Lib.hid (by simp [l2])
            have HNX : Hid (q = (s.rnext x).nth) := by unfold Tr.rnext; rw [if_neg (fun h => by have := h.1; rw [HK9.out] at this; omega)]; exact Lib.hid HQS.out
            cases b9 : (x.nth != q) with
            | true =>
              have HB9 : Hid ((x.nth == q) = false) := Lib.hid (by simpa using b9)
              go_wp2
              go_ret
              exact ⟨ret_b (by rw [HG.out.2.1, rok_of ((congrArg (fun z => x.nth == z) HNX.out.symm).trans HB9.out) HN9A.out HKZ.out.1 HN9B.out HKZ.out.2 HIS.out]; simp), HBW.out⟩
            | false =>
              have HB9 : Hid ((x.nth == q) = true) := Lib.hid (by simpa using b9)
              cases kz with
              | true =>
                go_wp2
                go_ret
                exact ⟨ret_b (by rw [HG.out.2.1, rok_of ((congrArg (fun z => x.nth == z) HNX.out.symm).trans HB9.out) HN9A.out HKZ.out.1 HN9B.out HKZ.out.2 HIS.out]; simp), HBW.out⟩
              | false =>
                go_wp2
                go_ret
                exact ⟨ret_b (by rw [HG.out.2.1, rok_of ((congrArg (fun z => x.nth == z) HNX.out.symm).trans HB9.out) HN9A.out HKZ.out.1 HN9B.out HKZ.out.2 HIS.out]; simp), HBW.out⟩
        · rw [hk] at y0
          have HN9A : Hid ((decide (1 ≤ x.kind) && decide (x.kind ≤ 3)) = false) := by rw [hk]; exact Lib.hid rfl
          have HN9B : Hid (decide (5 ≤ x.kind) = false) := by rw [hk]; exact Lib.hid rfl
          have HK9 := Lib.hid hk
          clear hk
          cases l0 : (s.last == 0) with
          | true =>
            have HIS : Hid (s.is x = true) := by unfold Tr.is; rw [HK9.out]; first | exact Lib.hid (by simp only [l0]; rfl) | exact Lib.hid (by simp [l0])
            have HNX : Hid (q = (s.rnext x).nth) := by unfold Tr.rnext; rw [if_neg (fun h => by have := h.1; rw [HK9.out] at this; omega)]; exact Lib.hid HQS.out
            cases b9 : (x.nth != q) with
            | true =>
              have HB9 : Hid ((x.nth == q) = false) := Lib.hid (by simpa using b9)
              go_wp2
              go_ret
              exact ⟨ret_b (by rw [HG.out.2.1, rok_of ((congrArg (fun z => x.nth == z) HNX.out.symm).trans HB9.out) HN9A.out HKZ.out.1 HN9B.out HKZ.out.2 HIS.out]; simp), HBW.out⟩
            | false =>
              have HB9 : Hid ((x.nth == q) = true) := Lib.hid (by simpa using b9)
              go_wp2
              go_roundw
              case rel => exact ⟨k + 1, q, by omega, by go_num, rfl, by omega, Lib.hid ⟨s.rnext x, HNX.out, by rw [HG.out.2.1, rok_of ((congrArg (fun z => x.nth == z) HNX.out.symm).trans HB9.out) HN9A.out HKZ.out.1 HN9B.out HKZ.out.2 HIS.out]; simp, HG.out.2.2.2.2, HBW.out⟩⟩
              case measure => simp [intOf]; omega
          | false =>
            cases l7 : (s.last == 7) with
            | true =>
              have HIS : Hid (s.is x = true) := by unfold Tr.is; rw [HK9.out]; first | exact Lib.hid (by simp only [l0, l7]; rfl) | exact Lib.hid (by simp [l0, l7])
              have HNX : Hid (q = (s.rnext x).nth) := by unfold Tr.rnext; rw [if_neg (fun h => by have := h.1; rw [HK9.out] at this; omega)]; exact Lib.hid HQS.out
              cases b9 : (x.nth != q) with
              | true =>
                have HB9 : Hid ((x.nth == q) = false) := Lib.hid (by simpa using b9)
                go_wp2
                go_ret
                exact ⟨ret_b (by rw [HG.out.2.1, rok_of ((congrArg (fun z => x.nth == z) HNX.out.symm).trans HB9.out) HN9A.out HKZ.out.1 HN9B.out HKZ.out.2 HIS.out]; simp), HBW.out⟩
              | false =>
                have HB9 : Hid ((x.nth == q) = true) := Lib.hid (by simpa using b9)
                go_wp2
                go_roundw
                case rel => exact ⟨k + 1, q, by omega, by go_num, rfl, by omega, Lib.hid ⟨s.rnext x, HNX.out, by rw [HG.out.2.1, rok_of ((congrArg (fun z => x.nth == z) HNX.out.symm).trans HB9.out) HN9A.out HKZ.out.1 HN9B.out HKZ.out.2 HIS.out]; simp, HG.out.2.2.2.2, HBW.out⟩⟩
                case measure => simp [intOf]; omega
            | false =>
              have HIS : Hid (s.is x = false) := by unfold Tr.is; rw [HK9.out]; first | exact Lib.hid (by simp only [l0, l7]; rfl) | exact Lib.hid (by simp [l0, l7])
              have HNX : Hid (q = (s.rnext x).nth) := by unfold Tr.rnext; rw [if_neg (fun h => by have := h.1; rw [HK9.out] at this; omega)]; exact Lib.hid HQS.out
              cases b9 : (x.nth != q) with
              | true =>
                have HB9 : Hid ((x.nth == q) = false) := Lib.hid (by simpa using b9)
                go_wp2
                go_ret
                exact ⟨ret_b (by rw [HG.out.2.1, rok_of ((congrArg (fun z => x.nth == z) HNX.out.symm).trans HB9.out) HN9A.out HKZ.out.1 HN9B.out HKZ.out.2 HIS.out]; simp), HBW.out⟩
              | false =>
                have HB9 : Hid ((x.nth == q) = true) := Lib.hid (by simpa using b9)
                go_wp2
                go_ret
                exact ⟨ret_b (by rw [HG.out.2.1, rok_of ((congrArg (fun z => x.nth == z) HNX.out.symm).trans HB9.out) HN9A.out HKZ.out.1 HN9B.out HKZ.out.2 HIS.out]; simp), HBW.out⟩
        · rw [hk] at y0
          have HN9A : Hid ((decide (1 ≤ x.kind) && decide (x.kind ≤ 3)) = false) := by rw [hk]; exact Lib.hid rfl
          have HN9B : Hid (decide (5 ≤ x.kind) = true) := by rw [hk]; exact Lib.hid rfl
          have HK9 := Lib.hid hk
          clear hk
          cases l4 : (s.last == 4) with
          | true =>
            have HIS : Hid (s.is x = true) := by unfold Tr.is; rw [HK9.out]; first | exact Lib.hid (by simp only [l4]; rfl) | exact Lib.hid (by simp [l4])
            have HNX : Hid (q = (s.rnext x).nth) := by unfold Tr.rnext; rw [if_neg (fun h => by have := h.1; rw [HK9.out] at this; omega)]; exact Lib.hid HQS.out
            cases b9 : (x.nth != q) with
            | true =>
              have HB9 : Hid ((x.nth == q) = false) := Lib.hid (by simpa using b9)
              go_wp2
              go_ret
              exact ⟨ret_b (by rw [HG.out.2.1, rok_of ((congrArg (fun z => x.nth == z) HNX.out.symm).trans HB9.out) HN9A.out HKZ.out.1 HN9B.out HKZ.out.2 HIS.out]; simp), HBW.out⟩
            | false =>
              have HB9 : Hid ((x.nth == q) = true) := Lib.hid (by simpa using b9)
              cases kp with
              | true =>
                go_wp2
                go_ret
                exact ⟨ret_b (by rw [HG.out.2.1, rok_of ((congrArg (fun z => x.nth == z) HNX.out.symm).trans HB9.out) HN9A.out HKZ.out.1 HN9B.out HKZ.out.2 HIS.out]; simp), HBW.out⟩
              | false =>
                go_wp2
                go_roundw
                case rel => exact ⟨k + 1, q, by omega, by go_num, rfl, by omega, Lib.hid ⟨s.rnext x, HNX.out, by rw [HG.out.2.1, rok_of ((congrArg (fun z => x.nth == z) HNX.out.symm).trans HB9.out) HN9A.out HKZ.out.1 HN9B.out HKZ.out.2 HIS.out]; simp, HG.out.2.2.2.2, HBW.out⟩⟩
                case measure => simp [intOf]; omega
          | false =>
            have HIS : Hid (s.is x = false) := by unfold Tr.is; rw [HK9.out]; first | exact Lib.hid (by simp only [l4]; rfl) | exact Lib.hid (by simp [l4])
            have HNX : Hid (q = (s.rnext x).nth) := by unfold Tr.rnext; rw [if_neg (fun h => by have := h.1; rw [HK9.out] at this; omega)]; exact Lib.hid HQS.out
            cases b9 : (x.nth != q) with
            | true =>
              have HB9 : Hid ((x.nth == q) = false) := Lib.hid (by simpa using b9)
              go_wp2
              go_ret
              exact ⟨ret_b (by rw [HG.out.2.1, rok_of ((congrArg (fun z => x.nth == z) HNX.out.symm).trans HB9.out) HN9A.out HKZ.out.1 HN9B.out HKZ.out.2 HIS.out]; simp), HBW.out⟩
            | false =>
              have HB9 : Hid ((x.nth == q) = true) := Lib.hid (by simpa using b9)
              cases kp with
              | true =>
                go_wp2
                go_ret
                exact ⟨ret_b (by rw [HG.out.2.1, rok_of ((congrArg (fun z => x.nth == z) HNX.out.symm).trans HB9.out) HN9A.out HKZ.out.1 HN9B.out HKZ.out.2 HIS.out]; simp), HBW.out⟩
              | false =>
                go_wp2
                go_ret
                exact ⟨ret_b (by rw [HG.out.2.1, rok_of ((congrArg (fun z => x.nth == z) HNX.out.symm).trans HB9.out) HN9A.out HKZ.out.1 HN9B.out HKZ.out.2 HIS.out]; simp), HBW.out⟩
        · rw [hk] at y0
          have HN9A : Hid ((decide (1 ≤ x.kind) && decide (x.kind ≤ 3)) = false) := by rw [hk]; exact Lib.hid rfl
          have HN9B : Hid (decide (5 ≤ x.kind) = true) := by rw [hk]; exact Lib.hid rfl
          have HK9 := Lib.hid hk
          clear hk
          cases l5 : (s.last == 5) with
          | true =>
            have HIS : Hid (s.is x = true) := by unfold Tr.is; rw [HK9.out]; first | exact Lib.hid (by simp only [l5]; rfl) | exact Lib.hid (by simp [l5])
            have HNX : Hid (q = (s.rnext x).nth) := by unfold Tr.rnext; rw [if_neg (fun h => by have := h.1; rw [HK9.out] at this; omega)]; exact Lib.hid HQS.out
            cases b9 : (x.nth != q) with
            | true =>
              have HB9 : Hid ((x.nth == q) = false) := Lib.hid (by simpa using b9)
              go_wp2
              go_ret
              exact ⟨ret_b (by rw [HG.out.2.1, rok_of ((congrArg (fun z => x.nth == z) HNX.out.symm).trans HB9.out) HN9A.out HKZ.out.1 HN9B.out HKZ.out.2 HIS.out]; simp), HBW.out⟩
            | false =>
              have HB9 : Hid ((x.nth == q) = true) := Lib.hid (by simpa using b9)
              cases kp with
              | true =>
                go_wp2
                go_ret
                exact ⟨ret_b (by rw [HG.out.2.1, rok_of ((congrArg (fun z => x.nth == z) HNX.out.symm).trans HB9.out) HN9A.out HKZ.out.1 HN9B.out HKZ.out.2 HIS.out]; simp), HBW.out⟩
              | false =>
                go_wp2
                go_roundw
                case rel => exact ⟨k + 1, q, by omega, by go_num, rfl, by omega, Lib.hid ⟨s.rnext x, HNX.out, by rw [HG.out.2.1, rok_of ((congrArg (fun z => x.nth == z) HNX.out.symm).trans HB9.out) HN9A.out HKZ.out.1 HN9B.out HKZ.out.2 HIS.out]; simp, HG.out.2.2.2.2, HBW.out⟩⟩
                case measure => simp [intOf]; omega
          | false =>
            have HIS : Hid (s.is x = false) := by unfold Tr.is; rw [HK9.out]; first | exact Lib.hid (by simp only [l5]; rfl) | exact Lib.hid (by simp [l5])
            have HNX : Hid (q = (s.rnext x).nth) := by unfold Tr.rnext; rw [if_neg (fun h => by have := h.1; rw [HK9.out] at this; omega)]; exact Lib.hid HQS.out
            cases b9 : (x.nth != q) with
            | true =>
              have HB9 : Hid ((x.nth == q) = false) := Lib.hid (by simpa using b9)
              go_wp2
              go_ret
              exact ⟨ret_b (by rw [HG.out.2.1, rok_of ((congrArg (fun z => x.nth == z) HNX.out.symm).trans HB9.out) HN9A.out HKZ.out.1 HN9B.out HKZ.out.2 HIS.out]; simp), HBW.out⟩
            | false =>
              have HB9 : Hid ((x.nth == q) = true) := Lib.hid (by simpa using b9)
              cases kp with
              | true =>
                go_wp2
                go_ret
                exact ⟨ret_b (by rw [HG.out.2.1, rok_of ((congrArg (fun z => x.nth == z) HNX.out.symm).trans HB9.out) HN9A.out HKZ.out.1 HN9B.out HKZ.out.2 HIS.out]; simp), HBW.out⟩
              | false =>
                go_wp2
                go_ret
                exact ⟨ret_b (by rw [HG.out.2.1, rok_of ((congrArg (fun z => x.nth == z) HNX.out.symm).trans HB9.out) HN9A.out HKZ.out.1 HN9B.out HKZ.out.2 HIS.out]; simp), HBW.out⟩
        · rw [hk] at y0
          have HN9A : Hid ((decide (1 ≤ x.kind) && decide (x.kind ≤ 3)) = false) := by rw [hk]; exact Lib.hid rfl
          have HN9B : Hid (decide (5 ≤ x.kind) = true) := by rw [hk]; exact Lib.hid rfl
          have HK9 := Lib.hid hk
          clear hk
          cases l5 : (s.last == 5) with
          | true =>
            have HIS : Hid (s.is x = true) := by unfold Tr.is; rw [HK9.out]; first | exact Lib.hid (by simp only [l5]; rfl) | exact Lib.hid (by simp [l5])
            have HNX : Hid (q = (s.rnext x).nth) := by unfold Tr.rnext; rw [if_neg (fun h => by have := h.1; rw [HK9.out] at this; omega)]; exact Lib.hid HQS.out
            cases b9 : (x.nth != q) with
            | true =>
              have HB9 : Hid ((x.nth == q) = false) := Lib.hid (by simpa using b9)
              go_wp2
              go_ret
              exact ⟨ret_b (by rw [HG.out.2.1, rok_of ((congrArg (fun z => x.nth == z) HNX.out.symm).trans HB9.out) HN9A.out HKZ.out.1 HN9B.out HKZ.out.2 HIS.out]; simp), HBW.out⟩
            | false =>
              have HB9 : Hid ((x.nth == q) = true) := Lib.hid (by simpa using b9)
              cases kp with
              | true =>
                go_wp2
                go_ret
                exact ⟨ret_b (by rw [HG.out.2.1, rok_of ((congrArg (fun z => x.nth == z) HNX.out.symm).trans HB9.out) HN9A.out HKZ.out.1 HN9B.out HKZ.out.2 HIS.out]; simp), HBW.out⟩
              | false =>
                go_wp2
                go_roundw
                case rel => exact ⟨k + 1, q, by omega, by go_num, rfl, by omega, Lib.hid ⟨s.rnext x, HNX.out, by rw [HG.out.2.1, rok_of ((congrArg (fun z => x.nth == z) HNX.out.symm).trans HB9.out) HN9A.out HKZ.out.1 HN9B.out HKZ.out.2 HIS.out]; simp, HG.out.2.2.2.2, HBW.out⟩⟩
                case measure => simp [intOf]; omega
          | false =>
            cases l6 : (s.last == 6) with
            | true =>
              have HIS : Hid (s.is x = true) := by unfold Tr.is; rw [HK9.out]; first | exact Lib.hid (by simp only [l5, l6]; rfl) | exact Lib.hid (by simp [l5, l6])
              have HNX : Hid (q = (s.rnext x).nth) := by unfold Tr.rnext; rw [if_neg (fun h => by have := h.1; rw [HK9.out] at this; omega)]; exact Lib.hid HQS.out
              cases b9 : (x.nth != q) with
              | true =>
                have HB9 : Hid ((x.nth == q) = false) := Lib.hid (by simpa using b9)
                go_wp2
                go_ret
                exact ⟨ret_b (by rw [HG.out.2.1, rok_of ((congrArg (fun z => x.nth == z) HNX.out.symm).trans HB9.out) HN9A.out HKZ.out.1 HN9B.out HKZ.out.2 HIS.out]; simp), HBW.out⟩
              | false =>
                have HB9 : Hid ((x.nth == q) = true) := Lib.hid (by simpa using b9)
                cases kp with
                | true =>
                  go_wp2
                  go_ret
                  exact ⟨ret_b (by rw [HG.out.2.1, rok_of ((congrArg (fun z => x.nth == z) HNX.out.symm).trans HB9.out) HN9A.out HKZ.out.1 HN9B.out HKZ.out.2 HIS.out]; simp), HBW.out⟩
                | false =>
                  go_wp2
                  go_roundw
                  case rel => exact ⟨k + 1, q, by omega, by go_num, rfl, by omega, Lib.hid ⟨s.rnext x, HNX.out, by rw [HG.out.2.1, rok_of ((congrArg (fun z => x.nth == z) HNX.out.symm).trans HB9.out) HN9A.out HKZ.out.1 HN9B.out HKZ.out.2 HIS.out]; simp, HG.out.2.2.2.2, HBW.out⟩⟩
                  case measure => simp [intOf]; omega
            | false =>
              have HIS : Hid (s.is x = false) := by unfold Tr.is; rw [HK9.out]; first | exact Lib.hid (by simp only [l5, l6]; rfl) | exact Lib.hid (by simp [l5, l6])
              have HNX : Hid (q = (s.rnext x).nth) := by unfold Tr.rnext; rw [if_neg (fun h => by have := h.1; rw [HK9.out] at this; omega)]; exact Lib.hid HQS.out
              cases b9 : (x.nth != q) with
              | true =>
                have HB9 : Hid ((x.nth == q) = false) := Lib.hid (by simpa using b9)
                go_wp2
                go_ret
                exact ⟨ret_b (by rw [HG.out.2.1, rok_of ((congrArg (fun z => x.nth == z) HNX.out.symm).trans HB9.out) HN9A.out HKZ.out.1 HN9B.out HKZ.out.2 HIS.out]; simp), HBW.out⟩
              | false =>
                have HB9 : Hid ((x.nth == q) = true) := Lib.hid (by simpa using b9)
                cases kp with
                | true =>
                  go_wp2
                  go_ret
                  exact ⟨ret_b (by rw [HG.out.2.1, rok_of ((congrArg (fun z => x.nth == z) HNX.out.symm).trans HB9.out) HN9A.out HKZ.out.1 HN9B.out HKZ.out.2 HIS.out]; simp), HBW.out⟩
                | false =>
                  go_wp2
                  go_ret
                  exact ⟨ret_b (by rw [HG.out.2.1, rok_of ((congrArg (fun z => x.nth == z) HNX.out.symm).trans HB9.out) HN9A.out HKZ.out.1 HN9B.out HKZ.out.2 HIS.out]; simp), HBW.out⟩
        · have HN0 := Lib.hid hk
          have g1 : ¬ 1 ≤ x.kind := by omega
          have g5 : ¬ 5 ≤ x.kind := by omega
          have m1 : (x.kind == 1) = false := by simp; omega
          have m2 : (x.kind == 2) = false := by simp; omega
          have m3 : (x.kind == 3) = false := by simp; omega
          have m4 : (x.kind == 4) = false := by simp; omega
          have m5 : (x.kind == 5) = false := by simp; omega
          have m6 : (x.kind == 6) = false := by simp; omega
          have m7 : (x.kind == 7) = false := by simp; omega
          have hd1 : (decide (1 ≤ x.kind) && decide (x.kind ≤ 3)) = false := by simp; omega
          have hd5 : decide (5 ≤ x.kind) = false := by simp; omega
          have HN9A := Lib.hid hd1
          have HN9B := Lib.hid hd5
          have HIS : Hid (s.is x = false) := by unfold Tr.is; rw [if_neg (by omega), if_neg (by omega), if_neg (by omega), if_neg (by omega), if_neg (by omega), if_neg (by omega), if_neg (by omega)]; exact Lib.hid rfl
          have HNX : Hid (q = (s.rnext x).nth) := by unfold Tr.rnext; rw [if_neg (by omega)]; exact Lib.hid HQS.out
          clear hk hd1 hd5
          cases b9 : (x.nth != q) with
          | true =>
            have HB9 : Hid ((x.nth == q) = false) := Lib.hid (by simpa using b9)
            go_wp2
            go_ret
            exact ⟨ret_b (by rw [HG.out.2.1, rok_of ((congrArg (fun z => x.nth == z) HNX.out.symm).trans HB9.out) HN9A.out HKZ.out.1 HN9B.out HKZ.out.2 HIS.out]; simp), HBW.out⟩
          | false =>
            have HB9 : Hid ((x.nth == q) = true) := Lib.hid (by simpa using b9)
            go_wp2
            go_ret
            exact ⟨ret_b (by rw [HG.out.2.1, rok_of ((congrArg (fun z => x.nth == z) HNX.out.symm).trans HB9.out) HN9A.out HKZ.out.1 HN9B.out HKZ.out.2 HIS.out]; simp), HBW.out⟩
        · have HN0 := Lib.hid hk
          have g1 : 1 ≤ x.kind := by omega
          have g3 : ¬ x.kind ≤ 3 := by omega
          have g5 : 5 ≤ x.kind := by omega
          have m1 : (x.kind == 1) = false := by simp; omega
          have m2 : (x.kind == 2) = false := by simp; omega
          have m3 : (x.kind == 3) = false := by simp; omega
          have m4 : (x.kind == 4) = false := by simp; omega
          have m5 : (x.kind == 5) = false := by simp; omega
          have m6 : (x.kind == 6) = false := by simp; omega
          have m7 : (x.kind == 7) = false := by simp; omega
          have hd1 : (decide (1 ≤ x.kind) && decide (x.kind ≤ 3)) = false := by simp; omega
          have hd5 : decide (5 ≤ x.kind) = true := by simp; omega
          have HN9A := Lib.hid hd1
          have HN9B := Lib.hid hd5
          have HIS : Hid (s.is x = false) := by unfold Tr.is; rw [if_neg (by omega), if_neg (by omega), if_neg (by omega), if_neg (by omega), if_neg (by omega), if_neg (by omega), if_neg (by omega)]; exact Lib.hid rfl
          have HNX : Hid (q = (s.rnext x).nth) := by unfold Tr.rnext; rw [if_neg (by omega)]; exact Lib.hid HQS.out
          clear hk hd1 hd5
          cases b9 : (x.nth != q) with
          | true =>
            have HB9 : Hid ((x.nth == q) = false) := Lib.hid (by simpa using b9)
            go_wp2
            go_ret
            exact ⟨ret_b (by rw [HG.out.2.1, rok_of ((congrArg (fun z => x.nth == z) HNX.out.symm).trans HB9.out) HN9A.out HKZ.out.1 HN9B.out HKZ.out.2 HIS.out]; simp), HBW.out⟩
          | false =>
            have HB9 : Hid ((x.nth == q) = true) := Lib.hid (by simpa using b9)
            cases kp with
            | true =>
              go_wp2
              go_ret
              exact ⟨ret_b (by rw [HG.out.2.1, rok_of ((congrArg (fun z => x.nth == z) HNX.out.symm).trans HB9.out) HN9A.out HKZ.out.1 HN9B.out HKZ.out.2 HIS.out]; simp), HBW.out⟩
            | false =>
              go_wp2
              go_ret
              exact ⟨ret_b (by rw [HG.out.2.1, rok_of ((congrArg (fun z => x.nth == z) HNX.out.symm).trans HB9.out) HN9A.out HKZ.out.1 HN9B.out HKZ.out.2 HIS.out]; simp), HBW.out⟩
    · obtain rfl : k = n := by omega
      have hf : l.drop k = [] := List.drop_eq_nil_of_le (by have := HN.out; omega)
      rw [hf] at hone
      have HR2 := Lib.hid (And.intro hone hb)
      clear hone hb hf hprev hq
      go_wp2
      go_ret
      exact ⟨ret_b (by rw [HR2.out.1]; rfl), HR2.out.2⟩
end Go.Proofs.Ytbjibpghbaemfaa
