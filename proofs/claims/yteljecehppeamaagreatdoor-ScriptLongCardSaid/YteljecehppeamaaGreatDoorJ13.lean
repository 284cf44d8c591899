/-
  3 texts of this claim, joined; each says itself what it proves. Condition: as each text says.
-/
import Derived.Test.YteljecehppeamaaGreatDoorJ12
import Derived.Test.YteljecehppeamaaGreatDoorJ09
import Derived.Test.YteljecehppeamaaGreatDoorJ05
import Derived.Test.YteljecehppeamaaGreatDoorJ03
import Derived.Test.YteljecehppeamaaGreatDoorJ02
import Derived.MapViews
import Derived.Laws.StructEq
import Derived.Laws.Tables
import Derived.Deep.WholeRow
import Derived.Great.BuildSlice
import Derived.Test.YteljecehppeamaaGreatDoorJ04
/-
  The reference's Raw and Text of a script, walked (chapter 42). Condition: few bytes.
-/
namespace Go.Proofs.YteljecehppeamaaGreatDoor
open Go.RowKit Go.Fw Go.Shelf
set_option maxHeartbeats 2000000
set_option maxRecDepth 100000
set_option linter.unusedVariables false
set_option linter.unusedSimpArgs false
theorem size_list (b : ByteArray) : b.data.toList.length = b.size := rfl
theorem rraw_any (s : Sc) (A A2 : Option Addr) (n c n2 c2 : Nat) (w : World) (hA : ScAt w A A2 n c n2 c2 s) (hok : s.ok) (hraw : (rawN s.lines).length ≤ 8000000) (htx : (textN s.pk).length ≤ 90000) (hln : ∀ p ∈ s.ps, ∀ x ∈ p, (lineN x).length ≤ 1000000) :
    Calls Tryz.prog 14 #[.agg (scArr s A A2 n c n2 c2)] w fun x w' => x = .returned (.string s.raw) ∧ Below w.heap.size w w' := by
  have HB := Lib.hid (sub_alloc (Below.refl _ w) (.cells (scArr s A A2 n c n2 c2) 27))
  have HG := Lib.hid (Blk.new_at w 27 (scArr s A A2 n c n2 c2) (g := w.heap.size) rfl)
  have HA := Lib.hid (hA.up HB.out)
  have HOK := Lib.hid hok
  have HLN := Lib.hid hln
  have HPL := Lib.hid hA.ps.len
  have HPL2 := Lib.hid hA.len2
  have HNLE := Lib.hid hA.nle
  have HRT := Lib.hid (fun (W : World) (hW : Below w.heap.size w W) => rtext_len s.pk A2 c2 W (by rw [← hA.len2]; exact (hA.up hW).pk) hok.pk (by have := hA.pkle; have := hA.len2; omega) (by omega))
  rw [← hA.len2] at HRT
  have HCL := Lib.hid (cfgN_len hok.cfg)
  have hin : ∀ x ∈ [s.st, s.sa, s.lo, s.hi], In64 x := fun x hx => by
    simp at hx
    rcases hx with rfl | rfl | rfl | rfl
    · exact hok.cfg.1
    · exact hok.cfg.2.1
    · exact hok.cfg.2.2.1
    · exact hok.cfg.2.2.2
  have HCT := Lib.hid (fun (W : World) (A : Option Addr) (hr : Reads W W.heap.size 1 A 4 (i64s [s.st, s.sa, s.lo, s.hi])) => rtext_any [s.st, s.sa, s.lo, s.hi] A 4 W hr hin (by simp))
  have HCB : Hid ((Go.Fw.textB [s.st, s.sa, s.lo, s.hi]).data.toList = textN [s.st, s.sa, s.lo, s.hi]) := Lib.hid (textB_list _)
  have HDK := Lib.hid (fun W => dec_any s.wk hok.wk W)
  have HDL : Hid ((decB s.wk).data.toList = Lib.itoa s.wk ∧ (decB s.wk).size ≤ 21) := Lib.hid ⟨decB_list _, decB_size hok.wk.1 hok.wk.2⟩
  have HRL : Hid (∀ k, (atP (cfgN s.st s.sa s.lo s.hi) s.ps k).length ≤ 8000000) := Lib.hid (fun k => Nat.le_trans (atP_le s k) hraw)
  have HRC : Hid (∀ (k : Nat) (h : k < s.ps.length) j, (atC (cfgN s.st s.sa s.lo s.hi) s.ps k s.ps[k] j).length ≤ 8000000) := Lib.hid (fun k h j => Nat.le_trans (atC_le s h j) hraw)
  have HFIN := Lib.hid (raw_at s)
  have HTX := Lib.hid htx
  clear hA hok hraw hin htx hln
  unfold scArr at *
  have c0 := HG.out.cell 0
  have c1 := HG.out.cell 1
  have c2' := HG.out.cell 2
  have c3 := HG.out.cell 3
  have c4 := HG.out.cell 4
  have c5 := HG.out.cell 5
  have c6 := HG.out.cell 6
  simp only [List.getElem?_toArray, List.getElem?_cons_succ, List.getElem?_cons_zero] at c0 c1 c2' c3 c4 c5 c6
  have hcl : cfgN s.st s.sa s.lo s.hi = storeS ++ 32 :: textN [s.st, s.sa, s.lo, s.hi] := rfl
  have HCE := Lib.hid hcl
  clear hcl
  generalize textN [s.st, s.sa, s.lo, s.hi] = cn at *
  generalize Go.Fw.textB [s.st, s.sa, s.lo, s.hi] = cb at *
  generalize cfgN s.st s.sa s.lo s.hi = C at *
  have hcs : cb.size ≤ 200 := by have h1 := HCL.out; rw [HCE.out, List.length_append, List.length_cons, ← HCB.out, size_list] at h1; omega
  go_enter Tryz.func14, Tryz.ntmps14
  go_wp2_with fail
  obtain ⟨WX, hWX⟩ : ∃ WX, (w.alloc (.cells #[.int .i64 s.st, .int .i64 s.sa, .int .i64 s.lo, .int .i64 s.hi, .slice A n c, .int .i64 s.wk, .slice A2 n2 c2] 27)).alloc (.cells #[.int .i64 s.st, .int .i64 s.sa, .int .i64 s.lo, .int .i64 s.hi] 23) = WX := ⟨_, rfl⟩
  obtain ⟨WA, hWA⟩ : ∃ WA, WX.alloc (.cells #[.int .i64 s.st, .int .i64 s.sa, .int .i64 s.lo, .int .i64 s.hi] 3) = WA := ⟨_, rfl⟩
  rw [hWX, hWA]
  have hz : WX.heap.size = w.heap.size + 1 + 1 := by rw [← hWX]; simp
  have hbX := HG.out.alloc (.cells #[.int .i64 s.st, .int .i64 s.sa, .int .i64 s.lo, .int .i64 s.hi] 23)
  rw [hWX] at hbX
  have hbA : Below WX.heap.size WX WA := by rw [← hWA]; exact sub_alloc (Below.refl _ _) _
  have HGA := Lib.hid (hbX.later hbA)
  have hb0 : Below w.heap.size w WX := by rw [← hWX]; exact sub_alloc HB.out _
  have HBA := Lib.hid (sub_trans hb0 hbA)
  have HPA := Lib.hid (((HA.out.up (sub_alloc (Below.refl _ _) (.cells #[.int .i64 s.st, .int .i64 s.sa, .int .i64 s.lo, .int .i64 s.hi] 23)))))
  rw [hWX] at HPA
  have HPB := Lib.hid (HPA.out.up hbA)
  have HRD : Hid (Reads WA WA.heap.size 1 (some ⟨w.heap.size + 1 + 1, 0, none⟩) 4 (i64s [s.st, s.sa, s.lo, s.hi])) := Lib.hid (by
    rw [← hWA]
    have h := reads_newS WX 3 #[.int .i64 s.st, .int .i64 s.sa, .int .i64 s.lo, .int .i64 s.hi] 1 4 WX.heap.size _ rfl rfl rfl
    rw [← hz]
    have e : WX.heap.size + 1 = (WX.alloc (.cells #[.int .i64 s.st, .int .i64 s.sa, .int .i64 s.lo, .int .i64 s.hi] 3)).heap.size := by simp
    rw [e] at h
    exact h)
  clear hWX hWA hz hbX hbA hb0 HPA HA HB HG c0 c1 c2' c3 c4 c5 c6
  refine (HCT.out _ _ HRD.out).mono ?_
  rintro e w1 ⟨rfl, hb1⟩
  have HG1 := Lib.hid (HGA.out.later hb1)
  have HB1 := Lib.hid (sub_trans HBA.out hb1)
  have HP1 := Lib.hid (HPB.out.up hb1)
  clear hb1 HGA HBA HPB HRD HCT
  have hk : ∀ W, Below w1.heap.size w1 W → W.cell? ⟨w.heap.size, 4, none⟩ = some (.slice A n c) ∧ W.cell? ⟨w.heap.size, 5, none⟩ = some (.int .i64 s.wk) ∧ W.cell? ⟨w.heap.size, 6, none⟩ = some (.slice A2 n2 c2) := fun W hW => by
    have g := HG1.out.later hW
    exact ⟨g.cell 4, g.cell 5, g.cell 6⟩
  have HK := Lib.hid hk
  have h00 : Hid (((⟨#[115, 116, 111, 114, 101, 32]⟩ : ByteArray) ++ cb ++ ⟨#[10]⟩).data.toList = atP C s.ps 0) := Lib.hid (by
    rw [atP_zero, HCE.out, app_list, app_list, HCB.out]
    simp [storeS])
  clear hk
  have hle1 : ¬ 9223372036854775807 < 6 + cb.size := by omega
  have hle2 : ¬ 9223372036854775807 < 6 + cb.size + 1 := by omega
  go_wp2
  go_loopw [4, 5] (fun o i wr => ∃ (k : Nat) (b : ByteArray), k ≤ n ∧ i = .int .i64 k ∧ o = .string b ∧ Hid (b.data.toList = atP C s.ps k) ∧ Below w1.heap.size w1 wr) (fun _ i _ => n - (intOf i).toNat)
  case atStart => exact ⟨0, _, by omega, rfl, rfl, h00, Below.refl _ _⟩
  case round =>
    obtain ⟨k, b, hk, rfl, rfl, HBL, hbr⟩ := hrel
    have hbs : b.size ≤ 8000000 := by have h1 := HRL.out k; rw [← HBL.out, size_list] at h1; exact h1
    obtain ⟨c4, c5, c6⟩ := HK.out _ hbr
    by_cases hlt : k < n
    · have hkl : k < s.ps.length := by have := HPL.out; omega
      have hle1 : ¬ 9223372036854775807 < b.size + 7 := by omega
      obtain ⟨ad, A', c', rfl, hadl, hc1, hpc, hcm, hrd⟩ := HP1.out.ps.at_ hkl
      have HAC : Hid (∀ W, Below w1.heap.size w1 W → W.cell? (ad.add k) = some (.slice A' s.ps[k].length c')) := Lib.hid (fun W hW => (hW.cell (p := ad.add k) (by rw [block_of_add]; exact hadl)).trans hc1)
      have hc := HAC.out _ hbr
      have HOP : Hid (∀ x ∈ s.ps[k], x.ok) := Lib.hid (fun x hx => (HOK.out.ps _ (List.getElem_mem hkl) x hx).1)
      have HCP := Lib.hid (fun j => HRC.out k hkl j)
      have HLP := Lib.hid (HLN.out _ (List.getElem_mem hkl))
      have HCA : Hid (atC C s.ps k s.ps[k] s.ps[k].length = atP C s.ps (k + 1)) := Lib.hid (atC_all C hkl)
      have HRD := Lib.hid hrd
      have h10 : Hid ((b ++ ⟨#[99, 108, 105, 101, 110, 116, 10]⟩).data.toList = atC C s.ps k s.ps[k] 0) := Lib.hid (by rw [atC_zero, app_list, HBL.out]; simp [clientS])
      unfold maxLen at hcm
      clear hrd hc1
      generalize s.ps[k] = p at *
      go_wp2
      clear hle1 hc
      go_loopw [4, 6] (fun o i wq => ∃ (j : Nat) (b : ByteArray), j ≤ p.length ∧ i = .int .i64 j ∧ o = .string b ∧ Hid (b.data.toList = atC C s.ps k p j) ∧ Below w1.heap.size w1 wq) (fun _ i _ => p.length - (intOf i).toNat)
      case atStart => exact ⟨0, _, by omega, rfl, rfl, h10, hbr⟩
      case round =>
        clear c4 c5 c6
        obtain ⟨j, b2, hj, rfl, rfl, HBL2, hbq⟩ := hrel
        have hbs2 : b2.size ≤ 8000000 := by have h1 := HCP.out j; rw [← HBL2.out, size_list] at h1; exact h1
        obtain ⟨c4, c5, c6⟩ := HK.out _ hbq
        have hcj := HAC.out _ hbq
        by_cases hjt : j < p.length
        · obtain ⟨bl, off, rfl, _, q0, q1, q2, q3, q4, q5, q6, q7, q8, q9, q10⟩ := cl_at (HRD.out.up hbq) hjt
          have hxo := HOP.out _ (List.getElem_mem hjt)
          have HXT := Lib.hid (fun W => rwith_any p[j] W hxo)
          have HCS := Lib.hid (atC_succ C s.ps k hjt)
          have HLX : Hid ((lineB p[j]).data.toList = lineN p[j]) := Lib.hid (lineB_eq _)
          have hlz : (lineB p[j]).size ≤ 1000000 := by have h1 := HLP.out _ (List.getElem_mem hjt); rw [← HLX.out, size_list] at h1; exact h1
          clear hxo
          generalize lineN p[j] = tn at *
          generalize lineB p[j] = tb at *
          generalize p[j] = x at *
          go_wp2_with fail
          refine (HXT.out _).mono ?_
          rintro y w5 ⟨rfl, hb5⟩
          have hbw5 : Below w1.heap.size w1 w5 := sub_trans (sub_alloc hbq (.cells x.arr 50)) hb5
          have HB5 := Lib.hid hbw5
          have hle1 : ¬ 9223372036854775807 < b2.size + tb.size := by omega
          have hle2 : ¬ 9223372036854775807 < b2.size + tb.size + 1 := by omega
          clear hbw5 hb5 q0 q1 q2 q3 q4 q5 q6 q7 q8 q9 q10 HXT c4 c5 c6 hcj
          go_wp2
          go_roundw
          case rel => exact ⟨j + 1, _, by omega, by go_num, rfl, Lib.hid (by rw [HCS.out, app_list, app_list, HBL2.out, HLX.out]), HB5.out⟩
          case measure => simp [intOf]; omega
        · have hF := HBL2.out
          rw [show j = p.length by omega, HCA.out] at hF
          have HF := Lib.hid hF
          have hnle := HNLE.out
          clear hF
          go_wp2
          go_roundw
          case rel => exact ⟨k + 1, b2, by omega, by go_num, rfl, HF, hbq⟩
          case measure => simp [intOf]; omega
    · have hke : k = n := by omega
      subst hke
      have hP : atP C s.ps k = atP C s.ps s.ps.length := by rw [← HPL.out]
      rw [hP] at HBL
      have hle1 : ¬ 9223372036854775807 < b.size + 8 := by omega
      have hdz := HDL.out.2
      have hle2 : ¬ 9223372036854775807 < b.size + 8 + (decB s.wk).size := by omega
      have hle3 : ¬ 9223372036854775807 < b.size + 8 + (decB s.wk).size + 1 := by omega
      have HWN : Hid (wkN s.wk = workersS ++ 32 :: Lib.itoa s.wk) := Lib.hid rfl
      clear hP
      generalize atP C s.ps s.ps.length = PA at *
      generalize decB s.wk = wb at *
      generalize wkN s.wk = wn at *
      go_wp2_with fail
      refine (HDK.out _).mono ?_
      rintro y w4 ⟨rfl, rfl⟩
      by_cases hp0 : n2 = 0
      · have hs0 : s.pk = [] := by have := HPL2.out; rw [hp0] at this; exact List.eq_nil_of_length_eq_zero this.symm
        have HQ : Hid (b ++ ⟨#[119, 111, 114, 107, 101, 114, 115, 32]⟩ ++ wb ++ ⟨#[10]⟩ = s.raw) := Lib.hid (bytes_ext (by
          have e : s.raw.data.toList = rawN s.lines := by simp [Sc.raw]
          rw [e, HFIN.out, if_pos hs0, HWN.out, app_list, app_list, app_list, HBL.out, HDL.out.1]
          simp [workersS]))
        subst hp0
        clear hs0
        go_wp2
        go_ret
        exact ⟨ret_s HQ.out, sub_trans HB1.out hbr⟩
      · have hs0 : s.pk ≠ [] := fun e => by have := HPL2.out; rw [e] at this; exact hp0 this
        have hp1 : 0 < n2 := by omega
        have hp2 : (0 : Int) < (n2 : Int) := by omega
        have hts : (Go.Fw.textB s.pk).size ≤ 90000 := by have h2 := HTX.out; rw [← textB_list, size_list] at h2; exact h2
        have HQ : Hid (b ++ ⟨#[119, 111, 114, 107, 101, 114, 115, 32]⟩ ++ wb ++ ⟨#[10]⟩ ++ ⟨#[112, 105, 99, 107, 115, 32]⟩ ++ Go.Fw.textB s.pk ++ ⟨#[10]⟩ = s.raw) := Lib.hid (bytes_ext (by
          have e : s.raw.data.toList = rawN s.lines := by simp [Sc.raw]
          have e2 : pkN s.pk = picksS ++ 32 :: textN s.pk := rfl
          rw [e, HFIN.out, if_neg hs0, HWN.out, e2, app_list, app_list, app_list, app_list, app_list, app_list, HBL.out, HDL.out.1, textB_list]
          simp [workersS, picksS]))
        clear hs0
        generalize Go.Fw.textB s.pk = tb at *
        have hle4 : ¬ 9223372036854775807 < b.size + 8 + wb.size + 1 + 6 := by omega
        have hle5 : ¬ 9223372036854775807 < b.size + 8 + wb.size + 1 + 6 + tb.size := by omega
        have hle6 : ¬ 9223372036854775807 < b.size + 8 + wb.size + 1 + 6 + tb.size + 1 := by omega
        go_wp2_with fail
        refine (HRT.out _ (sub_trans HB1.out hbr)).mono ?_
        rintro y w5 ⟨rfl, hb5⟩
        have hb6 := sub_trans hbr hb5
        clear hb5 c4 c5 c6
        go_wp2
        go_ret
        exact ⟨ret_s HQ.out, sub_trans HB1.out hb6⟩
end Go.Proofs.YteljecehppeamaaGreatDoor
/-
  Values of many cells, the cells whatever they are: loaded, stored, laid into new blocks; the leaves of a struct that came in. Condition: none.
-/
namespace Go.Fw
open Go.RowKit Go.WideShapes Go.ChangeShapes Go.Deep Go.Joins
set_option linter.unusedVariables false
set_option linter.unusedSimpArgs false
/-- a type of many cells -/
structure RowT (P : Program) (T : TypeId) (n : Nat) : Prop where
  agg : (match P.underlying T with | some (.struct _) | some (.array _ _) => true | _ => false) = true
  size : (P.info? T).map (·.size) = some n
  zero : (((P.info? T).bind (·.zero)).map fun z => z.cells.size) = some n
/-- the cells of a type's zero value -/
def zc (P : Program) (T : TypeId) : Array Value := (((P.info? T).bind (·.zero)).map Value.cells).getD #[]
section
variable {P : Program} {T : TypeId} {n : Nat}
theorem RowT.zc_size (h : RowT P T n) : (zc P T).size = n := by
  have := h.zero
  unfold zc
  cases hq : (P.info? T).bind (·.zero) with
  | none => simp [hq] at this
  | some z => simp [hq] at this ⊢; exact this
theorem run_loadVar_at (hT : RowT P T n) (w : World) (ad : Addr) (cs : Array Value) (hn : cs.size = n) (hc : ∀ j v, cs.toList[j]? = some v → w.cell? (ad.add j) = some v) :
    (loadVar T ad).run P w = .ok (.agg cs) w := by
  have hl : (loadCells ad cs.toList.length).run P w = .ok cs.toList.toArray w := run_loadCells_list (P := P) w ad cs.toList hc
  have hi := hT.size
  have ha := hT.agg
  cases hu : P.underlying T with
  | none => simp [hu] at ha
  | some d =>
    cases hq : P.info? T with
    | none => simp [hq] at hi
    | some i =>
      have hs : i.size = cs.size := by rw [hn]; simpa [hq] using hi
      have hagg : (isAgg T).run P w = .ok true w := by
        unfold isAgg
        rw [Sem.run_bind, run_underlying hu w]
        cases d <;> simp_all
      simp only [Array.length_toList, Array.toArray_toList] at hl
      simp [loadVar, Sem.run_bind, hagg, sizeOf, typeInfo, hq, hs, hl]
theorem wp_load_at {o : Oper} {a : Act} {w : World} {K : Act → World → Prop} {Q : Exit → Act → World → Prop} (hT : RowT P T n) (x : Operand) (ho : o.op = .load T x)
    (ad : Addr) (hx : a.eval x = .pointer (some ad)) (cs : Array Value) (hn : cs.size = n) (hc : ∀ j v, cs.toList[j]? = some v → w.cell? (ad.add j) = some v) (h : K (a.put o.dst (.agg cs)) w) : o.wp P a w K Q := by
  unfold Oper.wp execOp
  simp only [ho, hx, Instr.loadAt, Instr.sureAddr, Sem.run_bind, Sem.run_pure, Result.andThen_ok, run_loadVar_at hT w ad cs hn hc]
  exact h
theorem wpList_load_at {ops : Array Oper} {rest : List Oper} {o : Oper} {a : Act} {w : World} {Q : Exit → Act → World → Prop} (hT : RowT P T n) (hgd : o.guard = none) (x : Operand) (ho : o.op = .load T x)
    (ad : Addr) (hx : a.eval x = .pointer (some ad)) (cs : Array Value) (hn : cs.size = n) (hc : ∀ j v, cs.toList[j]? = some v → w.cell? (ad.add j) = some v) (h : wpList P ops Q rest (a.put o.dst (.agg cs)) w) : wpList P ops Q (o :: rest) a w :=
  wpList_plain hgd fun _ hK => wp_load_at hT x ho ad hx cs hn hc (hK _ _ h)
/-- .. under a guard that lets it be -/
theorem wpList_load_if {ops : Array Oper} {rest : List Oper} {o : Oper} {a : Act} {w : World} {Q : Exit → Act → World → Prop} (hT : RowT P T n) (hgd : Region.wanted o (yielded ops a.tmps) = true) (x : Operand) (ho : o.op = .load T x)
    (ad : Addr) (hx : a.eval x = .pointer (some ad)) (cs : Array Value) (hn : cs.size = n) (hc : ∀ j v, cs.toList[j]? = some v → w.cell? (ad.add j) = some v) (h : wpList P ops Q rest (a.put o.dst (.agg cs)) w) : wpList P ops Q (o :: rest) a w :=
  wpList_step fun K hK => by
    simp only [hgd, if_true]
    exact wp_load_at hT x ho ad hx cs hn hc (hK _ _ h)
/-- a copy of what guards it, and then the load -/
theorem wpList_move_load {ops : Array Oper} {rest : List Oper} {o1 o : Oper} {a : Act} {w : World} {Q : Exit → Act → World → Prop} (hT : RowT P T n) (hg1 : o1.guard = none) (x1 : Operand) (ho1 : o1.op = .move x1) (v1 : Value) (hv1 : a.eval x1 = v1)
    (hgd : Region.wanted o (yielded ops (a.put o1.dst v1).tmps) = true) (x : Operand) (ho : o.op = .load T x)
    (ad : Addr) (hx : (a.put o1.dst v1).eval x = .pointer (some ad)) (cs : Array Value) (hn : cs.size = n) (hc : ∀ j v, cs.toList[j]? = some v → w.cell? (ad.add j) = some v) (h : wpList P ops Q rest ((a.put o1.dst v1).put o.dst (.agg cs)) w) : wpList P ops Q (o1 :: o :: rest) a w :=
  wpList_plain hg1 fun K hK => by
    unfold Oper.wp execOp
    simp only [ho1, Sem.run_pure, hv1]
    exact hK _ _ (wpList_load_if hT hgd x ho ad hx cs hn hc h)
theorem exec_load_at {o : Oper} {ρ : Operand → Value} {w : World} (hT : RowT P T n) (x : Operand) (ho : o.op = .load T x) (ad : Addr) (hx : ρ x = .pointer (some ad)) (cs : Array Value) (hn : cs.size = n) (hc : ∀ j v, cs.toList[j]? = some v → w.cell? (ad.add j) = some v) :
    (execOp ρ o).run P w = .ok (.value (.agg cs)) w := by
  unfold execOp
  simp only [ho, hx, Instr.loadAt, Instr.sureAddr, Sem.run_bind, Sem.run_pure, Result.andThen_ok, run_loadVar_at hT w ad cs hn hc]
theorem exec_bin_agg {o : Oper} {ρ : Operand → Value} {w : World} (op : BinOp) (t t2 : TypeId) (x y : Operand) (ho : o.op = .binOp op t x y t2) (xs ys : Array Value) (hx : ρ x = .agg xs) (hy : ρ y = .agg ys) (hm : P.eqGuardType P.depth t = false) (v : Value) (hb : (binOp op t (.agg xs) (.agg ys)).run P w = .ok v w) :
    (execOp ρ o).run P w = .ok (.value v) w := by
  unfold execOp
  simp only [ho, hx, hy, Sem.run_bind, run_eqGuard_agg w op t x y xs ys hm, Result.andThen_ok, hb, Sem.run_pure]
/-- two values of one type of numbers, strings, and structs of such, are alike if their cells are -/
theorem neq_self {m D : Nat} (hm : m ≤ 10000) {t : TypeId} (hk : P.keyTypeAt m t = true) (hs : (match P.underlying t with | some (.struct _) => true | _ => false) = true) (cs : Array Value) (hC : cs.size = P.cellsOf t) {ls : List Lit} (hl : P.keyLits D t cs.toList = some ls) (w : World) :
    (binOp .neq t (.agg cs) (.agg cs)).run P w = .ok (.bool false) w := by
  have hf : (Value.agg cs).formed P t = true := by
    unfold Value.formed
    cases hu : P.underlying t with
    | none => simp [hu] at hs
    | some d => cases d <;> simp [hu] at hs ⊢; exact hC
  obtain ⟨r, hr, hiff⟩ := run_equalIn_deep (10000 - m) m t hk w D D (.agg cs) (.agg cs) ls ls hf hf hl hl
  have e : r = true := hiff.2 rfl
  subst e
  rw [run_neq_struct]
  rw [show 10000 - m + m = 10000 by omega] at hr
  rw [hr]
  rfl
theorem wp_alloc_row {o : Oper} {a : Act} {w : World} {K : Act → World → Prop} {Q : Exit → Act → World → Prop} (hT : RowT P T n) (ho : o.op = .alloc T)
    (h : K (a.put o.dst (.pointer (some ⟨w.heap.size, 0, none⟩))) (w.alloc (.cells (zc P T) T))) : o.wp P a w K Q := by
  have hz := hT.zero
  cases hi : P.info? T with
  | none => simp [hi] at hz
  | some i =>
    cases hzz : i.zero with
    | none => simp [hi, hzz] at hz
    | some z =>
      have e : zc P T = z.cells := by simp [zc, hi, hzz]
      rw [e] at h
      unfold Oper.wp execOp
      simp only [ho]
      simp [Instr.alloc, zeroValue, typeInfo, hi, hzz, newVar, newRow]
      exact h
theorem wpList_alloc_row {ops : Array Oper} {rest : List Oper} {o : Oper} {a : Act} {w : World} {Q : Exit → Act → World → Prop} (hT : RowT P T n) (hgd : o.guard = none) (ho : o.op = .alloc T)
    (h : wpList P ops Q rest (a.put o.dst (.pointer (some ⟨w.heap.size, 0, none⟩))) (w.alloc (.cells (zc P T) T))) : wpList P ops Q (o :: rest) a w :=
  wpList_plain hgd fun _ hK => wp_alloc_row hT ho (hK _ _ h)
/-- into a block of just so many cells that the call has just laid -/
theorem wpList_store_new {ops : Array Oper} {rest : List Oper} {o : Oper} {a : Act} {w : World} {Q : Exit → Act → World → Prop} (hT : RowT P T n) (hgd : o.guard = none) (x y : Operand) (ho : o.op = .store T x y)
    (g : Nat) (hg : g = w.heap.size) (hx : a.eval x = .pointer (some ⟨g, 0, none⟩)) (cs old : Array Value) (hy : a.eval y = .agg cs) (t : TypeId) (hn : cs.size = n) (hold : old.size = n) (h1 : cs.all (·.oneCell') = true)
    (h : wpList P ops Q rest (a.put o.dst undef) (w.alloc (.cells cs t))) : wpList P ops Q (o :: rest) a (w.alloc (.cells old t)) := by
  subst hg
  refine wpList_store_row hgd T x y ho w.heap.size cs hx hy t old (heap_alloc_last w _) (by rw [hT.size, hn]) (by omega) h1 ?_
  rw [World.setRow_alloc_new]
  exact h
end
section
variable {P : Program} {T : TypeId} {n : Nat}
/-- a slice literal of one element -/
theorem run_slice1 (hT : RowT P T n) (hn0 : 0 < n) (hn1 : n ≤ 16777216) (w : World) (t : TypeId) (hu : P.underlying t = some (.slice T)) (cs : Array Value) (hn : cs.size = n) :
    (Instr.buildSlice t 1 #[(0, .agg cs)]).run P w = .ok (.slice (some ⟨w.heap.size, 0, none⟩) 1 1) (w.alloc (.cells cs T)) := by
  have hz := hT.zero
  have hsz := hT.size
  cases hi : P.info? T with
  | none => simp [hi] at hz
  | some i =>
    cases hzz : i.zero with
    | none => simp [hi, hzz] at hz
    | some z =>
      have hsi : i.size = n := by simpa [hi] using hsz
      have hf := Great.fill_whole (s := n) hn0 [.agg cs] ((Array.range (1 * i.size)).map (z.cells[· % z.cells.size]!)) (by simp [Value.cells, hn]) (by simp [hsi])
      refine run_buildSlice w t T 1 _ cs i z hu hi hzz (by rw [hsi]; omega) (by rw [hsi]; omega) ?_
      rw [hsi] at hf ⊢
      simpa [Value.cells] using hf
theorem wp_slice1 {o : Oper} {a : Act} {w : World} {K : Act → World → Prop} {Q : Exit → Act → World → Prop} (hT : RowT P T n) (hn0 : 0 < n) (hn1 : n ≤ 16777216) (t : TypeId) (x : Operand) (ho : o.op = .buildSlice t 1 #[(0, x)]) (hu : P.underlying t = some (.slice T))
    (cs : Array Value) (hx : a.eval x = .agg cs) (hn : cs.size = n) (h : K (a.put o.dst (.slice (some ⟨w.heap.size, 0, none⟩) 1 1)) (w.alloc (.cells cs T))) : o.wp P a w K Q := by
  unfold Oper.wp execOp
  have hr := run_slice1 hT hn0 hn1 w t hu cs hn
  simp only [ho, List.map_toArray, List.map_cons, List.map_nil, hx, Sem.run_bind, hr, Result.andThen_ok]
  exact h
theorem wpList_slice1 {ops : Array Oper} {rest : List Oper} {o : Oper} {a : Act} {w : World} {Q : Exit → Act → World → Prop} (hT : RowT P T n) (hn0 : 0 < n) (hn1 : n ≤ 16777216) (hgd : o.guard = none) (t : TypeId) (x : Operand) (ho : o.op = .buildSlice t 1 #[(0, x)]) (hu : P.underlying t = some (.slice T))
    (cs : Array Value) (hx : a.eval x = .agg cs) (hn : cs.size = n) (h : wpList P ops Q rest (a.put o.dst (.slice (some ⟨w.heap.size, 0, none⟩) 1 1)) (w.alloc (.cells cs T))) : wpList P ops Q (o :: rest) a w :=
  wpList_plain hgd fun _ hK => wp_slice1 hT hn0 hn1 t x ho hu cs hx hn (hK _ _ h)
/-- the cells of a block that has just been laid -/
theorem new_cells (w : World) (t : TypeId) (cs : Array Value) : ∀ j v, cs.toList[j]? = some v → (w.alloc (.cells cs t)).cell? ((⟨w.heap.size, 0, none⟩ : Addr).add j) = some v := by
  intro j u hu
  rw [show (⟨w.heap.size, 0, none⟩ : Addr).add j = ⟨w.heap.size, j, none⟩ by unfold Addr.add; split <;> simp_all]
  rw [World.cell?_alloc_mark]
  simpa using hu
theorem blk_cells {w : World} {g : Nat} {t : TypeId} {cs : Array Value} (h : Blk w g t cs) : ∀ j v, cs.toList[j]? = some v → w.cell? ((⟨g, 0, none⟩ : Addr).add j) = some v := by
  intro j u hu
  rw [show (⟨g, 0, none⟩ : Addr).add j = ⟨g, j, none⟩ by unfold Addr.add; split <;> simp_all]
  rw [h.cell]
  simpa using hu
theorem at_cells {w : World} {b o : Nat} {cs : Array Value} (h : ∀ j u, cs.toList[j]? = some u → w.cell? ⟨b, o + j, none⟩ = some u) : ∀ j v, cs.toList[j]? = some v → w.cell? ((⟨b, o, none⟩ : Addr).add j) = some v := by
  intro j u hu
  rw [show (⟨b, o, none⟩ : Addr).add j = ⟨b, o + j, none⟩ by unfold Addr.add; split <;> simp_all]
  exact h j u hu
end
/-! the leaves of a struct -/
def leafT (P : Program) : Nat → TypeId → Nat → Option TypeId
  | 0, _, _ => none
  | m + 1, t, i => match P.underlying t with
    | some .bool | some (.int _) | some .string => if i = 0 then some t else none
    | some (.struct fs) => (fs.toList.find? fun f => decide (f.offset ≤ i) && decide (i < f.offset + P.cellsOf f.type)).bind fun f => leafT P m f.type (i - f.offset)
    | _ => none
section
variable {H : Type} {enc : TypeId × Value → H} {P : Program} {W : World} {base : Nat} {sp : Nat → Bool} {held : Bool}
theorem leaf_of : ∀ (m : Nat) (t : TypeId) (i : Nat) (e : TypeId), leafT P m t i = some e → ∀ (n : Nat) (cs : List Value) (x : DataW H × List MemPlace), DataW.trod enc P W base sp held n t cs = some x →
    ∃ (u : Value) (n' : Nat) (y : DataW H × List MemPlace), cs[i]? = some u ∧ DataW.trod enc P W base sp held n' e [u] = some y
  | 0, _, _, _, h => by simp [leafT] at h
  | m + 1, t, i, e, h => by
    intro n cs x hx
    unfold leafT at h
    cases hu : P.underlying t with
    | none => simp [hu] at h
    | some kd =>
      cases kd
      case bool =>
        simp only [hu] at h
        split at h
        · rename_i h0
          cases h
          obtain ⟨b, rfl, _⟩ := DataW.trod_bool hu hx
          exact ⟨_, n, x, by simp [h0], hx⟩
        · cases h
      case int q =>
        simp only [hu] at h
        split at h
        · rename_i h0
          cases h
          obtain ⟨b, rfl, _⟩ := DataW.trod_int hu hx
          exact ⟨_, n, x, by simp [h0], hx⟩
        · cases h
      case string =>
        simp only [hu] at h
        split at h
        · rename_i h0
          cases h
          obtain ⟨b, rfl, _⟩ := DataW.trod_string hu hx
          exact ⟨_, n, x, by simp [h0], hx⟩
        · cases h
      case struct fs =>
        simp only [hu, Option.bind_eq_some_iff] at h
        obtain ⟨f, hf, hl⟩ := h
        have hin := List.find?_some hf
        have hmem := List.mem_of_find?_eq_some hf
        simp only [Bool.and_eq_true, decide_eq_true_eq] at hin
        obtain ⟨ys, n', _, _, hlen, hyl, hat⟩ := DataW.trod_struct hu hx
        obtain ⟨j, hj, hfj⟩ := List.getElem_of_mem hmem
        have hj2 : j < fs.size := by simpa using hj
        have hfj2 : fs[j]? = some f := by rw [Array.getElem?_eq_getElem hj2]; simpa using hfj
        have h1 := hat j f hfj2
        rw [List.getElem?_eq_getElem (by omega)] at h1
        obtain ⟨u, n2, y, hu2, hy⟩ := leaf_of m f.type (i - f.offset) e hl n' _ _ h1
        refine ⟨u, n2, y, ?_, hy⟩
        rw [List.getElem?_take_of_lt (by omega), List.getElem?_drop] at hu2
        rwa [show f.offset + (i - f.offset) = i by omega] at hu2
      all_goals (simp [hu] at h)
/-- a leaf that is a number -/
theorem leaf_int {m : Nat} {t : TypeId} {i : Nat} {e : TypeId} {k : IntKind} (hl : leafT P m t i = some e) (he : P.underlying e = some (.int k)) {n : Nat} {cs : List Value} {x : DataW H × List MemPlace} (hx : DataW.trod enc P W base sp held n t cs = some x) :
    ∃ z : Int, cs[i]? = some (.int k z) ∧ (Lit.int k z).wf = true := by
  obtain ⟨u, n', y, hu, hy⟩ := leaf_of m t i e hl n cs x hx
  obtain ⟨z, hz, _, hw⟩ := DataW.trod_int he hy
  simp at hz
  subst hz
  exact ⟨z, hu, hw⟩
/-- all cells are leaves -/
def allLeaves (P : Program) (m : Nat) (t : TypeId) (n : Nat) : Bool := (List.range n).all fun i => match leafT P m t i with | some e => P.plainKey e | none => false
theorem one_of_leaf {e : TypeId} {u : Value} {n' : Nat} {y : DataW H × List MemPlace} (hp : P.plainKey e = true) (hy : DataW.trod enc P W base sp held n' e [u] = some y) : u.oneCell' = true := by
  unfold Program.plainKey at hp
  cases hu : P.underlying e with
  | none => simp [hu] at hp
  | some kd =>
    cases kd
    case bool => obtain ⟨b, hb, _⟩ := DataW.trod_bool hu hy; simp at hb; subst hb; rfl
    case int q => obtain ⟨b, hb, _⟩ := DataW.trod_int hu hy; simp at hb; subst hb; rfl
    case string => obtain ⟨b, hb, _⟩ := DataW.trod_string hu hy; simp at hb; subst hb; rfl
    all_goals (simp [hu] at hp)
theorem ones_of {m : Nat} {t : TypeId} {N : Nat} (ha : allLeaves P m t N = true) {n : Nat} {cs : List Value} {x : DataW H × List MemPlace} (hN : cs.length = N) (hx : DataW.trod enc P W base sp held n t cs = some x) : ∀ u ∈ cs, u.oneCell' = true := by
  intro u hu
  obtain ⟨i, hi, rfl⟩ := List.getElem_of_mem hu
  unfold allLeaves at ha
  rw [List.all_eq_true] at ha
  have h1 := ha i (by simp; omega)
  cases hl : leafT P m t i with
  | none => simp [hl] at h1
  | some e =>
    simp only [hl] at h1
    obtain ⟨u, n', y, hu2, hy⟩ := leaf_of m t i e hl n cs x hx
    rw [List.getElem?_eq_getElem hi] at hu2
    injection hu2 with hu2
    rw [hu2]
    exact one_of_leaf h1 hy
end
end Go.Fw
/-
  A call is no other than itself; a config neither. Condition: none.
-/
namespace Go.Proofs.YteljecehppeamaaGreatDoor
open Go.RowKit Go.Fw
set_option maxHeartbeats 1000000
set_option maxRecDepth 100000
set_option linter.unusedVariables false
set_option linter.unusedSimpArgs false
theorem wf_i64 {n : Int} (h : In64 n) : (Lit.int .i64 n).wf = true := by
  unfold In64 at h
  simp [Lit.wf, IntKind.min, IntKind.max, IntKind.signed, IntKind.bits]
  omega
theorem kl_int {P : Program} {t : TypeId} {n : Int} (d : Nat) (hu : P.underlying t = some (.int .i64)) (h : In64 n) : P.keyLits (d + 1) t [.int .i64 n] = some [.int .i64 n] := by
  simp [Program.keyLits, hu, wf_i64 h]
theorem kl_str {P : Program} {t : TypeId} {s : ByteArray} (d : Nat) (hu : P.underlying t = some .string) (h : s.size ≤ maxLen) : P.keyLits (d + 1) t [.string s] = some [.string s.data.toList] := by
  simp only [Program.keyLits, hu]
  rw [if_pos h]
theorem kl_struct {P : Program} {t : TypeId} {fs : Array Field} {cs : List Value} {ls : List (List Lit)} (d : Nat) (hu : P.underlying t = some (.struct fs)) (hl : cs.length = P.cellsOf t) (hn : fs.all (·.name != "_") = true) (hm : (fs.toList.mapM fun f => P.keyLits d f.type ((cs.drop f.offset).take (P.cellsOf f.type))) = some ls) : P.keyLits (d + 1) t cs = some ls.flatten := by
  simp only [Program.keyLits, hu]
  rw [if_pos ⟨hl, hn⟩, hm]
  rfl
theorem cl_lits (x : Cl) (hx : x.ok) : ∃ ls, Tryz.prog.keyLits 8 50 x.arr.toList = some ls := by
  have c1 : Tryz.prog.cellsOf 3 = 1 := by kernel_rfl
  have c2 : Tryz.prog.cellsOf 2 = 1 := by kernel_rfl
  have c3 : Tryz.prog.cellsOf 9 = 1 := by kernel_rfl
  have c4 : Tryz.prog.cellsOf 48 = 6 := by kernel_rfl
  have k1 := kl_int (t := 3) 6 Tryz.underlying3 hx.k
  have k2 := kl_int (t := 2) 6 Tryz.underlying2 hx.tick
  have k3 := kl_int (t := 2) 6 Tryz.underlying2 hx.value
  have k4 := kl_int (t := 3) 6 Tryz.underlying3 hx.handle
  have k5 := kl_str (t := 9) 6 Tryz.underlying9 hx.idm
  have p1 := kl_int (t := 2) 5 Tryz.underlying2 hx.pol.1
  have p2 := kl_int (t := 2) 5 Tryz.underlying2 hx.pol.2.1
  have p3 := kl_int (t := 2) 5 Tryz.underlying2 hx.pol.2.2.1
  have p4 := kl_int (t := 2) 5 Tryz.underlying2 hx.pol.2.2.2.1
  have p5 := kl_int (t := 2) 5 Tryz.underlying2 hx.pol.2.2.2.2.1
  have p6 := kl_int (t := 2) 5 Tryz.underlying2 hx.pol.2.2.2.2.2
  have pp := kl_struct (P := Tryz.prog) (t := 48) (cs := [.int .i64 x.a, .int .i64 x.b, .int .i64 x.c, .int .i64 x.d, .int .i64 x.e, .int .i64 x.f]) (ls := [[.int .i64 x.a], [.int .i64 x.b], [.int .i64 x.c], [.int .i64 x.d], [.int .i64 x.e], [.int .i64 x.f]]) 6 Tryz.underlying48 (by rw [c4]; rfl) (by kernel_rfl)
    (by simp only [List.mapM_cons, List.mapM_nil, c2, List.drop_succ_cons, List.drop_zero, List.take_succ_cons, List.take_zero, p1, p2, p3, p4, p5, p6]; rfl)
  refine ⟨_, kl_struct (P := Tryz.prog) (t := 50) (ls := [[.int .i64 x.k], [.string x.id.data.toList], [.int .i64 x.tick], [.int .i64 x.value], [.int .i64 x.handle], [[.int .i64 x.a], [.int .i64 x.b], [.int .i64 x.c], [.int .i64 x.d], [.int .i64 x.e], [.int .i64 x.f]].flatten]) 7 Tryz.underlying50 (show 11 = _ by kernel_rfl) (by kernel_rfl) ?_⟩
  simp only [Cl.arr, List.mapM_cons, List.mapM_nil, c1, c2, c3, c4, List.drop_succ_cons, List.drop_zero, List.take_succ_cons, List.take_zero, k1, k2, k3, k4, k5, pp]
  rfl
theorem cl_neq (x : Cl) (hx : x.ok) (w : World) : (binOp .neq 50 (.agg #[.int .i64 x.k, .string x.id, .int .i64 x.tick, .int .i64 x.value, .int .i64 x.handle, .int .i64 x.a, .int .i64 x.b, .int .i64 x.c, .int .i64 x.d, .int .i64 x.e, .int .i64 x.f]) (.agg #[.int .i64 x.k, .string x.id, .int .i64 x.tick, .int .i64 x.value, .int .i64 x.handle, .int .i64 x.a, .int .i64 x.b, .int .i64 x.c, .int .i64 x.d, .int .i64 x.e, .int .i64 x.f])).run Tryz.prog w = .ok (.bool false) w :=
  neq_self (m := 5) (by decide) (by kernel_rfl) (by kernel_rfl) x.arr (show 11 = _ by kernel_rfl) (cl_lits x hx).choose_spec w
theorem cfg_neq (a b c d : Int) (w : World) : (binOp .neq 23 (.agg #[.int .i64 a, .int .i64 b, .int .i64 c, .int .i64 d]) (.agg #[.int .i64 a, .int .i64 b, .int .i64 c, .int .i64 d])).run Tryz.prog w = .ok (.bool false) w := by
  have hp : Tryz.prog.stoodInHeld 23 = false := by kernel_rfl
  rw [run_neq_struct, run_equalIn_agg w 9999 23 _ _ (by simp only [Program.fieldsOf, Tryz.underlying23]) hp]
  simp only [Program.fieldsOf, Tryz.underlying23]
  simp [Op.eqFields, go_sem, Tryz.underlying3]
end Go.Proofs.YteljecehppeamaaGreatDoor
