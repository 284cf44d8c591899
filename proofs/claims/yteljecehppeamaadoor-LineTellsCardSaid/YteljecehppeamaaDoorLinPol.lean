/-
  The reader of a policy's numbers, walked (chapter 41). Conditions: strconv's table and errors lie in memory.
-/
import Derived.Test.YteljecehppeamaaDoorLinRead
namespace Go.Proofs.YteljecehppeamaaDoor
open Go.RowKit Go.Fw Go.Shelf
set_option maxHeartbeats 2000000
set_option maxRecDepth 4000
set_option linter.unusedVariables false
set_option linter.unusedSimpArgs false
/-- whether the first i numbers behind names are numbers -/
def okUp (all : List ByteArray) (k : Nat) : Nat → Bool
  | 0 => true
  | i + 1 => okUp all k i && (numAt all (k + 2 * i + 1)).isSome
theorem okUp_at {all : List ByteArray} {k : Nat} : ∀ {i : Nat}, okUp all k i = true → ∀ j, j < i → (numAt all (k + 2 * j + 1)).isSome = true
  | 0, _, j, hj => by omega
  | i + 1, h, j, hj => by
    simp only [okUp, Bool.and_eq_true] at h
    by_cases e : j = i
    · subst e
      exact h.2
    · exact okUp_at h.1 j (by omega)
theorem policy_any (w0 w : World) (rb g k : Nat) (all : List ByteArray) (bad : Bool) (hlen : all.length ≤ 1000000) (hsz : ∀ x ∈ all, x.size ≤ 1000000) (hR : Ready w0) (hb0 : Below w0.heap.size w0 w) (hrb : w0.heap.size ≤ rb) (h : RdAt w rb g all (min k all.length) bad) :
    Calls Tryd.prog 38 #[.pointer (some ⟨rb, 0, none⟩)] w fun x w' => ∃ a b c d e f, x = .returned (.agg #[.int .i64 a, .int .i64 b, .int .i64 c, .int .i64 d, .int .i64 e, .int .i64 f]) ∧ In6 a b c d e f ∧
      (∀ j v, j < 6 → numAt all (k + 2 * j + 1) = some v → [a, b, c, d, e, f].getD j 0 = v) ∧ RdAt w' rb g all (min (k + 12) all.length) (bad || !(okUp all k 6)) ∧ Keep (fun j => j = rb) w w' := by
  have HW := Lib.hid (fun W k bd hr => word_any W rb g k all bd hlen hr)
  have HNM := Lib.hid (fun W k bd hb hr => num_any w0 W rb g k all bd hlen hsz hR hb hrb hr)
  have HB0 := Lib.hid hb0
  have HLT := Lib.hid h.lt
  have HA := Lib.hid h
  clear hR hb0 h hsz
  go_enter Tryd.func38, Tryd.ntmps38
  go_wp2
  obtain ⟨WA, hWA⟩ : ∃ WA, (w.alloc (.cells #[.int .i64 0, .int .i64 0, .int .i64 0, .int .i64 0, .int .i64 0, .int .i64 0] 23)).alloc (.cells #[.int .i64 0, .int .i64 0, .int .i64 0, .int .i64 0, .int .i64 0, .int .i64 0] 52) = WA := ⟨_, rfl⟩
  have hbA : Below w.heap.size w WA := by rw [← hWA]; exact sub_alloc (sub_alloc (Below.refl _ w) _) _
  have g2 : Blk WA w.heap.size 23 #[.int .i64 0, .int .i64 0, .int .i64 0, .int .i64 0, .int .i64 0, .int .i64 0] := by rw [← hWA]; exact (Blk.new_at _ _ _ rfl).alloc _
  have g3 : Blk WA (w.heap.size + 1) 52 (iarr [0, 0, 0, 0, 0, 0]) := by rw [← hWA]; exact Blk.new_at _ _ _ (by simp)
  rw [hWA]
  clear hWA
  have HG := Lib.hid (And.intro hbA (And.intro g2 g3))
  clear hbA g2 g3
  go_loopw [5] (fun i wr => ∃ (j : Nat) (vs : List Int), j ≤ 6 ∧ i = .int .i64 j ∧ vs.length = 6 ∧ Hid ((∀ x ∈ vs, In64 x) ∧ (∀ q v, q < j → numAt all (k + 2 * q + 1) = some v → vs.getD q 0 = v)) ∧ RdAt wr rb g all (min (k + 2 * j) all.length) (bad || !(okUp all k j)) ∧ Blk wr w.heap.size 23 #[.int .i64 0, .int .i64 0, .int .i64 0, .int .i64 0, .int .i64 0, .int .i64 0] ∧ Blk wr (w.heap.size + 1) 52 (iarr vs) ∧ Keep (fun j => j = rb) w wr)
    (fun i _ => 6 - (intOf i).toNat)
  case atStart => exact ⟨0, [0, 0, 0, 0, 0, 0], by omega, rfl, rfl, Lib.hid ⟨fun x hx => by simp at hx; subst hx; exact zero_in, fun q v hq => by omega⟩, by simpa [okUp] using HA.out.up HG.out.1, HG.out.2.1, HG.out.2.2, Keep.of_below HG.out.1⟩
  case round =>
    obtain ⟨j, vs, hj, rfl, hvl, HV, hr, q2, q3, hK0⟩ := hrel
    have HQ := Lib.hid (And.intro hr (And.intro q2 (And.intro q3 hK0)))
    have HVL := Lib.hid hvl
    clear hr q2 q3 hK0 hvl
    by_cases hlt : j < 6
    · have hjI : (j : Int) < 6 := by omega
      have HW1 := Lib.hid (HW.out wr _ _ HQ.out.1)
      go_wp2_with fail
      refine HW1.out.mono ?_
      rintro y w1 ⟨rfl, hr1, hk1⟩
      have hK1 := HQ.out.2.2.2.trans hk1
      have hb1 : Below w0.heap.size w0 w1 := HB0.out.trans (hK1.below HB0.out.size (fun j e => by rw [e]; exact hrb))
      have HR1 := Lib.hid (And.intro hr1 (And.intro hk1 (And.intro hb1 hK1)))
      clear hr1 hk1 hb1 hK1
      have HW2 := Lib.hid (HNM.out w1 (k + 2 * j + 1) _ HR1.out.2.2.1 HR1.out.1)
      go_wp2_with fail
      refine HW2.out.mono ?_
      rintro y w2 ⟨n, rfl, hn, hnv, hr2, hk2⟩
      have hne1 : ¬ w.heap.size = rb := by have := HLT.out; omega
      have hne2 : ¬ w.heap.size + 1 = rb := by have := HLT.out; omega
      have hgl : g < w.heap.size := HA.out.row.lt
      have p2 := hk2.blk (HR1.out.2.1.blk HQ.out.2.1 hne1) hne1
      have p3 := hk2.blk (HR1.out.2.1.blk HQ.out.2.2.1 hne2) hne2
      have hjl : j < vs.length := by have := HVL.out; omega
      have hc := (p3.cell j).trans (iarr_get hjl)
      have hf := p3.frozen j
      have p3' := p3.set_ j (.int .i64 n)
      rw [iarr_set] at p3'
      have hks : Keep (fun b => b = w.heap.size + 1) w2 (w2.setCell ⟨w.heap.size + 1, j, none⟩ (.int .i64 n)) := (Keep.refl (fun b => b = w.heap.size + 1) w2).setCell (p := ⟨w.heap.size + 1, j, none⟩) (.inl rfl) _
      have hbad : ((bad || !okUp all k j) || decide (all.length ≤ k + 2 * j) || !(numAt all (k + 2 * j + 1)).isSome) = (bad || !okUp all k (j + 1)) := by
        simp only [okUp]
        by_cases hle : all.length ≤ k + 2 * j
        · rw [numAt_out (show all.length ≤ k + 2 * j + 1 by omega)]
          simp
        · rw [show decide (all.length ≤ k + 2 * j) = false by simpa using hle]
          cases bad <;> cases okUp all k j <;> simp
      rw [hbad] at hr2
      have hr3 : RdAt (w2.setCell ⟨w.heap.size + 1, j, none⟩ (.int .i64 n)) rb g all (min (k + 2 * (j + 1)) all.length) (bad || !okUp all k (j + 1)) := by
        have := hr2.keep hks (fun e => hne2 e.symm) (by omega)
        rw [show k + 2 * (j + 1) = k + 2 * j + 1 + 1 by omega]
        exact this
      have HF := Lib.hid (And.intro hr3 (And.intro (p2.far (p := ⟨w.heap.size + 1, j, none⟩) (by simp) (.int .i64 n)) (And.intro p3' ((HR1.out.2.2.2.trans hk2).setCell (p := ⟨w.heap.size + 1, j, none⟩) (.inr (by simp)) (.int .i64 n)))))
      have HNV := Lib.hid (And.intro hn hnv)
      clear hr2 hk2 p2 p3 p3' hks hbad hr3 hn hnv hne1 hne2 hgl
      generalize vs[j] = vj at *
      go_wp2
      go_roundw
      case rel =>
        refine ⟨j + 1, vs.set j n, by omega, by go_num, by rw [List.length_set]; exact HVL.out, Lib.hid ⟨fun x hx => ?_, fun q v hq hv => ?_⟩, HF.out.1, HF.out.2.1, HF.out.2.2.1, HF.out.2.2.2⟩
        · rcases List.mem_or_eq_of_mem_set hx with h | h
          · exact HV.out.1 x h
          · rw [h]
            exact HNV.out.1
        · by_cases hqj : q = j
          · subst hqj
            have := HNV.out.2 v hv
            simp [List.getD_eq_getElem?_getD, hjl, this]
          · have h2 := HV.out.2 q v (by omega) hv
            simp only [List.getD_eq_getElem?_getD] at h2 ⊢
            rw [List.getElem?_set_ne (by omega)]
            exact h2
      case measure => simp [intOf]; omega
    · obtain rfl : j = 6 := by omega
      obtain ⟨a, b, c, d, e, f, rfl⟩ : ∃ a b c d e f, vs = [a, b, c, d, e, f] := by
        have := HVL.out
        match vs, this with
        | [a, b, c, d, e, f], _ => exact ⟨a, b, c, d, e, f, rfl⟩
      have hI : In6 a b c d e f := ⟨HV.out.1 a (by simp), HV.out.1 b (by simp), HV.out.1 c (by simp), HV.out.1 d (by simp), HV.out.1 e (by simp), HV.out.1 f (by simp)⟩
      have HI := Lib.hid hI
      have p3 := HQ.out.2.2.1
      have c0 := p3.cell 0
      have c1 := p3.cell 1
      have c2 := p3.cell 2
      have c3 := p3.cell 3
      have c4 := p3.cell 4
      have c5 := p3.cell 5
      simp [iarr, i64s] at c0 c1 c2 c3 c4 c5
      have f2 := HQ.out.2.1.frozen
      have q0 := HQ.out.2.1.cell 0
      have q1 := HQ.out.2.1.cell 1
      have q2 := HQ.out.2.1.cell 2
      have q3 := HQ.out.2.1.cell 3
      have q4 := HQ.out.2.1.cell 4
      have q5 := HQ.out.2.1.cell 5
      simp at q0 q1 q2 q3 q4 q5
      have hb := (((((HQ.out.2.1.set_ 0 (.int .i64 a)).set_ 1 (.int .i64 b)).set_ 2 (.int .i64 c)).set_ 3 (.int .i64 d)).set_ 4 (.int .i64 e)).set_ 5 (.int .i64 f)
      simp at hb
      have hkk : Keep (fun j => j = rb) w ((((((wr.setCell ⟨w.heap.size, 0, none⟩ (.int .i64 a)).setCell ⟨w.heap.size, 1, none⟩ (.int .i64 b)).setCell ⟨w.heap.size, 2, none⟩ (.int .i64 c)).setCell ⟨w.heap.size, 3, none⟩ (.int .i64 d)).setCell ⟨w.heap.size, 4, none⟩ (.int .i64 e)).setCell ⟨w.heap.size, 5, none⟩ (.int .i64 f)) :=
        (((((HQ.out.2.2.2.setCell (p := ⟨w.heap.size, 0, none⟩) (.inr (Nat.le_refl _)) _).setCell (p := ⟨w.heap.size, 1, none⟩) (.inr (Nat.le_refl _)) _).setCell (p := ⟨w.heap.size, 2, none⟩) (.inr (Nat.le_refl _)) _).setCell (p := ⟨w.heap.size, 3, none⟩) (.inr (Nat.le_refl _)) _).setCell (p := ⟨w.heap.size, 4, none⟩) (.inr (Nat.le_refl _)) _).setCell (p := ⟨w.heap.size, 5, none⟩) (.inr (Nat.le_refl _)) _
      have hks : Keep (fun b => b = w.heap.size) wr ((((((wr.setCell ⟨w.heap.size, 0, none⟩ (.int .i64 a)).setCell ⟨w.heap.size, 1, none⟩ (.int .i64 b)).setCell ⟨w.heap.size, 2, none⟩ (.int .i64 c)).setCell ⟨w.heap.size, 3, none⟩ (.int .i64 d)).setCell ⟨w.heap.size, 4, none⟩ (.int .i64 e)).setCell ⟨w.heap.size, 5, none⟩ (.int .i64 f)) :=
        ((((((Keep.refl (fun b => b = w.heap.size) wr).setCell (p := ⟨w.heap.size, 0, none⟩) (.inl rfl) _).setCell (p := ⟨w.heap.size, 1, none⟩) (.inl rfl) _).setCell (p := ⟨w.heap.size, 2, none⟩) (.inl rfl) _).setCell (p := ⟨w.heap.size, 3, none⟩) (.inl rfl) _).setCell (p := ⟨w.heap.size, 4, none⟩) (.inl rfl) _).setCell (p := ⟨w.heap.size, 5, none⟩) (.inl rfl) _
      have hrr := HQ.out.1.keep hks (by have := HLT.out; omega) (by have : g < w.heap.size := HA.out.row.lt; omega)
      have HZ := Lib.hid (And.intro hb (And.intro hkk hrr))
      clear hb hkk hks hrr hI p3
      go_wp2
      have z0 := HZ.out.1.cell 0
      have z1 := HZ.out.1.cell 1
      have z2 := HZ.out.1.cell 2
      have z3 := HZ.out.1.cell 3
      have z4 := HZ.out.1.cell 4
      have z5 := HZ.out.1.cell 5
      simp at z0 z1 z2 z3 z4 z5
      exact bodyPost_ret (v := .agg #[.int .i64 a, .int .i64 b, .int .i64 c, .int .i64 d, .int .i64 e, .int .i64 f]) (by simp [results, Tryd.results38, go_sem, z0, z1, z2, z3, z4, z5]) rfl ⟨a, b, c, d, e, f, rfl, HI.out, fun j v hj hv => HV.out.2 j v hj hv, HZ.out.2.2, HZ.out.2.1⟩
end Go.Proofs.YteljecehppeamaaDoor
