/-
  Changes and Reasons of lists of decisions, walked. Conditions: at most 100000 decisions.
-/
import Derived.Test.YtgmgddccdfmiiaaHistoryKeeps
namespace Go.Fw
open Go.RowKit
set_option linter.unusedVariables false
/-- how often decisions changed, among the first ones -/
def chgB (l : List Adv) (k : Nat) : Bool := decide (0 < k) && (l.getD k ⟨0, 0, 0, 0, 0⟩).reps != (l.getD (k - 1) ⟨0, 0, 0, 0, 0⟩).reps
def chg (l : List Adv) : Nat → Nat
  | 0 => 0
  | k + 1 => chg l k + (if chgB l k then 1 else 0)
theorem chg_le (l : List Adv) (k : Nat) : chg l k ≤ k := by
  induction k with
  | zero => simp [chg]
  | succ k ih => unfold chg; split <;> omega
theorem chg_one (l : List Adv) : chg l 1 = 0 := by simp [chg, chgB]
/-- a reason is counted -/
def why1 (n : Int) : Nat := if 1 ≤ n ∧ n ≤ 6 then n.toNat else 0
def bump (ys : List Int) (n : Int) : List Int := ys.set (why1 n) (ys.getD (why1 n) 0 + 1)
def reas (l : List Adv) : Nat → List Int
  | 0 => [0, 0, 0, 0, 0, 0, 0]
  | k + 1 => bump (reas l k) (l.getD k ⟨0, 0, 0, 0, 0⟩).why
theorem reas_len (l : List Adv) (k : Nat) : (reas l k).length = 7 := by
  induction k with
  | zero => rfl
  | succ k ih => unfold reas bump; simp [ih]
theorem reas_bd (l : List Adv) (k : Nat) : ∀ j, 0 ≤ (reas l k).getD j 0 ∧ (reas l k).getD j 0 ≤ k := by
  induction k with
  | zero => intro j; unfold reas; rcases j with _ | _ | _ | _ | _ | _ | _ | j <;> simp
  | succ k ih =>
    intro j
    unfold reas bump
    generalize why1 _ = i
    have h1 := ih i
    have h2 := ih j
    rw [List.getD_eq_getElem?_getD, List.getElem?_set]
    by_cases hij : i = j
    · subst hij
      rw [if_pos rfl]
      by_cases hl : i < (reas l k).length
      · rw [if_pos hl]; simp only [Option.getD_some]; omega
      · rw [if_neg hl]; simp; omega
    · rw [if_neg hij, ← List.getD_eq_getElem?_getD]; omega
theorem seven {l : List Int} (h : l.length = 7) : ∃ a b c d e f g : Int, l = [a, b, c, d, e, f, g] := by
  match l, h with
  | [a, b, c, d, e, f, g], _ => exact ⟨a, b, c, d, e, f, g, rfl⟩
theorem why_cases (n : Int) : n = 1 ∨ n = 2 ∨ n = 3 ∨ n = 4 ∨ n = 5 ∨ n = 6 ∨ n < 1 ∨ 6 < n := by omega
end Go.Fw
namespace Go.Proofs.Ytgmgddccdfmiiaa
open Go.RowKit Go.Fw
set_option maxHeartbeats 2000000
set_option maxRecDepth 4000
set_option linter.unusedVariables false
set_option linter.unusedSimpArgs false
theorem changes_any (l : List Adv) (A : Option Addr) (c n : Nat) (w : World) (hr : Reads w w.heap.size 5 A n (advs l)) (hl : n ≤ 100000) :
    Calls Try.prog 28 #[.slice A n c] w fun e w' => e = .returned (.int .i64 (chg l n : Int)) ∧ Below w.heap.size w w' := by
  have hn := adv_len hr
  have HN := Lib.hid hn
  clear hn
  go_enter Try.func28, Try.ntmps28
  go_wp2
  go_loopw [3, 4] (fun c i wr => ∃ (j : Nat), (j + 1 ≤ n ∨ j = 0) ∧ i = .int .i64 ((j : Int) + 1) ∧ c = .int .i64 (chg l (j + 1) : Int) ∧ Hid (∃ nq, wr = w.drewN nq)) (fun _ i _ => n - (intOf i).toNat)
  case atStart => exact ⟨0, .inr rfl, rfl, by rw [chg_one]; rfl, Lib.hid ⟨0, rfl⟩⟩
  case round =>
    obtain ⟨j, hj, rfl, rfl, HW⟩ := hrel
    obtain ⟨nq, rfl⟩ := HW.out
    clear HW
    have hcl := chg_le l (j + 1)
    by_cases hlt : j + 1 < n
    · have hkl : j + 1 < l.length := by have := HN.out; omega
      obtain ⟨b, o, rfl, _, p0, p1, p2, p3, p4⟩ := adv_at hr hkl
      obtain ⟨b2, o2, e2, _, r0, r1, r2, r3, r4⟩ := adv_at hr (show j < l.length by omega)
      injection e2 with e2
      injection e2 with e2 e3 _
      subst e2 e3
      have hcs : chg l (j + 1 + 1) = chg l (j + 1) + (if l[j + 1].reps != l[j].reps then 1 else 0) := by
        show chg l (j + 1) + (if chgB l (j + 1) then 1 else 0) = _
        congr 1
        unfold chgB
        have h1 : l.getD (j + 1) ⟨0, 0, 0, 0, 0⟩ = l[j + 1] := by simp [List.getD_eq_getElem?_getD, hkl]
        have h2 : l.getD (j + 1 - 1) ⟨0, 0, 0, 0, 0⟩ = l[j] := by simp [List.getD_eq_getElem?_getD, show j < l.length by omega]
        rw [h1, h2]
        simp
      have HR := Lib.hid hr
      clear hr p0 p1 p2 p4 r0 r1 r2 r4
      generalize l[j + 1] = x at *
      generalize l[j] = y at *
      obtain ⟨x1, x2, x3, x4, x5⟩ := x
      obtain ⟨y1, y2, y3, y4, y5⟩ := y
      simp only at p3 r3 hcs
      have HC := Lib.hid hcs
      clear hcs
      have hlen : (j : Int) + 1 < (n : Int) := by omega
      have hw : IntKind.i64.wrap ((j : Int) + 1 - 1) = (j : Int) := by rw [IntWalk.i64_in _ ⟨by omega, by omega⟩]; omega
      have ht : ((j : Int) + 1).toNat = j + 1 := by omega
      have hlen2 : (j : Int) < (n : Int) := by omega
      have hge : (0 : Int) ≤ (j : Int) + 1 := by omega
      by_cases hxy : x4 = y4
      · have h2 : (x4 != y4) = false := by simp [hxy]
        have HD : Hid (chg l (j + 1 + 1) = chg l (j + 1)) := by rw [HC.out, h2]; exact Lib.hid (by simp)
        clear hxy
        go_wp2
        go_quiet (fail)
        go_wp2
        go_roundw
        case rel => exact ⟨j + 1, by omega, by go_num, by rw [HD.out], Lib.hid ⟨_, rfl⟩⟩
        case measure => simp [intOf]; omega
      · have h2 : (x4 != y4) = true := by simp [hxy]
        have HD : Hid (chg l (j + 1 + 1) = chg l (j + 1) + 1) := by rw [HC.out, h2]; exact Lib.hid (by simp)
        clear hxy
        go_wp2
        go_quiet (fail)
        go_wp2
        go_roundw
        case rel => exact ⟨j + 1, by omega, by go_num, by rw [HD.out]; go_num, Lib.hid ⟨_, rfl⟩⟩
        case measure => simp [intOf]; omega
    · have hcn : chg l (j + 1) = chg l n := by
        rcases Nat.lt_or_ge n 1 with h0 | h0
        · obtain rfl : n = 0 := by omega
          obtain rfl : j = 0 := by omega
          rw [chg_one]; rfl
        · have : n = j + 1 := by omega
          rw [this]
      have HC := Lib.hid hcn
      clear hcn
      have hlen : (n : Int) ≤ (j : Int) + 1 := by omega
      go_wp2
      go_ret
      exact ⟨ret_i (by rw [HC.out]), by repeat (first | exact Below.refl _ _ | apply sub_drewN)⟩
/-- a block of seven numbers -/
theorem Blk.seven {w : World} {g : Nat} {t : TypeId} {y0 y1 y2 y3 y4 y5 y6 : Int} (h : Blk w g t (iarr [y0, y1, y2, y3, y4, y5, y6])) :
    w.cell? ⟨g, 0, none⟩ = some (.int .i64 y0) ∧ w.cell? ⟨g, 1, none⟩ = some (.int .i64 y1) ∧ w.cell? ⟨g, 2, none⟩ = some (.int .i64 y2) ∧ w.cell? ⟨g, 3, none⟩ = some (.int .i64 y3) ∧ w.cell? ⟨g, 4, none⟩ = some (.int .i64 y4) ∧ w.cell? ⟨g, 5, none⟩ = some (.int .i64 y5) ∧ w.cell? ⟨g, 6, none⟩ = some (.int .i64 y6) :=
  ⟨h.cell 0, h.cell 1, h.cell 2, h.cell 3, h.cell 4, h.cell 5, h.cell 6⟩
def set7 (w : World) (g : Nat) (y0 y1 y2 y3 y4 y5 y6 : Int) : World :=
  ((((((w.setCell ⟨g, 0, none⟩ (.int .i64 y0)).setCell ⟨g, 1, none⟩ (.int .i64 y1)).setCell ⟨g, 2, none⟩ (.int .i64 y2)).setCell ⟨g, 3, none⟩ (.int .i64 y3)).setCell ⟨g, 4, none⟩ (.int .i64 y4)).setCell ⟨g, 5, none⟩ (.int .i64 y5)).setCell ⟨g, 6, none⟩ (.int .i64 y6)
theorem Blk.set7 {w : World} {g : Nat} {t : TypeId} {z0 z1 z2 z3 z4 z5 z6 y0 y1 y2 y3 y4 y5 y6 : Int} (h : Blk w g t (iarr [z0, z1, z2, z3, z4, z5, z6])) : Blk (Go.Proofs.Ytgmgddccdfmiiaa.set7 w g y0 y1 y2 y3 y4 y5 y6) g t (iarr [y0, y1, y2, y3, y4, y5, y6]) := by
  have h7 := ((((((h.set_ 0 (.int .i64 y0)).set_ 1 (.int .i64 y1)).set_ 2 (.int .i64 y2)).set_ 3 (.int .i64 y3)).set_ 4 (.int .i64 y4)).set_ 5 (.int .i64 y5)).set_ 6 (.int .i64 y6)
  exact h7
theorem Below.set7 {n : Nat} {w w' : World} (h : Below n w w') {g : Nat} (hg : n ≤ g) {y0 y1 y2 y3 y4 y5 y6 : Int} : Below n w (Go.Proofs.Ytgmgddccdfmiiaa.set7 w' g y0 y1 y2 y3 y4 y5 y6) :=
  ((((((h.setCell (p := ⟨g, 0, none⟩) hg _).setCell (p := ⟨g, 1, none⟩) hg _).setCell (p := ⟨g, 2, none⟩) hg _).setCell (p := ⟨g, 3, none⟩) hg _).setCell (p := ⟨g, 4, none⟩) hg _).setCell (p := ⟨g, 5, none⟩) hg _).setCell (p := ⟨g, 6, none⟩) hg _
theorem reas_rel {w wr : World} {k j : Nat} {l : List Adv} {ys zs : List Int} {v x : Int} {T : TypeId} {o : Obj} (h : Below w.heap.size w wr ∧ Blk wr w.heap.size T (iarr zs) ∧ Blk wr (w.heap.size + 1) T (iarr ys)) (hy : reas l k = ys) (hs : reas l (k + 1) = bump (reas l k) x) (hj : why1 x = j) (hv : v = ys.getD j 0 + 1) :
    Below w.heap.size w ((wr.alloc o).setCell ⟨w.heap.size + 1, j, none⟩ (.int .i64 v)) ∧ Blk ((wr.alloc o).setCell ⟨w.heap.size + 1, j, none⟩ (.int .i64 v)) w.heap.size T (iarr zs) ∧ Blk ((wr.alloc o).setCell ⟨w.heap.size + 1, j, none⟩ (.int .i64 v)) (w.heap.size + 1) T (iarr (reas l (k + 1))) := by
  obtain ⟨h1, h2, h3⟩ := h
  refine ⟨(sub_alloc h1 o).setCell (Nat.le_succ _) _, (h2.alloc o).far (by show w.heap.size ≠ w.heap.size + 1; omega) _, ?_⟩
  have h4 := (h3.alloc o).set_ j (.int .i64 v)
  have e : (iarr ys).setIfInBounds j (.int .i64 v) = iarr (reas l (k + 1)) := by
    rw [hs, hy, hv]
    unfold bump
    rw [hj]
    simp [iarr, i64s, List.map_set]
  rw [e] at h4
  exact h4
theorem reasons_any (l : List Adv) (A : Option Addr) (c n : Nat) (w : World) (hr : Reads w w.heap.size 5 A n (advs l)) (hl : n ≤ 100000) :
    Calls Try.prog 35 #[.slice A n c] w fun e w' => e = .returned (.agg (iarr (reas l n))) ∧ Below w.heap.size w w' := by
  have hn := adv_len hr
  have HN := Lib.hid hn
  clear hn
  have b2 := (Blk.new_at w 57 (iarr [0, 0, 0, 0, 0, 0, 0]) rfl).alloc (.cells (iarr [0, 0, 0, 0, 0, 0, 0]) 57)
  have b3 := Blk.new_at (w.alloc (.cells (iarr [0, 0, 0, 0, 0, 0, 0]) 57)) 57 (iarr [0, 0, 0, 0, 0, 0, 0]) (g := w.heap.size + 1) (by simp)
  have hb0 := sub_alloc (sub_alloc (Below.refl w.heap.size w) (.cells (iarr [0, 0, 0, 0, 0, 0, 0]) 57)) (.cells (iarr [0, 0, 0, 0, 0, 0, 0]) 57)
  have ez : iarr [0, 0, 0, 0, 0, 0, 0] = #[.int .i64 0, .int .i64 0, .int .i64 0, .int .i64 0, .int .i64 0, .int .i64 0, .int .i64 0] := rfl
  rw [ez] at hb0 b2 b3
  clear ez
  go_enter Try.func35, Try.ntmps35
  go_wp2
  go_loopw [8] (fun i wr => ∃ (k : Nat), k ≤ n ∧ i = .int .i64 k ∧ Hid (Below w.heap.size w wr ∧ Blk wr w.heap.size 57 (iarr [0, 0, 0, 0, 0, 0, 0]) ∧ Blk wr (w.heap.size + 1) 57 (iarr (reas l k)))) (fun i _ => n - (intOf i).toNat)
  case atStart => exact ⟨0, Nat.zero_le _, rfl, Lib.hid ⟨hb0, b2, b3⟩⟩
  case round =>
    obtain ⟨k, hk, rfl, HH⟩ := hrel
    clear hb0 b2 b3
    have hbd := reas_bd l k
    obtain ⟨y0, y1, y2, y3, y4, y5, y6, hy⟩ := seven (reas_len l k)
    have hy0 := hbd 0
    have hy1 := hbd 1
    have hy2 := hbd 2
    have hy3 := hbd 3
    have hy4 := hbd 4
    have hy5 := hbd 5
    have hy6 := hbd 6
    obtain ⟨hb, b2, b3⟩ := HH.out
    rw [hy] at hy0 hy1 hy2 hy3 hy4 hy5 hy6 b3
    simp at hy0 hy1 hy2 hy3 hy4 hy5 hy6
    obtain ⟨q0, q1, q2, q3, q4, q5, q6⟩ := Blk.seven b3
    have HB := Lib.hid (And.intro hb (And.intro b2 b3))
    have HY := Lib.hid hy
    clear hy hbd HH
    have HR := Lib.hid hr
    by_cases hlt : k < n
    · have hkl : k < l.length := by have := HN.out; omega
      obtain ⟨b, o, rfl, hbw, p0, p1, p2, p3, p4⟩ := adv_at (hr.below hb) hkl
      have hrs : reas l (k + 1) = bump (reas l k) l[k].why := by
        show bump (reas l k) (l.getD k _).why = _
        simp [List.getD_eq_getElem?_getD, hkl]
      have HS := Lib.hid hrs
      clear hrs hr
      have bx := Blk.new_at wr 53 (Adv.arr l[k]) rfl
      have HX := Lib.hid (sub_alloc (Below.refl wr.heap.size wr) (.cells (Adv.arr l[k]) 53))
      generalize l[k] = x at *
      obtain ⟨x1, x2, x3, x4, x5⟩ := x
      obtain ⟨g0, g1, g2, g3, g4⟩ := bx.five
      have b33 := b3.alloc (.cells (Adv.arr ⟨x1, x2, x3, x4, x5⟩) 53)
      obtain ⟨s0, s1, s2, s3, s4, s5, s6⟩ := Blk.seven b33
      have f0 := b33.frozen 0
      have f1 := b33.frozen 1
      have f2 := b33.frozen 2
      have f3 := b33.frozen 3
      have f4 := b33.frozen 4
      have f5 := b33.frozen 5
      have f6 := b33.frozen 6
      unfold Adv.arr at *
      simp only at g0 g1 g2 g3 g4 p0 p1 p2 p3 p4 s0 s1 s2 s3 s4 s5 s6
      clear hb b2 b3 bx b33
      have hlen : (k : Int) < (n : Int) := by omega
      rcases why_cases x5 with rfl | rfl | rfl | rfl | rfl | rfl | hc | hc
      all_goals
        go_wp2
        go_roundw
        case rel => exact ⟨k + 1, by omega, by go_num, Lib.hid (reas_rel HB.out HY.out HS.out (by first | rfl | (simp [why1]; omega)) (by rfl))⟩
        case measure => simp [intOf]; omega
    · obtain rfl : k = n := by omega
      clear hb b2 b3 hr
      obtain ⟨hb, b2, b3⟩ := HB.out
      obtain ⟨u0, u1, u2, u3, u4, u5, u6⟩ := Blk.seven b2
      have f0 := b2.frozen 0
      have f1 := b2.frozen 1
      have f2 := b2.frozen 2
      have f3 := b2.frozen 3
      have f4 := b2.frozen 4
      have f5 := b2.frozen 5
      have f6 := b2.frozen 6
      clear hb b2 b3
      go_wp2
      have b9 : Blk (set7 wr w.heap.size y0 y1 y2 y3 y4 y5 y6) w.heap.size 57 (iarr [y0, y1, y2, y3, y4, y5, y6]) := Blk.set7 HB.out.2.1
      have hb9 : Below w.heap.size w (set7 wr w.heap.size y0 y1 y2 y3 y4 y5 y6) := Below.set7 HB.out.1 (Nat.le_refl _)
      obtain ⟨z0, z1, z2, z3, z4, z5, z6⟩ := Blk.seven b9
      unfold set7 at z0 z1 z2 z3 z4 z5 z6 hb9
      refine bodyPost_ret (v := .agg #[.int .i64 y0, .int .i64 y1, .int .i64 y2, .int .i64 y3, .int .i64 y4, .int .i64 y5, .int .i64 y6]) (by simp [results, Try.results35, go_sem, z0, z1, z2, z3, z4, z5, z6]) rfl ⟨by rw [HY.out]; rfl, hb9⟩
end Go.Proofs.Ytgmgddccdfmiiaa
