/-
  The reference's Right; the walk of TraceRight, whatever the input. Condition: none.
-/
import Derived.Test.YtbjibpghbaemfaaOne
namespace Go.Fw
open Go.RowKit
set_option linter.unusedVariables false
theorem all_range_succ (f : Nat → Bool) (k : Nat) : (List.range (k + 1)).all f = ((List.range k).all f && f k) := by
  rw [List.range_succ, List.all_append]
  simp
theorem all_drop {α : Type} {l : List α} {f : α → Bool} {k : Nat} (hk : k < l.length) : (l.drop k).all f = (f l[k] && (l.drop (k + 1)).all f) := by
  rw [List.drop_eq_getElem_cons hk, List.all_cons]
/-- the rest of the tasks -/
def restB (f : Nat → Bool) (k : Nat) : Bool := (List.range (32 - k)).all fun j => f (k + j)
theorem restB_step (f : Nat → Bool) {k : Nat} (hk : k < 32) : restB f k = (f k && restB f (k + 1)) := by
  unfold restB
  rw [show 32 - k = (32 - (k + 1)) + 1 by omega, List.range_succ_eq_map, List.all_cons, List.all_map]
  congr 1
  congr 1
  funext j
  show f (k + (j + 1)) = f (k + 1 + j)
  congr 1
  omega
theorem restB_zero (f : Nat → Bool) : restB f 0 = (List.range 32).all f := by
  unfold restB
  simp
theorem restB_end (f : Nat → Bool) : restB f 32 = true := rfl
end Go.Fw
namespace Go.Proofs.Ytbjibpghbaemfaa
open Go.RowKit Go.Fw Go.Shelf
set_option maxHeartbeats 4000000
set_option maxRecDepth 4000
set_option linter.unusedVariables false
set_option linter.unusedSimpArgs false
theorem rright_any (l : List Ev) (A : Option Addr) (c n : Nat) (w : World) (ho : ∀ e ∈ l, EvOk e) (hr : Reads w w.heap.size 34 A n (evs l)) (hl : n ≤ 1000) :
    Calls Try.prog 10 #[.slice A n c] w fun e w' => e = .returned (.bool (rrightP l)) ∧ Below w.heap.size w w' := by
  have hn := ev_len ho hr
  have HN := Lib.hid hn
  have HO := Lib.hid ho
  have hof : ∀ t : Nat, (l.filter fun x => x.task == (t : Int)).length ≤ 1000 := fun t => Nat.le_trans (List.length_filter_le _ _) (by omega)
  have oof : ∀ t : Nat, ∀ e ∈ (l.filter fun x => x.task == (t : Int)), EvOk e := fun t e he => ho e (List.mem_filter.1 he).1
  have hdef : rrightP l = (l.all inB && restB (fun t => oneF Tr.zero (l.filter fun x => x.task == (t : Int))) 0) := by rw [restB_zero]; rfl
  have HD := Lib.hid (And.intro hdef (And.intro hof oof))
  clear hn ho hdef hof oof
  generalize hF : (fun t : Nat => oneF Tr.zero (l.filter fun x => x.task == (t : Int))) = F at *
  have HF := Lib.hid hF
  clear hF
  go_enter Try.func10, Try.ntmps10
  go_wp2
  go_loop [3] (fun i => ∃ (k : Nat), k ≤ n ∧ i = .int .i64 k ∧ Hid (l.all inB = (l.drop k).all inB)) (fun i => n - (intOf i).toNat)
  case atStart => exact ⟨0, Nat.zero_le _, rfl, Lib.hid (by rw [List.drop_zero])⟩
  case round =>
    obtain ⟨k, hk, rfl, HQ⟩ := hrel
    by_cases hlt : k < n
    · have hkl : k < l.length := by have := HN.out; omega
      obtain ⟨b, o, rfl, _, hc⟩ := ev_at HO.out hr hkl
      have hx := HO.out _ (List.getElem_mem hkl)
      have hs := all_drop (f := inB) hkl
      generalize l[k] = x at *
      have p1 := hc 1 _ (by simpa using hx.c1)
      have hib : inB x = (decide (0 ≤ x.task) && decide (x.task < 32)) := rfl
      have HS := Lib.hid (And.intro hs hib)
      have HR := Lib.hid hr
      clear hs hc hx hr hib
      have hlen : (k : Int) < (n : Int) := by omega
      by_cases h0 : x.task < 0
      · go_wp2
        go_ret
        exact ⟨ret_b (by rw [HD.out.1, HQ.out, HS.out.1, HS.out.2, show decide (0 ≤ x.task) = false by simp; omega]; rfl), Below.refl _ _⟩
      · by_cases h1 : 31 < x.task
        · go_wp2
          go_ret
          exact ⟨ret_b (by rw [HD.out.1, HQ.out, HS.out.1, HS.out.2, show decide (x.task < 32) = false by simp; omega]; simp), Below.refl _ _⟩
        · go_wp2
          go_round
          case rel => exact ⟨k + 1, by omega, by go_num, Lib.hid (by rw [HQ.out, HS.out.1, HS.out.2, show decide (x.task < 32) = true by simp; omega, show decide (0 ≤ x.task) = true by simp; omega]; rfl)⟩
          case measure => simp [intOf]; omega
    · have hall : l.all inB = true := by
        rw [HQ.out, List.drop_eq_nil_of_le (by have := HN.out; omega)]
        rfl
      have HA := Lib.hid hall
      clear hall HQ
      go_wp2
      go_loopw [4] (fun i wr => ∃ (j : Nat), j ≤ 32 ∧ i = .int .i64 j ∧ Hid (rrightP l = restB F j ∧ Below w.heap.size w wr)) (fun i _ => 32 - (intOf i).toNat)
      case atStart => exact ⟨0, by omega, rfl, Lib.hid ⟨by rw [HD.out.1, HA.out]; rfl, Below.refl _ _⟩⟩
      case round =>
        obtain ⟨j, hj, rfl, HW⟩ := hrel
        by_cases hjt : j < 32
        · have hj2 : (j : Int) < 32 := by omega
          have hst := restB_step F hjt
          have hfj : F j = oneF Tr.zero (l.filter fun x => x.task == (j : Int)) := by rw [← HF.out]
          have HST := Lib.hid (And.intro hst hfj)
          have hrr := hr.up HW.out.2
          clear hst hfj
          have HR := Lib.hid hr
          clear hr
          go_wp2_with fail
          refine (rof_any l A c n (j : Int) _ HO.out hrr (by have := HN.out; omega)).mono ?_
          rintro e w1 ⟨v1, rfl, hm1⟩
          obtain ⟨A1, c1, rfl, _, _, r1⟩ := hm1.form
          have b1 := sub_trans HW.out.2 hm1.below
          clear hm1 hrr
          go_wp2_with fail
          refine (one_any _ A1 c1 _ _ (HD.out.2.2 j) r1 (by have := HD.out.2.1 j; omega)).mono ?_
          rintro e w2 ⟨rfl, b2⟩
          have b3 := sub_trans b1 b2
          have HB3 := Lib.hid b3
          rw [← HST.out.2]
          clear b1 b2 b3 r1
          cases hfv : F j with
          | false =>
            go_wp2
            go_ret
            exact ⟨ret_b (by rw [HW.out.1, HST.out.1, hfv]; rfl), HB3.out⟩
          | true =>
            go_wp2
            go_roundw
            case rel => exact ⟨j + 1, by omega, by go_num, Lib.hid ⟨by rw [HW.out.1, HST.out.1, hfv]; rfl, HB3.out⟩⟩
            case measure => simp [intOf]; omega
        · obtain rfl : j = 32 := by omega
          go_wp2
          go_ret
          exact ⟨ret_b (by rw [HW.out.1]; rfl), HW.out.2⟩
theorem traceRight_walk (l : List Ev) (A : Option Addr) (c : Nat) (W : World) (hR : Reads W W.heap.size 34 A l.length (evs l)) (ho : ∀ e ∈ l, EvOk e) (hl : l.length ≤ maxLen ∧ l.length ≤ c) :
    Calls Try.prog 3 #[.slice A l.length c] W fun e w' => e = .returned (.bool true) ∧ Below W.heap.size W w' := by
  have hml := hl.1
  unfold maxLen at hml
  have HO := Lib.hid ho
  clear ho hl
  go_enter Try.func3, Try.ntmps3
  go_wp2_with fail
  refine (tawake_any _).mono ?_
  rintro e w1 ⟨rfl, b1⟩
  by_cases h60 : 60 < l.length
  · go_wp2
    go_ret
    exact ⟨rfl, b1⟩
  · have hR1 := hR.up b1
    clear hR
    go_wp2_with fail
    refine (events_any l A c _ _ HO.out hR1 (by omega)).mono ?_
    rintro e w2 ⟨v2, rfl, hm2⟩
    obtain ⟨A2, c2, rfl, _, _, r2⟩ := hm2.form
    have b2 := sub_trans b1 hm2.below
    have hR2 := hR1.up hm2.below
    clear hm2 b1 hR1
    go_wp2_with fail
    refine (right_any l A2 c2 _ _ HO.out r2 (by omega)).mono ?_
    rintro e w3 ⟨rfl, b3⟩
    have b4 := sub_trans b2 b3
    have hR3 := hR2.up b3
    clear b2 b3 r2 hR2
    go_wp2_with fail
    refine (rright_any l A c _ _ HO.out hR3 (by omega)).mono ?_
    rintro e w5 ⟨rfl, b5⟩
    have b6 := sub_trans b4 b5
    rw [right_same l]
    clear b4 b5 hR3
    go_wp2
    go_ret
    exact ⟨by first | rfl | simp, b6⟩
end Go.Proofs.Ytbjibpghbaemfaa
