/-
  The walk of TraceOrders, whatever the input. Condition: none but the reach of every argument.
-/
import Derived.Test.YtbjibpghbaemfaaOrdPlain
import Derived.Test.YtbjibpghbaemfaaRight
import Derived.SizedLaws
namespace Go.Fw
open Go.RowKit
theorem lastI_ge (l : List Ev) (kd t n : Int) : ∀ k, -1 ≤ lastI l kd t n k
  | 0 => by simp [lastI]
  | k + 1 => by
    unfold lastI
    have := lastI_ge l kd t n k
    split
    · split
      · omega
      · exact this
    · exact this
theorem wasOf_ge (l : List Ev) (t : Int) (i : Nat) : -1 ≤ wasOf l t i := by
  unfold wasOf
  split
  · omega
  · have := lastI_ge l 1 t ((i - 1 : Nat) : Int) l.length
    omega
theorem wasOf_succ (l : List Ev) (t : Int) (i : Nat) : wasOf l t (i + 1) = max (lastI l 1 t (i : Int) l.length) (max (lastI l 2 t (i : Int) l.length) (lastI l 3 t (i : Int) l.length)) := by
  unfold wasOf
  rw [if_neg (by omega), show i + 1 - 1 = i by omega]
end Go.Fw
namespace Go.Proofs.Ytbjibpghbaemfaa
open Go.RowKit Go.Fw Go.Shelf Go.WideShapes Go.ChangeShapes Go.Deep
set_option maxHeartbeats 2000000
set_option maxRecDepth 4000
set_option linter.unusedVariables false
set_option linter.unusedSimpArgs false
theorem events_big (l : List Ev) (A : Option Addr) (c n : Nat) (w : World) (ho : ∀ e ∈ l, EvOk e) (hr : Reads w w.heap.size 34 A n (evs l)) (hl : n * 280 ≤ 140737488355328) :
    Calls Try.prog 9 #[.slice A n c] w fun e w' => ∃ v, e = .returned v ∧ MineS 34 w w' 58 v n (evs l) := by
  have hn := ev_len ho hr
  have HN := Lib.hid hn
  have HO := Lib.hid ho
  obtain ⟨z, hE⟩ := elemT
  clear hn ho
  go_enter Try.func9, Try.ntmps9
  go_wp2
  go_loopw [3, 8] (fun v i wr => ∃ (k : Nat), k ≤ n ∧ i = .int .i64 k ∧ ∃ (A2 : Option Addr) (c2 : Nat), v = .slice A2 k c2 ∧ Hid (MineS 34 w wr 58 v k (evs (l.take k)))) (fun _ i _ => n - (intOf i).toNat)
  case atStart => exact ⟨0, Nat.zero_le _, rfl, none, 0, rfl, Lib.hid (MineS.nil_ 34 w _)⟩
  case round =>
    obtain ⟨k, hk, rfl, A2, c2, rfl, HM⟩ := hrel
    by_cases hlt : k < n
    · have hkl : k < l.length := by have := HN.out; omega
      obtain ⟨b, o, rfl, _, hc⟩ := ev_at HO.out (hr.below HM.out.below) hkl
      have hx := HO.out _ (List.getElem_mem hkl)
      have hs : l.take (k + 1) = l.take k ++ [l[k]] := List.take_succ_eq_append_getElem hkl
      have hes := evs_snoc (l.take k) l[k]
      rw [← hs] at hes
      have HES := Lib.hid hes
      have HX := Lib.hid hx
      clear hs hes hx hr
      generalize l[k] = x at *
      have hsz := HX.out.size
      have hall := HX.out.all
      have hcl := at_cells hc
      have HC := Lib.hid hcl
      have HALL := Lib.hid (And.intro hsz hall)
      clear hc hcl hsz hall
      have hlen : (k : Int) < (n : Int) := by omega
      have hm1 : (wr.alloc (.cells x.cs 52)).ownsRow w.heap.size 58 34 (.slice A2 k c2) k (evs (l.take k)) := HM.out.own.alloc _
      have HM1 := Lib.hid hm1
      have HSZ := Lib.hid HM.out.le
      clear hm1
      go_wp2_with (first | (refine wpList_load_at rowE rfl (.tmp 10) rfl ⟨b, o + k * 34, none⟩ (by rfl) x.cs HALL.out.1 HC.out ?_) | (refine wpList_alloc_row rowE rfl rfl ?_) | (refine wpList_store_new rowE rfl (.tmp 5) (.tmp 11) rfl _ rfl (by rfl) x.cs _ (by rfl) _ HALL.out.1 rowE.zc_size HALL.out.2 ?_) | (refine wpList_load_at rowE rfl (.tmp 5) rfl ⟨wr.heap.size, 0, none⟩ (by rfl) x.cs HALL.out.1 (new_cells _ _ _) ?_) | (refine wpList_slice1 rowT (by decide) (by decide) rfl 25 (.tmp 13) rfl Try.underlying25 x.cs (by rfl) HALL.out.1 ?_) | (at_builtin; refine wpList_append_oneN (w := wr.alloc (.cells x.cs 52)) (v := .slice A2 k c2) (n := k) (xs := evs (l.take k)) (B := w.heap.size) hE (by decide) rfl (.tmp 12) (.tmp 14) rfl (by rfl) HM1.out (Nat.le_trans HSZ.out (by simp)) rfl (by rfl) HALL.out.1 HX.out.one (by omega) (by unfold maxLen; omega) ?_; intro v' w' hm' hg' hvb; obtain ⟨A3, k3, rfl, _, _⟩ := own_form hm'; have HG := Lib.hid (And.intro hm' (And.intro hg' hvb)); clear hm' hg' hvb))
      go_roundw
      case rel => exact ⟨k + 1, by omega, by go_num, A3, k3, rfl, Lib.hid ⟨by rw [← HES.out]; exact HG.out.1, (sub_alloc HM.out.below _).grown HG.out.2.1 (Nat.le_trans HSZ.out (by simp)) fun j hj => (HM1.out.lt j hj).1⟩⟩
      case measure => simp [intOf]; omega
    · obtain rfl : k = n := by omega
      have hf : l.take k = l := List.take_of_length_le (by have := HN.out; omega)
      have hm := HM.out
      rw [hf] at hm
      have HM2 := Lib.hid hm
      clear hm hf
      go_wp2
      go_ret
      exact ⟨_, rfl, HM2.out⟩
theorem reach_evs {H : Type} {enc : TypeId × Value → H} {W : World} {A : Option Addr} {len c : Nat} {d : DataW H} {p : List MemPlace} (h : DataW.Trod enc Try.prog W 0 (fun _ => true) true 22 (.slice A len c) d p)
    (hs : ∀ elems spare, d = .slice elems spare → (elems.length + spare.length) * 280 ≤ reachBytes) : len * 280 ≤ 140737488355328 := by
  obtain ⟨fuel, hf⟩ := h
  rcases open_slice Try.underlying22 hf with ⟨hcs, _⟩ | ⟨a, len', cap, m, n, D, Pl, hcs, hb, hl, hm, hmm, hx, hi⟩
  · simp [Value.cells] at hcs
    obtain ⟨_, rfl, _⟩ := hcs
    omega
  · simp [Value.cells] at hcs
    obtain ⟨_, rfl, _⟩ := hcs
    injection hx with hx _
    have h1 := hs _ _ hx
    have h2 := reachBytes_lt
    simp at h1
    have h3 : len * 280 ≤ (len + (m - len)) * 280 := Nat.mul_le_mul_right _ (by omega)
    omega
theorem torders_few (l : List Ev) (A : Option Addr) (c : Nat) (t : Int) (W0 : World) (ho : ∀ e ∈ l, EvOk e) (hR : Reads W0 W0.heap.size 34 A l.length (evs l)) (hl : l.length * 280 ≤ 140737488355328) :
    Calls Try.prog 6 #[.slice A l.length c, .int .i64 t] W0 fun e w' => e = .returned (.bool true) ∧ Below W0.heap.size W0 w' := by
  obtain ⟨cs, hcs⟩ : ∃ cs, cs = callsOf t l := ⟨_, rfl⟩
  have oof : ∀ e ∈ (l.filter fun x => x.task == t), EvOk e := fun e he => ho e (List.mem_filter.1 he).1
  have ocs : ∀ e ∈ cs, EvOk e := fun e he => oof e (by rw [hcs] at he; exact (List.mem_filter.1 he).1)
  have HO := Lib.hid (And.intro ho (And.intro oof (And.intro ocs hcs)))
  have HL := Lib.hid hl
  clear ho oof ocs hcs hl
  go_enter Try.func6, Try.ntmps6
  go_wp2_with fail
  refine (tawake_any _).mono ?_
  rintro e w1 ⟨rfl, b1⟩
  have hR1 := hR.up b1
  clear hR
  go_wp2_with fail
  refine (events_big l A c _ _ HO.out.1 hR1 HL.out).mono ?_
  rintro e w2 ⟨v2, rfl, hm2⟩
  obtain ⟨A2, c2, rfl, _, _, r2⟩ := hm2.form
  have b2 := sub_trans b1 hm2.below
  clear hm2 b1 hR1
  by_cases h60 : 60 < l.length
  · go_wp2
    go_ret
    exact ⟨rfl, b2⟩
  · have hof : (l.filter fun x => x.task == t).length ≤ 60 := Nat.le_trans (List.length_filter_le _ _) (by omega)
    have hcl : cs.length ≤ 60 := by rw [HO.out.2.2.2]; exact Nat.le_trans (List.length_filter_le _ _) hof
    go_wp2_with fail
    refine (right_any l A2 c2 _ _ HO.out.1 r2 (by omega)).mono ?_
    rintro e w3 ⟨rfl, b3⟩
    have b4 := sub_trans b2 b3
    have r23 := r2.up b3
    clear b2 b3 r2
    cases hrt : rightP l with
    | false =>
      go_wp2
      go_ret
      exact ⟨rfl, b4⟩
    | true =>
      have hord := order_all l t hrt
      rw [show callsOf t l = cs from HO.out.2.2.2.symm] at hord
      have HORD := Lib.hid hord
      clear hord hrt
      go_wp2_with fail
      refine (of_any l A2 c2 _ t _ HO.out.1 r23 (by omega)).mono ?_
      rintro e w4 ⟨v4, rfl, hm4⟩
      obtain ⟨A4, c4, rfl, _, _, r4⟩ := hm4.form
      have b5 := sub_trans b4 hm4.below
      have r24 := r23.up hm4.below
      clear hm4 b4 r23
      go_wp2_with fail
      refine (kind_any _ A4 c4 _ 1 _ HO.out.2.1 r4 (by omega)).mono ?_
      rintro e w5 ⟨v5, rfl, hm5⟩
      rw [show ((l.filter fun x => x.task == t).filter fun x => x.kind == 1) = cs from HO.out.2.2.2.symm] at hm5
      obtain ⟨A5, c5, rfl, _, _, r5⟩ := hm5.form
      have b6 := sub_trans b5 hm5.below
      have r25 := r24.up hm5.below
      clear hm5 b5 r24 r4
      have HB := Lib.hid (And.intro b6 (And.intro r25 r5))
      clear b6 r25 r5
      go_wp2
      go_loopw [6, 27] (fun v i wr => ∃ (k : Nat), k ≤ cs.length ∧ i = .int .i64 k ∧ v = .int .i64 (wasOf l t k) ∧ Hid (Below w5.heap.size w5 wr)) (fun _ i _ => cs.length - (intOf i).toNat)
      case atStart => exact ⟨0, Nat.zero_le _, rfl, rfl, Lib.hid (Below.refl _ _)⟩
      case round =>
        obtain ⟨k, hk, rfl, rfl, HW⟩ := hrel
        by_cases hlt : k < cs.length
        · have hev := HO.out.2.2.1
          obtain ⟨b, o, rfl, hb5, hc⟩ := ev_at hev (HB.out.2.2.up HW.out) hlt
          have hx := hev _ (List.getElem_mem hlt)
          have ho4 := HORD.out k hlt
          clear hev
          generalize cs[k] = x at *
          have hnt := ho4.1
          have HALL := Lib.hid (And.intro hx.size (And.intro hx.all (And.intro (at_cells hc) (And.intro hx.c2 hnt))))
          clear hc hx hnt
          have hr1 := (HB.out.2.1.up HW.out).up (sub_alloc (Below.refl wr.heap.size wr) (.cells x.cs 58))
          have hw1 : Below w5.heap.size w5 (wr.alloc (.cells x.cs 58)) := sub_alloc HW.out _
          have hy := new_cells wr 58 x.cs 2 (.int .i64 (k : Int)) (by rw [← HALL.out.2.2.2.2]; simpa using HALL.out.2.2.2.1)
          have hz : wr.heap.size < (wr.alloc (.cells x.cs 58)).heap.size := by simp
          have HN := Lib.hid (And.intro hr1 (And.intro hw1 (And.intro hy hz)))
          have H4 := Lib.hid ho4.2
          clear hr1 hw1 hy ho4 hz
          have hlen : (k : Int) < (cs.length : Int) := by omega
          go_wp2_with (first | (refine wpList_load_at rowT rfl (.tmp 30) rfl ⟨b, o + k * 34, none⟩ (by rfl) x.cs HALL.out.1 HALL.out.2.2.1 ?_) | (refine wpList_alloc_row rowT rfl rfl ?_) | (refine wpList_store_new rowT rfl (.tmp 8) (.tmp 31) rfl _ rfl (by rfl) x.cs _ (by rfl) _ HALL.out.1 rowT.zc_size HALL.out.2.1 ?_))
          refine (find_any l A2 c2 _ t (k : Int) _ HO.out.1 HN.out.1 (by omega)).mono ?_
          rintro e w6 ⟨rfl, b7⟩
          unfold spanA
          have hws := wasOf_succ l t k
          have hge := wasOf_ge l t k
          have h4 := H4.out
          generalize lastI l 1 t (k : Int) l.length = a0 at *
          generalize lastI l 2 t (k : Int) l.length = a1 at *
          generalize lastI l 3 t (k : Int) l.length = a2 at *
          generalize hwk : wasOf l t k = wk at *
          have HWS := Lib.hid (And.intro hws (And.intro hge h4))
          have HWK := Lib.hid hwk
          clear hws hge h4 H4 hwk
          have hy := (Below.cell b7 (p := ⟨wr.heap.size, 2, none⟩) HN.out.2.2.2).trans HN.out.2.2.1
          have hw7 : Below w5.heap.size w5 (w6.alloc (.cells #[.int .i64 a0, .int .i64 a1, .int .i64 a2] 29)) := sub_alloc (sub_trans HN.out.2.1 b7) _
          have hy8 : (w6.alloc (.cells #[.int .i64 a0, .int .i64 a1, .int .i64 a2] 29)).cell? ⟨wr.heap.size, 2, none⟩ = some (.int .i64 (k : Int)) := by
            rw [World.cell?_alloc_lt] <;> first | exact hy | exact Nat.lt_of_lt_of_le HN.out.2.2.2 b7.size
          have hbk := Blk.new_at w6 29 #[.int .i64 a0, .int .i64 a1, .int .i64 a2] rfl
          have H8 := Lib.hid (And.intro hw7 (And.intro hy8 hbk))
          clear hy hw7 hy8 hbk b7
          go_upto_region 11 with fail
          generalize (w6.alloc (.cells #[.int .i64 a0, .int .i64 a1, .int .i64 a2] 29)) = w8 at *
          have y2 := H8.out.2.1
          have g0 := H8.out.2.2.cell 0
          have g1 := H8.out.2.2.cell 1
          have g2 := H8.out.2.2.cell 2
          simp at g0 g1 g2
          have hkk : ((k : Int) != (k : Int)) = false := by simp
          have q1 : ¬ a0 ≤ wk := by have := HWS.out.2.2.1; omega
          by_cases c1 : 0 ≤ a1
          · have q2 : ¬ a1 ≤ a0 := by have := HWS.out.2.2.2.1 c1; omega
            have q3 : a0 < a1 := by omega
            have q4 : ¬ a1 < a0 := by omega
            have q0 : ¬ a1 < 0 := by omega
            by_cases c2 : 0 ≤ a2
            · have q5 : ¬ a2 ≤ a1 := by have := (HWS.out.2.2.2.2 c2).2; omega
              have q6 : a1 < a2 := by omega
              have hm : wasOf l t (k + 1) = a2 := by rw [HWS.out.1]; omega
              have HM := Lib.hid hm
              clear hm
              go_wp2
              go_roundw
              case rel => exact ⟨k + 1, by omega, by go_num, by rw [HM.out], Lib.hid H8.out.1⟩
              case measure => simp [intOf]; omega
            · have q5 : ¬ a1 < a2 := by omega
              have q6 : a2 < a1 := by omega
              have hm : wasOf l t (k + 1) = a1 := by rw [HWS.out.1]; omega
              have HM := Lib.hid hm
              clear hm
              go_wp2
              go_roundw
              case rel => exact ⟨k + 1, by omega, by go_num, by rw [HM.out], Lib.hid H8.out.1⟩
              case measure => simp [intOf]; omega
          · have c2 : ¬ 0 ≤ a2 := fun h => by have := (HWS.out.2.2.2.2 h).1; omega
            have q0 : a1 < 0 := by omega
            have qa : 0 ≤ a0 := by have := HWS.out.2.1; omega
            have q2 : ¬ a0 < a1 := by omega
            have q3 : a1 < a0 := by omega
            have q5 : ¬ a0 < a2 := by omega
            have q6 : a2 < a0 := by omega
            have hm : wasOf l t (k + 1) = a0 := by rw [HWS.out.1]; omega
            have HM := Lib.hid hm
            clear hm
            go_wp2
            go_roundw
            case rel => exact ⟨k + 1, by omega, by go_num, by rw [HM.out], Lib.hid H8.out.1⟩
            case measure => simp [intOf]; omega
        · obtain rfl : k = cs.length := by omega
          go_wp2
          go_ret
          exact ⟨rfl, sub_trans HB.out.1 HW.out⟩
theorem traceOrders_walk (l : List Ev) (A : Option Addr) (c : Nat) (t : Int) (W : World) (hR : Reads W W.heap.size 34 A l.length (evs l)) (ho : ∀ e ∈ l, EvOk e) (hl : l.length ≤ maxLen ∧ l.length ≤ c) (h1 : In64 t) (hb : l.length * 280 ≤ 140737488355328) :
    Calls Try.prog 6 #[.slice A l.length c, .int .i64 t] W fun e w' => e = .returned (.bool true) ∧ Below W.heap.size W w' := torders_few l A c t W ho hR hb
end Go.Proofs.Ytbjibpghbaemfaa
