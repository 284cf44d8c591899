/-
  Where a call is: the program's Find. Conditions: at most 100000 events.
-/
import Derived.Test.YtbjibpghbaemfaaFind
import Derived.Test.YtbjibpghbaemfaaArgEv
namespace Go.Proofs.Ytbjibpghbaemfaa
open Go.RowKit Go.Fw Go.Shelf
set_option maxHeartbeats 4000000
set_option maxRecDepth 4000
set_option linter.unusedVariables false
set_option linter.unusedSimpArgs false
def spanA (l : List Ev) (t nt : Int) (k : Nat) : Array Value := #[.int .i64 (lastI l 1 t nt k), .int .i64 (lastI l 2 t nt k), .int .i64 (lastI l 3 t nt k)]
theorem span_step {l : List Ev} {t nt : Int} {k : Nat} {x : Ev} (h : ∀ kd, lastI l kd t nt (k + 1) = if hit x kd t nt then (k : Int) else lastI l kd t nt k) (g : Nat) {w wr : World} {o : Obj} (z : Array Value)
    (H : Below w.heap.size w wr ∧ Blk wr w.heap.size 29 z ∧ Blk wr (w.heap.size + 1) 29 (spanA l t nt k)) :
    ((∀ kd, (kd = 1 ∨ kd = 2 ∨ kd = 3) → hit x kd t nt = false) → Below w.heap.size w (wr.alloc o) ∧ Blk (wr.alloc o) w.heap.size 29 z ∧ Blk (wr.alloc o) (w.heap.size + 1) 29 (spanA l t nt (k + 1))) ∧
    (∀ j : Nat, (j = 0 ∨ j = 1 ∨ j = 2) → (∀ kd : Int, (kd = 1 ∨ kd = 2 ∨ kd = 3) → hit x kd t nt = (kd == (j : Int) + 1)) →
      Below w.heap.size w ((wr.alloc o).setCell ⟨w.heap.size + 1, j, none⟩ (.int .i64 (k : Int))) ∧ Blk ((wr.alloc o).setCell ⟨w.heap.size + 1, j, none⟩ (.int .i64 (k : Int))) w.heap.size 29 z ∧ Blk ((wr.alloc o).setCell ⟨w.heap.size + 1, j, none⟩ (.int .i64 (k : Int))) (w.heap.size + 1) 29 (spanA l t nt (k + 1))) := by
  obtain ⟨h1, h2, h3⟩ := H
  refine ⟨fun hn => ?_, fun j hj hh => ?_⟩
  · refine ⟨sub_alloc h1 o, h2.alloc o, ?_⟩
    have e : spanA l t nt (k + 1) = spanA l t nt k := by
      unfold spanA
      rw [h 1, h 2, h 3, hn 1 (by simp), hn 2 (by simp), hn 3 (by simp)]
      rfl
    rw [e]
    exact h3.alloc o
  · refine ⟨(sub_alloc h1 o).setCell (Nat.le_succ _) _, (h2.alloc o).far (by show w.heap.size ≠ w.heap.size + 1; omega) _, ?_⟩
    have h4 := (h3.alloc o).set_ j (.int .i64 (k : Int))
    have e : (spanA l t nt k).setIfInBounds j (.int .i64 (k : Int)) = spanA l t nt (k + 1) := by
      unfold spanA
      rw [h 1, h 2, h 3, hh 1 (by simp), hh 2 (by simp), hh 3 (by simp)]
      rcases hj with rfl | rfl | rfl <;> rfl
    rw [e] at h4
    exact h4
theorem find_any (l : List Ev) (A : Option Addr) (c n : Nat) (t nt : Int) (w : World) (ho : ∀ e ∈ l, EvOk e) (hr : Reads w w.heap.size 34 A n (evs l)) (hl : n ≤ 100000) :
    Calls Try.prog 11 #[.slice A n c, .int .i64 t, .int .i64 nt] w fun e w' => e = .returned (.agg (spanA l t nt n)) ∧ Below w.heap.size w w' := by
  have hn := ev_len ho hr
  have HN := Lib.hid hn
  have HO := Lib.hid ho
  have b2 := (Blk.new_at w 29 #[.int .i64 0, .int .i64 0, .int .i64 0] rfl).alloc (.cells #[.int .i64 (-1), .int .i64 (-1), .int .i64 (-1)] 29)
  have b3 : Blk ((w.alloc (.cells #[.int .i64 0, .int .i64 0, .int .i64 0] 29)).alloc (.cells #[.int .i64 (-1), .int .i64 (-1), .int .i64 (-1)] 29)) (w.heap.size + 1) 29 (spanA l t nt 0) := Blk.new_at (w.alloc (.cells #[.int .i64 0, .int .i64 0, .int .i64 0] 29)) 29 #[.int .i64 (-1), .int .i64 (-1), .int .i64 (-1)] (g := w.heap.size + 1) (by simp)
  have hb0 := sub_alloc (sub_alloc (Below.refl w.heap.size w) (.cells #[.int .i64 0, .int .i64 0, .int .i64 0] 29)) (.cells #[.int .i64 (-1), .int .i64 (-1), .int .i64 (-1)] 29)
  have HB0 := Lib.hid (And.intro hb0 (And.intro b2 b3))
  clear hn ho hb0 b2 b3
  go_enter Try.func11, Try.ntmps11
  go_wp2
  go_loopw [13] (fun i wr => ∃ (k : Nat), k ≤ n ∧ i = .int .i64 k ∧ Hid (Below w.heap.size w wr ∧ Blk wr w.heap.size 29 #[.int .i64 0, .int .i64 0, .int .i64 0] ∧ Blk wr (w.heap.size + 1) 29 (spanA l t nt k))) (fun i _ => n - (intOf i).toNat)
  case atStart => exact ⟨0, Nat.zero_le _, rfl, HB0⟩
  case round =>
    obtain ⟨k, hk, rfl, HW⟩ := hrel
    clear HB0
    by_cases hlt : k < n
    · have hkl : k < l.length := by have := HN.out; omega
      obtain ⟨b, o, rfl, _, hc⟩ := ev_at HO.out (hr.below HW.out.1) hkl
      have hx := HO.out _ (List.getElem_mem hkl)
      have hs := fun kd => lastI_succ kd t nt hkl
      generalize l[k] = x at *
      have hh : ∀ kd, hit x kd t nt = (x.kind == kd && x.task == t && x.nth == nt) := fun _ => rfl
      have HSt := Lib.hid (And.intro (span_step hs 0 (o := .cells x.cs 58) _ HW.out) hh)
      have c0 := new_cell (w := wr) (t := 58) hx.c0
      have c1 := new_cell (w := wr) (t := 58) hx.c1
      have c2 := new_cell (w := wr) (t := 58) hx.c2
      have b3 := HW.out.2.2.alloc (.cells x.cs 58)
      have s0 := b3.cell 0
      have s1 := b3.cell 1
      have s2 := b3.cell 2
      have f0 := b3.frozen 0
      have f1 := b3.frozen 1
      have f2 := b3.frozen 2
      simp [spanA] at s0 s1 s2
      have HALL := Lib.hid (And.intro hx.size (And.intro hx.all (at_cells hc)))
      have HR := Lib.hid hr
      clear hs hh hc hx hr b3
      generalize lastI l 1 t nt k = v0 at *
      generalize lastI l 2 t nt k = v1 at *
      generalize lastI l 3 t nt k = v2 at *
      have hlen : (k : Int) < (n : Int) := by omega
      cases b1 : (x.task != t) with
      | true =>
        have m1 : (x.task == t) = false := by simpa using b1
        go_wp2_with (first | (refine wpList_load_at rowT rfl (.tmp 16) rfl ⟨b, o + k * 34, none⟩ (by rfl) x.cs HALL.out.1 HALL.out.2.2 ?_) | (refine wpList_alloc_row rowT rfl rfl ?_) | (refine wpList_store_new rowT rfl (.tmp 9) (.tmp 17) rfl _ rfl (by rfl) x.cs _ (by rfl) _ HALL.out.1 rowT.zc_size HALL.out.2.1 ?_))
        go_roundw
        case rel => exact ⟨k + 1, by omega, by go_num, Lib.hid (HSt.out.1.1 fun kd _ => by rw [HSt.out.2, m1]; simp)⟩
        case measure => simp [intOf]; omega
      | false =>
        have m1 : (x.task == t) = true := by simpa using b1
        cases b2 : (x.nth != nt) with
        | true =>
          have m2 : (x.nth == nt) = false := by simpa using b2
          go_wp2_with (first | (refine wpList_load_at rowT rfl (.tmp 16) rfl ⟨b, o + k * 34, none⟩ (by rfl) x.cs HALL.out.1 HALL.out.2.2 ?_) | (refine wpList_alloc_row rowT rfl rfl ?_) | (refine wpList_store_new rowT rfl (.tmp 9) (.tmp 17) rfl _ rfl (by rfl) x.cs _ (by rfl) _ HALL.out.1 rowT.zc_size HALL.out.2.1 ?_))
          go_roundw
          case rel => exact ⟨k + 1, by omega, by go_num, Lib.hid (HSt.out.1.1 fun kd _ => by rw [HSt.out.2, m2]; simp)⟩
          case measure => simp [intOf]; omega
        | false =>
          have m2 : (x.nth == nt) = true := by simpa using b2
          have HM := Lib.hid (And.intro m1 m2)
          clear m1 m2
          by_cases k1 : x.kind = 1
          · have q1 : (x.kind == 1) = true := by simp [k1]
            go_wp2_with (first | (refine wpList_load_at rowT rfl (.tmp 16) rfl ⟨b, o + k * 34, none⟩ (by rfl) x.cs HALL.out.1 HALL.out.2.2 ?_) | (refine wpList_alloc_row rowT rfl rfl ?_) | (refine wpList_store_new rowT rfl (.tmp 9) (.tmp 17) rfl _ rfl (by rfl) x.cs _ (by rfl) _ HALL.out.1 rowT.zc_size HALL.out.2.1 ?_))
            go_roundw
            case rel => exact ⟨k + 1, by omega, by go_num, Lib.hid (HSt.out.1.2 0 (.inl rfl) fun kd hkd => by rw [HSt.out.2, HM.out.1, HM.out.2, k1]; rcases hkd with rfl | rfl | rfl <;> rfl)⟩
            case measure => simp [intOf]; omega
          · have q1 : (x.kind == 1) = false := by simp [k1]
            by_cases k2 : x.kind = 2
            · have q2 : (x.kind == 2) = true := by simp [k2]
              go_wp2_with (first | (refine wpList_load_at rowT rfl (.tmp 16) rfl ⟨b, o + k * 34, none⟩ (by rfl) x.cs HALL.out.1 HALL.out.2.2 ?_) | (refine wpList_alloc_row rowT rfl rfl ?_) | (refine wpList_store_new rowT rfl (.tmp 9) (.tmp 17) rfl _ rfl (by rfl) x.cs _ (by rfl) _ HALL.out.1 rowT.zc_size HALL.out.2.1 ?_))
              go_roundw
              case rel => exact ⟨k + 1, by omega, by go_num, Lib.hid (HSt.out.1.2 1 (.inr (.inl rfl)) fun kd hkd => by rw [HSt.out.2, HM.out.1, HM.out.2, k2]; rcases hkd with rfl | rfl | rfl <;> rfl)⟩
              case measure => simp [intOf]; omega
            · have q2 : (x.kind == 2) = false := by simp [k2]
              by_cases k3 : x.kind = 3
              · have q3 : (x.kind == 3) = true := by simp [k3]
                go_wp2_with (first | (refine wpList_load_at rowT rfl (.tmp 16) rfl ⟨b, o + k * 34, none⟩ (by rfl) x.cs HALL.out.1 HALL.out.2.2 ?_) | (refine wpList_alloc_row rowT rfl rfl ?_) | (refine wpList_store_new rowT rfl (.tmp 9) (.tmp 17) rfl _ rfl (by rfl) x.cs _ (by rfl) _ HALL.out.1 rowT.zc_size HALL.out.2.1 ?_))
                go_roundw
                case rel => exact ⟨k + 1, by omega, by go_num, Lib.hid (HSt.out.1.2 2 (.inr (.inr rfl)) fun kd hkd => by rw [HSt.out.2, HM.out.1, HM.out.2, k3]; rcases hkd with rfl | rfl | rfl <;> rfl)⟩
                case measure => simp [intOf]; omega
              · have q3 : (x.kind == 3) = false := by simp [k3]
                go_wp2_with (first | (refine wpList_load_at rowT rfl (.tmp 16) rfl ⟨b, o + k * 34, none⟩ (by rfl) x.cs HALL.out.1 HALL.out.2.2 ?_) | (refine wpList_alloc_row rowT rfl rfl ?_) | (refine wpList_store_new rowT rfl (.tmp 9) (.tmp 17) rfl _ rfl (by rfl) x.cs _ (by rfl) _ HALL.out.1 rowT.zc_size HALL.out.2.1 ?_))
                go_roundw
                case rel => exact ⟨k + 1, by omega, by go_num, Lib.hid (HSt.out.1.1 fun kd hkd => by rw [HSt.out.2]; rcases hkd with rfl | rfl | rfl <;> simp [k1, k2, k3])⟩
                case measure => simp [intOf]; omega
    · obtain rfl : k = n := by omega
      have u0 := HW.out.2.1.cell 0
      have b3 := HW.out.2.2
      have b2 := HW.out.2.1
      have hfz : ∀ i, wr.frozen? ⟨w.heap.size, i, none⟩ = false := fun i => b2.frozen i
      have f0 := hfz 0
      have f1 := hfz 1
      have f2 := hfz 2
      have v0 := b2.cell 0
      have v1 := b2.cell 1
      have v2 := b2.cell 2
      have s0 := b3.cell 0
      have s1 := b3.cell 1
      have s2 := b3.cell 2
      simp [spanA] at s0 s1 s2 v0 v1 v2
      have b9 : Blk (((wr.setCell ⟨w.heap.size, 0, none⟩ (.int .i64 (lastI l 1 t nt k))).setCell ⟨w.heap.size, 1, none⟩ (.int .i64 (lastI l 2 t nt k))).setCell ⟨w.heap.size, 2, none⟩ (.int .i64 (lastI l 3 t nt k))) w.heap.size 29 (spanA l t nt k) := ((b2.set_ 0 _).set_ 1 _).set_ 2 _
      have k9 : Below w.heap.size w (((wr.setCell ⟨w.heap.size, 0, none⟩ (.int .i64 (lastI l 1 t nt k))).setCell ⟨w.heap.size, 1, none⟩ (.int .i64 (lastI l 2 t nt k))).setCell ⟨w.heap.size, 2, none⟩ (.int .i64 (lastI l 3 t nt k))) := ((HW.out.1.setCell (p := ⟨w.heap.size, 0, none⟩) (Nat.le_refl _) _).setCell (p := ⟨w.heap.size, 1, none⟩) (Nat.le_refl _) _).setCell (p := ⟨w.heap.size, 2, none⟩) (Nat.le_refl _) _
      have z0 := b9.cell 0
      have z1 := b9.cell 1
      have z2 := b9.cell 2
      simp [spanA] at z0 z1 z2
      clear b2 b3 hfz u0 b9
      unfold spanA
      go_wp2
      refine bodyPost_ret (v := .agg #[.int .i64 (lastI l 1 t nt k), .int .i64 (lastI l 2 t nt k), .int .i64 (lastI l 3 t nt k)]) (by simp [results, Try.results11, go_sem, z0, z1, z2]) rfl ⟨rfl, k9⟩
end Go.Proofs.Ytbjibpghbaemfaa
