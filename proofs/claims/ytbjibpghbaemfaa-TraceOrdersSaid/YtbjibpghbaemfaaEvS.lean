/-
  same, on lists of events that are alike; Replies. Conditions: at most 100000 events.
-/
import Derived.Test.YtbjibpghbaemfaaEvR
import Derived.Test.YtbjibpghbaemfaaRegion
import Derived.Deep.Cut
namespace Go.Proofs.Ytbjibpghbaemfaa
open Go.RowKit Go.Fw Go.Shelf
set_option maxHeartbeats 1000000
set_option maxRecDepth 4000
set_option linter.unusedVariables false
set_option linter.unusedSimpArgs false
theorem ev_neq (x : Ev) (h : EvOk x) (w : World) : (binOp .neq 52 (.agg x.cs) (.agg x.cs)).run Try.prog w = .ok (.bool false) w := by
  obtain ⟨ls, hl⟩ := h.lits
  exact neq_self (m := 5) (by decide) (by kernel_rfl) (by kernel_rfl) x.cs (by rw [h.size]; kernel_rfl) hl w
/-- events are like themselves -/
theorem same_any (l : List Ev) (A A2 : Option Addr) (c c2 n m B : Nat) (w : World) (ho : ∀ e ∈ l, EvOk e) (hx : Reads w B 34 A n (evs l)) (hy : Reads w B 34 A2 m (evs l)) (hl : n ≤ 100000) :
    Calls Try.prog 17 #[.slice A n c, .slice A2 m c2] w fun e w' => e = .returned (.bool true) ∧ Below w.heap.size w w' := by
  have ex := ev_len ho hx
  have ey := ev_len ho hy
  obtain rfl : m = n := by omega
  have EX := Lib.hid ex
  have HO := Lib.hid ho
  have h1 : ((m : Int) != (m : Int)) = false := by simp
  clear ex ey ho
  go_enter Try.func17, Try.ntmps17
  go_wp2
  go_loopw [13] (fun i wr => ∃ (k : Nat), k ≤ m ∧ i = .int .i64 k ∧ Hid (Below w.heap.size w wr ∧ (∀ p : Addr, p.block < B → wr.cell? p = w.cell? p))) (fun i _ => m - (intOf i).toNat)
  case atStart => exact ⟨0, by omega, rfl, Lib.hid ⟨Below.refl _ _, fun _ _ => rfl⟩⟩
  case round =>
    obtain ⟨k, hk, rfl, HW⟩ := hrel
    by_cases hlt : k < m
    · have hkx : k < l.length := by have := EX.out; omega
      have hx1 := hx.keep HW.out.2
      have hy1 := hy.keep HW.out.2
      obtain ⟨b, o, rfl, _, p⟩ := ev_at HO.out hx1 hkx
      obtain ⟨b2, o2, rfl, _, q⟩ := ev_at HO.out hy1 hkx
      have hok := HO.out _ (List.getElem_mem hkx)
      have HXY := Lib.hid (And.intro hx hy)
      clear hx hy hx1 hy1
      generalize l[k] = x at *
      have HP := Lib.hid (And.intro (at_cells p) (And.intro (at_cells q) hok))
      clear p q hok
      have hlen : (k : Int) < (m : Int) := by omega
      go_upto_region 6 with fail
      have hS0 : wr.drew.heap = wr.heap := rfl
      refine any_start (S := fun W => W.heap = wr.heap) (by kernel_rfl) hS0 ?_
      simp only [List.length_cons, List.length_nil, Nat.reduceAdd, List.size_toArray]
      refine any_pure 0 (v := ?_) rfl (by kernel_rfl) (by intro _ _ _ h; exact h) (by assumption) (by rfl) (fun W hW => ?_) ?_
      rotate_left
      · first | (go_simp; done) | (go_simp; with_reducible rfl)
      try simp only [Act.put, List.setIfInBounds_toArray, List.set_cons_zero, List.set_cons_succ]
      refine any_pure 1 (v := ?_) rfl (by kernel_rfl) (by intro _ _ _ h; exact h) (by assumption) (by rfl) (fun W hW => ?_) ?_
      rotate_left
      · first | (go_simp; done) | (go_simp; with_reducible rfl)
      try simp only [Act.put, List.setIfInBounds_toArray, List.set_cons_zero, List.set_cons_succ]
      refine any_pure 2 (v := ?_) rfl (by kernel_rfl) (by intro _ _ _ h; exact h) (by assumption) (by rfl) (fun W hW => ?_) ?_
      rotate_left
      · first | (go_simp; done) | (go_simp; with_reducible rfl)
      try simp only [Act.put, List.setIfInBounds_toArray, List.set_cons_zero, List.set_cons_succ]
      refine any_pure 3 (v := ?_) rfl (by kernel_rfl) (by intro _ _ _ h; exact h) (by assumption) (by rfl) (fun W hW => ?_) ?_
      rotate_left
      · refine exec_load_at rowT (.tmp 18) ?_ ⟨b, o + k * 34, none⟩ ?_ x.cs HP.out.2.2.size ?_; exact rfl; exact rfl; exact (fun j v hv => (World.cell?_of_block (by rw [hW])).trans (HP.out.1 j v hv))
      try simp only [Act.put, List.setIfInBounds_toArray, List.set_cons_zero, List.set_cons_succ]
      refine any_pure 4 (v := ?_) rfl (by kernel_rfl) (by intro _ _ _ h; exact h) (by assumption) (by rfl) (fun W hW => ?_) ?_
      rotate_left
      · first | (go_simp; done) | (go_simp; with_reducible rfl)
      try simp only [Act.put, List.setIfInBounds_toArray, List.set_cons_zero, List.set_cons_succ]
      refine any_pure 5 (v := ?_) rfl (by kernel_rfl) (by intro _ _ _ h; exact h) (by assumption) (by rfl) (fun W hW => ?_) ?_
      rotate_left
      · first | (go_simp; done) | (go_simp; with_reducible rfl)
      try simp only [Act.put, List.setIfInBounds_toArray, List.set_cons_zero, List.set_cons_succ]
      refine any_pure 6 (v := ?_) rfl (by kernel_rfl) (by intro _ _ _ h; exact h) (by assumption) (by rfl) (fun W hW => ?_) ?_
      rotate_left
      · first | (go_simp; done) | (go_simp; with_reducible rfl)
      try simp only [Act.put, List.setIfInBounds_toArray, List.set_cons_zero, List.set_cons_succ]
      refine any_pure 7 (v := ?_) rfl (by kernel_rfl) (by intro _ _ _ h; exact h) (by assumption) (by rfl) (fun W hW => ?_) ?_
      rotate_left
      · refine exec_load_at rowE (.tmp 22) ?_ ⟨b2, o2 + k * 34, none⟩ ?_ x.cs HP.out.2.2.size ?_; exact rfl; exact rfl; exact (fun j v hv => (World.cell?_of_block (by rw [hW])).trans (HP.out.2.1 j v hv))
      try simp only [Act.put, List.setIfInBounds_toArray, List.set_cons_zero, List.set_cons_succ]
      refine any_pure 8 (v := ?_) rfl (by kernel_rfl) (by intro _ _ _ h; exact h) (by assumption) (by rfl) (fun W hW => ?_) ?_
      rotate_left
      · refine exec_bin_agg .neq 52 52 (.tmp 19) (.tmp 23) ?_ x.cs x.cs ?_ ?_ (by kernel_rfl) (.bool false) (ev_neq x HP.out.2.2 _); exact rfl; exact rfl; exact rfl
      try simp only [Act.put, List.setIfInBounds_toArray, List.set_cons_zero, List.set_cons_succ]
      refine any_done (by kernel_rfl) ?_
      go_wp2
      go_roundw
      case rel => exact ⟨k + 1, by omega, by go_num, Lib.hid ⟨HW.out.1.drew, HW.out.2⟩⟩
      case measure => simp [intOf]; omega
    · obtain rfl : k = m := by omega
      go_wp2
      go_ret
      exact ⟨rfl, HW.out.1⟩
end Go.Proofs.Ytbjibpghbaemfaa
