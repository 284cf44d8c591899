/-
  Rings of decisions: At out of range, Last, All, List. Condition: none.
-/
import Derived.Test.YtgmgddccdfmiiaaRingVP
import Derived.Test.YtgmgddccdfmiiaaRingIL
import Derived.RangeFuncNested
namespace Go.Proofs.Ytgmgddccdfmiiaa
open Go.RowKit Go.Shelf Go.Fw
set_option maxHeartbeats 2000000
set_option maxRecDepth 100000
set_option linter.unusedVariables false
set_option linter.unusedSimpArgs false
attribute [local go_sem] Oper.semAt_some
theorem vat_neg (v : Option Addr) (i : Int) (w : World) (hi : i < 0) :
    Calls Try.prog 62 #[.pointer v, .int .i64 i] w fun e w' => e = .returned (.tuple #[Adv.zero.val, .bool false]) ∧ Below w.heap.size w w' := by
  have hb : Below w.heap.size w ((w.alloc (.cells (Adv.arr ⟨0, 0, 0, 0, 0⟩) 53)).alloc (.cells (Adv.arr ⟨0, 0, 0, 0, 0⟩) 53)) := sub_alloc (sub_alloc (Below.refl _ _) _) _
  have b4 : Blk ((w.alloc (.cells (Adv.arr ⟨0, 0, 0, 0, 0⟩) 53)).alloc (.cells (Adv.arr ⟨0, 0, 0, 0, 0⟩) 53)) w.heap.size 53 (Adv.arr ⟨0, 0, 0, 0, 0⟩) := (Blk.new_at _ _ _ rfl).alloc _
  unfold Adv.arr at b4 hb
  unfold Adv.val Adv.zero
  obtain ⟨z0, z1, z2, z3, z4⟩ := Blk.five (a := ⟨0, 0, 0, 0, 0⟩) b4
  simp only at z0 z1 z2 z3 z4 hb
  go_enter Try.func62, Try.ntmps62
  go_wp2
  refine bodyPost_ret (v := .tuple #[.agg #[.int .i64 0, .int .i64 0, .int .i64 0, .int .i64 0, .int .i64 0], .bool false]) (by simp [results, Try.results62, go_sem]) rfl ⟨rfl, hb⟩
theorem vat_int (p B : Nat) (sl : Value) (r : Rg Adv) (k : Int) (i : Nat) (w : World) (h : RgV w p B sl r) (hi : i < r.list.length) (hk : k = (i : Int)) :
    Calls Try.prog 62 #[.pointer (some ⟨p, 0, none⟩), .int .i64 k] w fun e w' => e = .returned (.tuple #[r.list[i].val, .bool true]) ∧ Below w.heap.size w w' := by
  subst hk
  exact vat_any p B sl r i w h hi
theorem vlast_none (v : Option Addr) (w : World) (hl : Calls Try.prog 55 #[.pointer v] (w.alloc (.cells (Adv.arr ⟨0, 0, 0, 0, 0⟩) 53)) fun e w' => e = .returned (.int .i64 0) ∧ (w.alloc (.cells (Adv.arr ⟨0, 0, 0, 0, 0⟩) 53)) = w') :
    Calls Try.prog 53 #[.pointer v] w fun e w' => e = .returned (.tuple #[Adv.zero.val, .bool false]) ∧ Below w.heap.size w w' := by
  have hb : Below w.heap.size w (w.alloc (.cells (Adv.arr ⟨0, 0, 0, 0, 0⟩) 53)) := sub_alloc (Below.refl _ _) _
  have b4 : Blk (w.alloc (.cells (Adv.arr ⟨0, 0, 0, 0, 0⟩) 53)) w.heap.size 53 (Adv.arr ⟨0, 0, 0, 0, 0⟩) := Blk.new_at _ _ _ rfl
  have HL := Lib.hid hl
  clear hl
  unfold Adv.arr at b4 hb
  simp only at b4 hb
  go_enter Try.func53, Try.ntmps53
  go_wp2_with fail
  refine HL.out.mono ?_
  rintro e w1 ⟨rfl, rfl⟩
  unfold Adv.arr
  simp only
  go_wp2_with fail
  refine (vat_neg v (-1) _ (by decide)).mono ?_
  rintro e w1 ⟨rfl, hb1⟩
  have b5 := b4.later hb1
  have hb5 := sub_trans hb hb1
  generalize (w.alloc (.cells #[.int .i64 0, .int .i64 0, .int .i64 0, .int .i64 0, .int .i64 0] 53)) = W4 at *
  obtain ⟨f0, f1, f2, f3, f4⟩ := b5.free5
  obtain ⟨g0, g1, g2, g3, g4⟩ := Blk.five (a := ⟨0, 0, 0, 0, 0⟩) b5
  simp only at g0 g1 g2 g3 g4
  have bo9 := b5.set5 ⟨0, 0, 0, 0, 0⟩
  have k9 := Below.set5 hb5 (Nat.le_refl _) 0 ⟨0, 0, 0, 0, 0⟩
  obtain ⟨z0, z1, z2, z3, z4⟩ := bo9.five
  unfold Adv.val Adv.zero
  unfold set5 at z0 z1 z2 z3 z4 k9
  simp only [Nat.zero_add] at z0 z1 z2 z3 z4 k9
  clear bo9 b5 hb5 hb1
  go_wp2
  refine bodyPost_ret (v := .tuple #[.agg #[.int .i64 0, .int .i64 0, .int .i64 0, .int .i64 0, .int .i64 0], .bool false]) (by simp [results, Try.results53, go_sem, z0, z1, z2, z3, z4]) rfl ⟨rfl, k9⟩
theorem vlast_any (p B : Nat) (sl : Value) (r : Rg Adv) (w : World) (h : RgV w p B sl r) (hn : 0 < r.list.length) :
    Calls Try.prog 53 #[.pointer (some ⟨p, 0, none⟩)] w fun e w' => e = .returned (.tuple #[(r.list[r.list.length - 1]'(by omega)).val, .bool true]) ∧ Below w.heap.size w w' := by
  have hb : Below w.heap.size w (w.alloc (.cells (Adv.arr ⟨0, 0, 0, 0, 0⟩) 53)) := sub_alloc (Below.refl _ _) _
  have b4 : Blk (w.alloc (.cells (Adv.arr ⟨0, 0, 0, 0, 0⟩) 53)) w.heap.size 53 (Adv.arr ⟨0, 0, 0, 0, 0⟩) := Blk.new_at _ _ _ rfl
  have hll : r.list.length = r.items.length := Rg.length r
  have hroom := h.ok.most
  have hfits := h.ok.fits
  have HL := Lib.hid (vlen_any p B sl r _ (h.up hb))
  have HA := Lib.hid (fun (i : Int) hi => vat_int p B sl r i (r.list.length - 1) _ (h.up hb) (Nat.sub_lt hn Nat.one_pos) hi)
  unfold Adv.arr at b4 hb
  simp only at b4 hb
  clear h
  generalize hy : r.list[r.list.length - 1]'(Nat.sub_lt hn Nat.one_pos) = y at *
  have hsub : (r.items.length : Int) - 1 = ((r.list.length - 1 : Nat) : Int) := by omega
  have HS := Lib.hid (And.intro hsub hy)
  obtain ⟨y1, y2, y3, y4, y5⟩ := y
  clear hsub hy hll
  go_enter Try.func53, Try.ntmps53
  go_wp2_with fail
  refine HL.out.mono ?_
  rintro e w1 ⟨rfl, rfl⟩
  unfold Adv.arr
  simp only
  go_wp2_with fail
  refine (HA.out _ HS.out.1).mono ?_
  rintro e w1 ⟨rfl, hb1⟩
  unfold Adv.arr at hb1
  simp only at hb1
  have b5 := b4.later hb1
  have hb5 := sub_trans hb hb1
  clear HA HL
  generalize (w.alloc (.cells #[.int .i64 0, .int .i64 0, .int .i64 0, .int .i64 0, .int .i64 0] 53)) = W4 at *
  obtain ⟨f0, f1, f2, f3, f4⟩ := b5.free5
  obtain ⟨g0, g1, g2, g3, g4⟩ := Blk.five (a := ⟨0, 0, 0, 0, 0⟩) b5
  simp only at g0 g1 g2 g3 g4
  have bo9 := b5.set5 ⟨y1, y2, y3, y4, y5⟩
  have k9 := Below.set5 hb5 (Nat.le_refl _) 0 ⟨y1, y2, y3, y4, y5⟩
  obtain ⟨z0, z1, z2, z3, z4⟩ := bo9.five
  unfold Adv.val
  unfold set5 at z0 z1 z2 z3 z4 k9
  simp only [Nat.zero_add] at z0 z1 z2 z3 z4 k9 ⊢
  clear bo9 b5 hb5 hb1
  go_wp2
  refine bodyPost_ret (v := .tuple #[.agg #[.int .i64 y1, .int .i64 y2, .int .i64 y3, .int .i64 y4, .int .i64 y5], .bool true]) (by simp [results, Try.results53, go_sem, z0, z1, z2, z3, z4]) rfl ⟨rfl, k9⟩
end Go.Proofs.Ytgmgddccdfmiiaa
