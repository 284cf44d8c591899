/-
  A ring of decisions that is full: Push. Condition: none.
-/
import Derived.Test.YtgmgddccdfmiiaaRingV
namespace Go.Proofs.Ytgmgddccdfmiiaa
open Go.RowKit Go.Fw
set_option maxHeartbeats 2000000
set_option maxRecDepth 4000
set_option linter.unusedVariables false
set_option linter.unusedSimpArgs false
/-- behind the store of the new one -/
theorem vfull_set {w W5 : World} {p B g N4 c : Nat} {r : Rg Adv} {x1 x2 x3 x4 x5 y1 y2 y3 y4 y5 : Int} (h5 : RgV W5 p B (.slice (some ⟨g, 0, none⟩) r.items.length c) r) (hfl : r.from_ < r.items.length) (hgp : g ≠ p) (hgs : g < w.heap.size) (hb5 : Below w.heap.size w W5)
    (bo5 : Blk W5 (w.heap.size + 1) 53 (Adv.arr ⟨0, 0, 0, 0, 0⟩)) (by5 : Blk W5 N4 53 (Adv.arr ⟨y1, y2, y3, y4, y5⟩)) (hN : w.heap.size + 2 ≤ N4) :
    ∃ W6, (((((W5.setCell ⟨g, r.from_ * 5, none⟩ (.int .i64 x1)).setCell ⟨g, r.from_ * 5 + 1, none⟩ (.int .i64 x2)).setCell ⟨g, r.from_ * 5 + 2, none⟩ (.int .i64 x3)).setCell ⟨g, r.from_ * 5 + 3, none⟩ (.int .i64 x4)).setCell ⟨g, r.from_ * 5 + 4, none⟩ (.int .i64 x5)).drew = W6 ∧
      W6.ownsRow B 53 5 (.slice (some ⟨g, 0, none⟩) r.items.length c) r.items.length (advs (r.items.set r.from_ ⟨x1, x2, x3, x4, x5⟩)) ∧
      Blk W6 p 91 #[.slice (some ⟨g, 0, none⟩) r.items.length c, .int .i64 (r.from_ : Int), .int .i64 (r.room : Int)] ∧ Blk W6 (w.heap.size + 1) 53 (Adv.arr ⟨0, 0, 0, 0, 0⟩) ∧ Blk W6 N4 53 (Adv.arr ⟨y1, y2, y3, y4, y5⟩) ∧
      Keep (fun j => j = p ∨ (Value.slice (some ⟨g, 0, none⟩) r.items.length c).ownBlock = some j) w W6 := by
  have k1 : (set5 W5 g (r.from_ * 5) ⟨x1, x2, x3, x4, x5⟩).ownsRow B 53 5 (.slice (some ⟨g, 0, none⟩) r.items.length c) r.items.length (advs (r.items.set r.from_ ⟨x1, x2, x3, x4, x5⟩)) := own_put5 h5.own rfl hfl rfl ⟨x1, x2, x3, x4, x5⟩
  have k2 := (set5_other W5 g (r.from_ * 5) ⟨x1, x2, x3, x4, x5⟩ p (Ne.symm hgp)).trans h5.blk
  have k3 := (set5_other W5 g (r.from_ * 5) ⟨x1, x2, x3, x4, x5⟩ (w.heap.size + 1) (by omega)).trans bo5
  have k4 := (set5_other W5 g (r.from_ * 5) ⟨x1, x2, x3, x4, x5⟩ N4 (by omega)).trans by5
  have k5 : Keep (fun j => j = p ∨ (Value.slice (some ⟨g, 0, none⟩) r.items.length c).ownBlock = some j) w (set5 W5 g (r.from_ * 5) ⟨x1, x2, x3, x4, x5⟩) := Keep.set5 (Keep.of_below hb5) (.inl (.inr rfl)) (r.from_ * 5) ⟨x1, x2, x3, x4, x5⟩
  have e : (((((W5.setCell ⟨g, r.from_ * 5, none⟩ (.int .i64 x1)).setCell ⟨g, r.from_ * 5 + 1, none⟩ (.int .i64 x2)).setCell ⟨g, r.from_ * 5 + 2, none⟩ (.int .i64 x3)).setCell ⟨g, r.from_ * 5 + 3, none⟩ (.int .i64 x4)).setCell ⟨g, r.from_ * 5 + 4, none⟩ (.int .i64 x5)) = set5 W5 g (r.from_ * 5) ⟨x1, x2, x3, x4, x5⟩ := rfl
  rw [e]
  clear e
  generalize set5 W5 g (r.from_ * 5) ⟨x1, x2, x3, x4, x5⟩ = T at *
  exact ⟨T.drew, rfl, k1, k2, k3, k4, k5.drew⟩
theorem vpush_full (p B : Nat) (sl : Value) (r : Rg Adv) (x : Adv) (w : World) (h : RgV w p B sl r) (hB : B ≤ w.heap.size) (hlt : ¬ r.items.length < r.room) :
    Calls Try.prog 54 #[.pointer (some ⟨p, 0, none⟩), x.val] w fun e w' => e = .returned (.tuple #[(r.list.head?.getD Adv.zero).val, .bool true]) ∧ ∃ sl', RgV w' p B sl' (r.push x) ∧ Keep (fun j => j = p ∨ sl.ownBlock = some j) w w' ∧ (sl'.ownBlock = sl.ownBlock ∨ ∀ k, sl'.ownBlock = some k → w.heap.size ≤ k) := by
  obtain ⟨x1, x2, x3, x4, x5⟩ := x
  have hb : Below w.heap.size w (((w.alloc (.cells (Adv.arr ⟨x1, x2, x3, x4, x5⟩) 53)).alloc (.cells (Adv.arr ⟨0, 0, 0, 0, 0⟩) 53)).alloc (.cells (Adv.arr ⟨0, 0, 0, 0, 0⟩) 53)) := sub_alloc (sub_alloc (sub_alloc (Below.refl _ _) _) _) _
  have bx : Blk (((w.alloc (.cells (Adv.arr ⟨x1, x2, x3, x4, x5⟩) 53)).alloc (.cells (Adv.arr ⟨0, 0, 0, 0, 0⟩) 53)).alloc (.cells (Adv.arr ⟨0, 0, 0, 0, 0⟩) 53)) w.heap.size 53 (Adv.arr ⟨x1, x2, x3, x4, x5⟩) := ((Blk.new_at _ _ _ rfl).alloc _).alloc _
  have bo : Blk (((w.alloc (.cells (Adv.arr ⟨x1, x2, x3, x4, x5⟩) 53)).alloc (.cells (Adv.arr ⟨0, 0, 0, 0, 0⟩) 53)).alloc (.cells (Adv.arr ⟨0, 0, 0, 0, 0⟩) 53)) (w.heap.size + 1) 53 (Adv.arr ⟨0, 0, 0, 0, 0⟩) := (Blk.new_at _ _ _ (by simp)).alloc _
  have bn : Blk (((w.alloc (.cells (Adv.arr ⟨x1, x2, x3, x4, x5⟩) 53)).alloc (.cells (Adv.arr ⟨0, 0, 0, 0, 0⟩) 53)).alloc (.cells (Adv.arr ⟨0, 0, 0, 0, 0⟩) 53)) (w.heap.size + 1 + 1) 53 (Adv.arr ⟨0, 0, 0, 0, 0⟩) := Blk.new_at _ _ _ (by simp)
  have hlp := h.blk.lt
  have hok := h.ok
  have hroom := hok.most
  have hpos := hok.pos
  have h3 := h.up hb
  obtain ⟨A, c, rfl, _, _⟩ := own_form h.own
  have HH := Lib.hid h
  unfold Adv.val Adv.zero
  unfold Adv.arr at hb bx bo bn h3
  clear h
  have hl : r.items.length = r.room := by have := hok.fits; omega
  have hfl : r.from_ < r.items.length := by have := hok.lt; omega
  obtain ⟨hj, hhead⟩ := Rg.head hok hlt
  rw [hhead]
  obtain ⟨g, cc, e1, hgB, hgs, hnc, v0, v1, v2, v3, v4, hfro⟩ := own_at5 HH.out.own rfl hfl
  injection e1 with e11 _ e12
  subst e11 e12
  have hlt2 : ¬ (r.items.length : Int) < (r.room : Int) := by omega
  have hz2 : ((r.room : Int) == 0) = false := by simp; omega
  have hz3 : ¬ r.room = 0 := by omega
  have hmod : (IntKind.i64.wrap ((r.from_ : Int) + 1)).tmod (r.room : Int) = (((r.from_ + 1) % r.room : Nat) : Int) := by
    rw [IntWalk.i64_in _ ⟨by omega, by omega⟩, Int.tmod_eq_emod_of_nonneg (by omega)]
    push_cast
    rfl
  have HF := Lib.hid (And.intro hlt (And.intro hhead hl))
  have hfr := hok.lt
  have hfi : (r.from_ : Int) < (r.items.length : Int) := by omega
  clear hok hlt hl hhead
  generalize r.items[r.from_] = y at *
  obtain ⟨y1, y2, y3, y4, y5⟩ := y
  simp only at v0 v1 v2 v3 v4
  simp only [Option.getD_some]
  go_enter Try.func54, Try.ntmps54
  go_upto_region 2 with fail
  generalize (((w.alloc (.cells #[.int .i64 x1, .int .i64 x2, .int .i64 x3, .int .i64 x4, .int .i64 x5] 53)).alloc (.cells #[.int .i64 0, .int .i64 0, .int .i64 0, .int .i64 0, .int .i64 0] 53)).alloc (.cells #[.int .i64 0, .int .i64 0, .int .i64 0, .int .i64 0, .int .i64 0] 53)) = W3 at *
  have c0 := h3.c0
  have c1 := h3.c1
  have c2 := h3.c2
  go_wp2
  refine still_all (by kernel_rfl) (by kernel_rfl) ?_
  repeat still_step
  refine wpStill_nil ?_
  go_upto_region 7 with fail
  have h4 : RgV W3.drew p B _ r := h3.drew
  have hb4 := hb.drew
  have bx4 := bx.drew
  have bo4 := bo.drew
  clear h3 hb bx bo bn c0 c1 c2
  generalize W3.drew = W4 at *
  have d0 := h4.c0
  have d1 := h4.c1
  have w0 := (Below.cell hb4 (p := ⟨g, r.from_ * 5, none⟩) hgs).trans v0
  have w1 := (Below.cell hb4 (p := ⟨g, r.from_ * 5 + 1, none⟩) hgs).trans v1
  have w2 := (Below.cell hb4 (p := ⟨g, r.from_ * 5 + 2, none⟩) hgs).trans v2
  have w3 := (Below.cell hb4 (p := ⟨g, r.from_ * 5 + 3, none⟩) hgs).trans v3
  have w4 := (Below.cell hb4 (p := ⟨g, r.from_ * 5 + 4, none⟩) hgs).trans v4
  clear v0 v1 v2 v3 v4
  have hlp4 := h4.blk.lt
  have hgs4 : g < W4.heap.size := Nat.lt_of_lt_of_le hgs hb4.size
  have hS0 : Below W4.heap.size W4 W4.drew := (Below.refl _ _).drew
  refine any_start (S := fun W => Below W4.heap.size W4 W) (by kernel_rfl) hS0 ?_
  simp only [List.length_cons, List.length_nil, Nat.reduceAdd, List.size_toArray]
  refine any_pure 0 (v := ?_) rfl (by kernel_rfl) (by intro _ _ _ h; exact h) (by assumption) (by rfl) (fun W hW => ?_) ?_
  rotate_left
  · first | (go_simp; done) | (go_simp; with_reducible rfl)
  try simp only [Act.put, List.setIfInBounds_toArray, List.set_cons_zero, List.set_cons_succ]
  refine any_pure 1 (v := ?_) rfl (by kernel_rfl) (by intro _ _ _ h; exact h) (by assumption) (by rfl) (fun W hW => ?_) ?_
  rotate_left
  · first | (go_simp; done) | (go_simp; with_reducible rfl)
  try simp only [Act.put, List.setIfInBounds_toArray, List.set_cons_zero, List.set_cons_succ]
  refine any_pure 2 (v := ?_) rfl (by kernel_rfl) (by intro _ _ _ h; exact h) (by assumption) (by rfl) (fun W hW => ?_) ?_
  rotate_left
  · first | (go_simp; done) | (go_simp; with_reducible rfl)
  try simp only [Act.put, List.setIfInBounds_toArray, List.set_cons_zero, List.set_cons_succ]
  refine any_pure 3 (v := ?_) rfl (by kernel_rfl) (by intro _ _ _ h; exact h) (by assumption) (by rfl) (fun W hW => ?_) ?_
  rotate_left
  · have e0 := (Below.cell hW (p := ⟨p, 0, none⟩) hlp4).trans d0; first | (go_simp; done) | (go_simp; with_reducible rfl)
  try simp only [Act.put, List.setIfInBounds_toArray, List.set_cons_zero, List.set_cons_succ]
  refine any_pure 4 (v := ?_) rfl (by kernel_rfl) (by intro _ _ _ h; exact h) (by assumption) (by rfl) (fun W hW => ?_) ?_
  rotate_left
  · first | (go_simp; done) | (go_simp; with_reducible rfl)
  try simp only [Act.put, List.setIfInBounds_toArray, List.set_cons_zero, List.set_cons_succ]
  refine any_pure 5 (v := ?_) rfl (by kernel_rfl) (by intro _ _ _ h; exact h) (by assumption) (by rfl) (fun W hW => ?_) ?_
  rotate_left
  · first | (go_simp; done) | (go_simp; with_reducible rfl)
  try simp only [Act.put, List.setIfInBounds_toArray, List.set_cons_zero, List.set_cons_succ]
  refine any_pure 6 (v := ?_) rfl (by kernel_rfl) (by intro _ _ _ h; exact h) (by assumption) (by rfl) (fun W hW => ?_) ?_
  rotate_left
  · first | (go_simp; done) | (go_simp; with_reducible rfl)
  try simp only [Act.put, List.setIfInBounds_toArray, List.set_cons_zero, List.set_cons_succ]
  refine any_pure 7 (v := ?_) rfl (by kernel_rfl) (by intro _ _ _ h; exact h) (by assumption) (by rfl) (fun W hW => ?_) ?_
  rotate_left
  · have e1 := (Below.cell hW (p := ⟨p, 1, none⟩) hlp4).trans d1; first | (go_simp; done) | (go_simp; with_reducible rfl)
  try simp only [Act.put, List.setIfInBounds_toArray, List.set_cons_zero, List.set_cons_succ]
  refine any_pure 8 (v := ?_) rfl (by kernel_rfl) (by intro _ _ _ h; exact h) (by assumption) (by rfl) (fun W hW => ?_) ?_
  rotate_left
  · first | (go_simp; done) | (go_simp; with_reducible rfl)
  try simp only [Act.put, List.setIfInBounds_toArray, List.set_cons_zero, List.set_cons_succ]
  refine any_pure 9 (v := ?_) rfl (by kernel_rfl) (by intro _ _ _ h; exact h) (by assumption) (by rfl) (fun W hW => ?_) ?_
  rotate_left
  · have e0 := (Below.cell hW (p := ⟨g, r.from_ * 5, none⟩) hgs4).trans w0; have e1 := (Below.cell hW (p := ⟨g, r.from_ * 5 + 1, none⟩) hgs4).trans w1; have e2 := (Below.cell hW (p := ⟨g, r.from_ * 5 + 2, none⟩) hgs4).trans w2; have e3 := (Below.cell hW (p := ⟨g, r.from_ * 5 + 3, none⟩) hgs4).trans w3; have e4 := (Below.cell hW (p := ⟨g, r.from_ * 5 + 4, none⟩) hgs4).trans w4; first | (go_simp; done) | (go_simp; with_reducible rfl)
  try simp only [Act.put, List.setIfInBounds_toArray, List.set_cons_zero, List.set_cons_succ]
  refine any_one 10 (by kernel_rfl) rfl (by rfl) (fun K hK => ?_)
  go_simp
  have hS1 : Below W4.heap.size W4 (W4.drew.alloc (.cells #[.int .i64 0, .int .i64 0, .int .i64 0, .int .i64 0, .int .i64 0] 53)) := sub_alloc hS0 _
  refine hK _ _ hS1 ?_
  clear hK
  try simp only [Act.put, List.setIfInBounds_toArray, List.set_cons_zero, List.set_cons_succ]
  refine any_one 11 (by kernel_rfl) rfl (by rfl) (fun K hK => ?_)
  go_simp
  refine hK _ _ (sub_alloc (Below.refl _ _) _).drew ?_
  clear hK
  try simp only [Act.put, List.setIfInBounds_toArray, List.set_cons_zero, List.set_cons_succ]
  refine any_done (by kernel_rfl) ?_
  have hS5 : Below W4.heap.size W4 (W4.alloc (.cells #[.int .i64 y1, .int .i64 y2, .int .i64 y3, .int .i64 y4, .int .i64 y5] 53)).drew := (sub_alloc (Below.refl _ _) _).drew
  have by5 : Blk (W4.alloc (.cells #[.int .i64 y1, .int .i64 y2, .int .i64 y3, .int .i64 y4, .int .i64 y5] 53)).drew W4.heap.size 53 (Adv.arr ⟨y1, y2, y3, y4, y5⟩) := Blk.new_at _ _ _ rfl
  have h5 := h4.up hS5
  have hb5 := sub_trans hb4 hS5
  have bx5 := bx4.later hS5
  have bo5 := bo4.later hS5
  have hWs : W4.heap.size ≥ w.heap.size + 2 := by have := bo4.lt; omega
  generalize hWn : W4.heap.size = N4 at *
  generalize (W4.alloc (.cells #[.int .i64 y1, .int .i64 y2, .int .i64 y3, .int .i64 y4, .int .i64 y5] 53)).drew = W5 at *
  have c0 := h5.c0
  have c1 := h5.c1
  have c2 := h5.c2
  have u0 := (Below.cell hS5 (p := ⟨g, r.from_ * 5, none⟩) hgs4).trans w0
  have u1 := (Below.cell hS5 (p := ⟨g, r.from_ * 5 + 1, none⟩) hgs4).trans w1
  have u2 := (Below.cell hS5 (p := ⟨g, r.from_ * 5 + 2, none⟩) hgs4).trans w2
  have u3 := (Below.cell hS5 (p := ⟨g, r.from_ * 5 + 3, none⟩) hgs4).trans w3
  have u4 := (Below.cell hS5 (p := ⟨g, r.from_ * 5 + 4, none⟩) hgs4).trans w4
  obtain ⟨g2, cc2, e1, _, _, _, _, _, _, _, _, hfz⟩ := own_at5 h5.own rfl hfl
  obtain rfl : g = g2 := by injection e1 with e1 _ _; injection e1 with e1; injection e1
  have q0 := hfz (r.from_ * 5)
  have q1 := hfz (r.from_ * 5 + 1)
  have q2 := hfz (r.from_ * 5 + 2)
  have q3 := hfz (r.from_ * 5 + 3)
  have q4 := hfz (r.from_ * 5 + 4)
  obtain ⟨x6, x7, x8, x9, x10⟩ := Blk.five (a := ⟨x1, x2, x3, x4, x5⟩) bx5
  simp only at x6 x7 x8 x9 x10
  have hgp : g ≠ p := fun e => own_ne h5.own h5.blk (by decide) (by rw [← e]; rfl)
  clear e1 w0 w1 w2 w3 w4 d0 d1
  go_upto_region 8 with fail
  refine still_start 10 (by kernel_rfl) (by kernel_rfl) ?_
  simp only [List.take_succ_cons, List.take_zero, List.drop_succ_cons, List.drop_zero]
  repeat still_step
  refine wpStill_nil ?_
  go_upto_region 9 with fail
  obtain ⟨W6, e6, hown6, hP6, bo6, by6, hK6⟩ := vfull_set (x1 := x1) (x2 := x2) (x3 := x3) (x4 := x4) (x5 := x5) h5 hfl hgp hgs hb5 bo5 by5 hWs
  rw [e6]
  clear e6 c0 c1 c2 u0 u1 u2 u3 u4 q0 q1 q2 q3 q4 x6 x7 x8 x9 x10 h5 hfz
  have c1 := hP6.cell 1
  have c2 := hP6.cell 2
  have f1 := hP6.frozen 1
  simp at c1 c2
  refine still_start 13 (by kernel_rfl) (by kernel_rfl) ?_
  simp only [List.take_succ_cons, List.take_zero, List.drop_succ_cons, List.drop_zero]
  repeat still_step
  refine wpStill_nil ?_
  go_upto_region 10 with fail
  have b7 : Blk (W6.setCell ⟨p, 1, none⟩ (.int .i64 (((r.from_ : Int) + 1) % (r.room : Int)))) p 91 #[.slice (some ⟨g, 0, none⟩) r.items.length c, .int .i64 (((r.from_ : Int) + 1) % (r.room : Int)), .int .i64 (r.room : Int)] := hP6.set_ 1 _
  have o7 := own_set (p := ⟨p, 1, none⟩) hown6 (own_ne hown6 hP6 (by decide)) (.int .i64 (((r.from_ : Int) + 1) % (r.room : Int)))
  have bo7 := bo6.far (p := ⟨p, 1, none⟩) (by show w.heap.size + 1 ≠ p; omega) (.int .i64 (((r.from_ : Int) + 1) % (r.room : Int)))
  have by7 := by6.far (p := ⟨p, 1, none⟩) (by show N4 ≠ p; omega) (.int .i64 (((r.from_ : Int) + 1) % (r.room : Int)))
  have k7 := hK6.setCell (p := ⟨p, 1, none⟩) (.inl (.inl rfl)) (.int .i64 (((r.from_ : Int) + 1) % (r.room : Int)))
  clear hP6 hown6 bo6 by6 hK6 c1 c2 f1
  generalize (W6.setCell ⟨p, 1, none⟩ (.int .i64 (((r.from_ : Int) + 1) % (r.room : Int)))) = W7 at *
  have b8 : Blk W7.drew p _ _ := b7
  have o8 : W7.drew.ownsRow B _ 5 _ _ _ := o7
  have bo8 : Blk W7.drew (w.heap.size + 1) _ _ := bo7
  have by8 : Blk W7.drew N4 _ _ := by7
  have k8 := k7.drew
  clear b7 o7 bo7 by7 k7
  generalize W7.drew = W8 at *
  obtain ⟨y6, y7, y8, y9, y10⟩ := by8.five
  obtain ⟨f0, f1, f2, f3, f4⟩ := bo8.free5
  obtain ⟨o0, o1, o2, o3, o4⟩ := bo8.five
  simp only at y6 y7 y8 y9 y10 o0 o1 o2 o3 o4
  have bo9 := bo8.set5 ⟨y1, y2, y3, y4, y5⟩
  have b9 := (set5_other W8 (w.heap.size + 1) 0 ⟨y1, y2, y3, y4, y5⟩ p (by omega)).trans b8
  have o9 := own_set5 o8 (g := w.heap.size + 1) (fun e => by simp [Value.ownBlock] at e; omega) 0 ⟨y1, y2, y3, y4, y5⟩
  have k9 := k8.set5 (g := w.heap.size + 1) (.inr (Nat.le_succ _)) 0 ⟨y1, y2, y3, y4, y5⟩
  obtain ⟨z0, z1, z2, z3, z4⟩ := bo9.five
  unfold set5 at z0 z1 z2 z3 z4 b9 o9 k9
  simp only [Nat.zero_add] at z0 z1 z2 z3 z4 b9 o9 k9
  clear bo9
  go_wp2
  have hq := Rg.push_ok HH.out.ok ⟨x1, x2, x3, x4, x5⟩
  have hpe : r.push ⟨x1, x2, x3, x4, x5⟩ = ⟨r.items.set r.from_ ⟨x1, x2, x3, x4, x5⟩, (r.from_ + 1) % r.room, r.room⟩ := by unfold Rg.push; rw [if_neg HF.out.1]
  rw [hpe] at hq ⊢
  have hcm : (((r.from_ : Int) + 1) % (r.room : Int)) = (((r.from_ + 1) % r.room : Nat) : Int) := by push_cast; rfl
  rw [hcm] at b9
  refine bodyPost_ret (v := .tuple #[.agg #[.int .i64 y1, .int .i64 y2, .int .i64 y3, .int .i64 y4, .int .i64 y5], .bool true]) (by simp [results, Try.results54, go_sem, z0, z1, z2, z3, z4]) rfl ?_
  have hR9 : RgV _ p B (.slice (some ⟨g, 0, none⟩) r.items.length c) ⟨r.items.set r.from_ ⟨x1, x2, x3, x4, x5⟩, (r.from_ + 1) % r.room, r.room⟩ := ⟨b9, by simpa using o9, hq⟩
  exact ⟨rfl, _, hR9, k9, .inl rfl⟩
end Go.Proofs.Ytgmgddccdfmiiaa
