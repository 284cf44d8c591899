/-
  The walk of TraceFinds, whatever the input. Condition: none.
-/
import Derived.Test.YtbjibpghbaemfaaFind2
namespace Go.Proofs.Ytbjibpghbaemfaa
open Go.RowKit Go.Fw Go.Shelf
set_option maxHeartbeats 4000000
set_option maxRecDepth 4000
set_option linter.unusedVariables false
set_option linter.unusedSimpArgs false
theorem tfinds_long (l : List Ev) (A : Option Addr) (c : Nat) (t nt u : Int) (W : World) (hl : 60 < l.length) (hm : l.length ≤ maxLen) :
    Calls Try.prog 4 #[.slice A l.length c, .int .i64 t, .int .i64 nt, .int .i64 u] W fun e w' => e = .returned (.bool true) ∧ Below W.heap.size W w' := by
  unfold maxLen at hm
  go_enter Try.func4, Try.ntmps4
  go_wp2_with fail
  refine (tawake_any _).mono ?_
  rintro e w1 ⟨rfl, b1⟩
  go_wp2
  go_ret
  exact ⟨rfl, b1⟩
theorem tfinds_few (l : List Ev) (A : Option Addr) (c : Nat) (t nt u : Int) (W0 : World) (ho : ∀ e ∈ l, EvOk e) (hR : Reads W0 W0.heap.size 34 A l.length (evs l)) (hl : l.length ≤ 60) :
    Calls Try.prog 4 #[.slice A l.length c, .int .i64 t, .int .i64 nt, .int .i64 u] W0 fun e w' => e = .returned (.bool true) ∧ Below W0.heap.size W0 w' := by
  have HO := Lib.hid ho
  clear ho
  go_enter Try.func4, Try.ntmps4
  go_wp2_with fail
  refine (tawake_any _).mono ?_
  rintro e w1 ⟨rfl, b1⟩
  have hR1 := hR.up b1
  have hlen : ¬ 60 < l.length := by omega
  clear hR
  go_wp2_with fail
  refine (events_any l A c _ _ HO.out hR1 (by omega)).mono ?_
  rintro e w2 ⟨v2, rfl, hm2⟩
  obtain ⟨A2, c2, rfl, _, _, r2⟩ := hm2.form
  have b2 := sub_trans b1 hm2.below
  have hR2 := hR1.up hm2.below
  clear hm2 b1 hR1
  go_wp2_with fail
  refine (find_any l A2 c2 _ t nt _ HO.out r2 (by omega)).mono ?_
  rintro e w3 ⟨rfl, b3⟩
  have b4 := sub_trans b2 b3
  have hR3 := hR2.up b3
  clear b2 b3 r2 hR2
  go_wp2_with fail
  refine (events_any l A c _ _ HO.out hR3 (by omega)).mono ?_
  rintro e w5 ⟨v5, rfl, hm5⟩
  obtain ⟨A5, c5, rfl, _, _, r5⟩ := hm5.form
  have b5 := sub_trans b4 hm5.below
  have hR5 := hR3.up hm5.below
  clear hm5 b4 hR3
  go_wp2_with fail
  refine (find_any l A5 c5 _ u nt _ HO.out r5 (by omega)).mono ?_
  rintro e w6 ⟨rfl, b6⟩
  have b7 := sub_trans b5 b6
  have hR6 := hR5.up b6
  clear b5 b6 r5 hR5
  have h1 := fun W hR => last_any l A c l.length 1 t nt W HO.out hR (by omega)
  have h2 := fun W hR => last_any l A c l.length 2 t nt W HO.out hR (by omega)
  have h3 := fun W hR => last_any l A c l.length 3 t nt W HO.out hR (by omega)
  unfold spanA
  generalize lastI l 1 t nt l.length = x1 at *
  generalize lastI l 2 t nt l.length = x2 at *
  generalize lastI l 3 t nt l.length = x3 at *
  generalize lastI l 1 u nt l.length = y1 at *
  generalize lastI l 2 u nt l.length = y2 at *
  generalize lastI l 3 u nt l.length = y3 at *
  have HL := Lib.hid (And.intro h1 (And.intro h2 h3))
  clear h1 h2 h3
  have e1 : (x1 != x1) = false := by simp
  have e2 : (x2 != x2) = false := by simp
  have e3 : (x3 != x3) = false := by simp
  have B9 := (Blk.new_at w6 29 #[.int .i64 x1, .int .i64 x2, .int .i64 x3] rfl).alloc (.cells #[.int .i64 y1, .int .i64 y2, .int .i64 y3] 29)
  have B10 := Blk.new_at (w6.alloc (.cells #[.int .i64 x1, .int .i64 x2, .int .i64 x3] 29)) 29 #[.int .i64 y1, .int .i64 y2, .int .i64 y3] (g := w6.heap.size + 1) (by simp)
  have b8 : Below W0.heap.size W0 ((w6.alloc (.cells #[.int .i64 x1, .int .i64 x2, .int .i64 x3] 29)).alloc (.cells #[.int .i64 y1, .int .i64 y2, .int .i64 y3] 29)) := sub_alloc (sub_alloc b7 _) _
  have hR8 := hR6.up (sub_alloc (sub_alloc (Below.refl _ _) (.cells #[.int .i64 x1, .int .i64 x2, .int .i64 x3] 29)) (.cells #[.int .i64 y1, .int .i64 y2, .int .i64 y3] 29))
  have HB := Lib.hid (And.intro B9 (And.intro B10 (And.intro b8 hR8)))
  clear B9 B10 b8 hR8 b7 hR6
  go_upto_region 6 with fail
  generalize ((w6.alloc (.cells #[.int .i64 x1, .int .i64 x2, .int .i64 x3] 29)).alloc (.cells #[.int .i64 y1, .int .i64 y2, .int .i64 y3] 29)) = w8 at *
  obtain ⟨B9, B10, b8, hR8⟩ := HB.out
  have g0 := B9.cell 0
  have g1 := B9.cell 1
  have g2 := B9.cell 2
  have k0 := B10.cell 0
  have k1 := B10.cell 1
  have k2 := B10.cell 2
  simp at g0 g1 g2 k0 k1 k2
  have l9 := B9.lt
  have l10 := B10.lt
  have hS0 : Below w8.heap.size w8 w8.drew := (Below.refl _ _).drew
  refine any_start (S := fun W => Below w8.heap.size w8 W) (by kernel_rfl) hS0 ?_
  simp only [List.length_cons, List.length_nil, Nat.reduceAdd, List.size_toArray]
  refine any_pure 0 (v := ?_) rfl (by kernel_rfl) (by intro _ _ _ h; exact h) (by assumption) (by rfl) (fun W hW => ?_) ?_
  rotate_left
  · first | (go_simp; done) | (go_simp; with_reducible rfl)
  try simp only [Act.put, List.setIfInBounds_toArray, List.set_cons_zero, List.set_cons_succ]
  refine any_pure 1 (v := ?_) rfl (by kernel_rfl) (by intro _ _ _ h; exact h) (by assumption) (by rfl) (fun W hW => ?_) ?_
  rotate_left
  · have e0 := (Below.cell hW (p := ⟨w6.heap.size, 0, none⟩) l9).trans g0; first | (go_simp; done) | (go_simp; with_reducible rfl)
  try simp only [Act.put, List.setIfInBounds_toArray, List.set_cons_zero, List.set_cons_succ]
  refine any_pure 2 (v := ?_) rfl (by kernel_rfl) (by intro _ _ _ h; exact h) (by assumption) (by rfl) (fun W hW => ?_) ?_
  rotate_left
  · first | (go_simp; done) | (go_simp; with_reducible rfl)
  try simp only [Act.put, List.setIfInBounds_toArray, List.set_cons_zero, List.set_cons_succ]
  refine any_pure 3 (v := ?_) rfl (by kernel_rfl) (by intro _ _ _ h; exact h) (by assumption) (by rfl) (fun W hW => ?_) ?_
  rotate_left
  · first | (go_simp; done) | (go_simp; with_reducible rfl)
  try simp only [Act.put, List.setIfInBounds_toArray, List.set_cons_zero, List.set_cons_succ]
  refine any_pure 4 (v := ?_) rfl (by kernel_rfl) (by intro _ _ _ h; exact h) (by assumption) (by rfl) (fun W hW => ?_) ?_
  rotate_left
  · first | (go_simp; done) | (go_simp; with_reducible rfl)
  try simp only [Act.put, List.setIfInBounds_toArray, List.set_cons_zero, List.set_cons_succ]
  refine any_call 5 12 #[.slice A l.length c, .int .i64 1, .int .i64 t, .int .i64 nt] (.int .i64 x1) rfl (by kernel_rfl) (by intro _ _ _ h; exact h) (by assumption) (by rfl) (fun _ => by go_simp) (fun W hW => ?_) ?_
  · exact HL.out.1 W (hR8.up hW)
  try simp only [Act.put, List.setIfInBounds_toArray, List.set_cons_zero, List.set_cons_succ]
  refine any_pure 6 (v := ?_) rfl (by kernel_rfl) (by intro _ _ _ h; exact h) (by assumption) (by rfl) (fun W hW => ?_) ?_
  rotate_left
  · first | (go_simp; done) | (go_simp; with_reducible rfl)
  try simp only [Act.put, List.setIfInBounds_toArray, List.set_cons_zero, List.set_cons_succ]
  refine any_pure 7 (v := ?_) rfl (by kernel_rfl) (by intro _ _ _ h; exact h) (by assumption) (by rfl) (fun W hW => ?_) ?_
  rotate_left
  · first | (go_simp; done) | (go_simp; with_reducible rfl)
  try simp only [Act.put, List.setIfInBounds_toArray, List.set_cons_zero, List.set_cons_succ]
  refine any_pure 8 (v := ?_) rfl (by kernel_rfl) (by intro _ _ _ h; exact h) (by assumption) (by rfl) (fun W hW => ?_) ?_
  rotate_left
  · first | (go_simp; done) | (go_simp; with_reducible rfl)
  try simp only [Act.put, List.setIfInBounds_toArray, List.set_cons_zero, List.set_cons_succ]
  refine any_pure 9 (v := ?_) rfl (by kernel_rfl) (by intro _ _ _ h; exact h) (by assumption) (by rfl) (fun W hW => ?_) ?_
  rotate_left
  · have e0 := (Below.cell hW (p := ⟨w6.heap.size, 1, none⟩) l9).trans g1; first | (go_simp; done) | (go_simp; with_reducible rfl)
  try simp only [Act.put, List.setIfInBounds_toArray, List.set_cons_zero, List.set_cons_succ]
  refine any_pure 10 (v := ?_) rfl (by kernel_rfl) (by intro _ _ _ h; exact h) (by assumption) (by rfl) (fun W hW => ?_) ?_
  rotate_left
  · first | (go_simp; done) | (go_simp; with_reducible rfl)
  try simp only [Act.put, List.setIfInBounds_toArray, List.set_cons_zero, List.set_cons_succ]
  refine any_pure 11 (v := ?_) rfl (by kernel_rfl) (by intro _ _ _ h; exact h) (by assumption) (by rfl) (fun W hW => ?_) ?_
  rotate_left
  · first | (go_simp; done) | (go_simp; with_reducible rfl)
  try simp only [Act.put, List.setIfInBounds_toArray, List.set_cons_zero, List.set_cons_succ]
  refine any_pure 12 (v := ?_) rfl (by kernel_rfl) (by intro _ _ _ h; exact h) (by assumption) (by rfl) (fun W hW => ?_) ?_
  rotate_left
  · first | (go_simp; done) | (go_simp; with_reducible rfl)
  try simp only [Act.put, List.setIfInBounds_toArray, List.set_cons_zero, List.set_cons_succ]
  refine any_call 13 12 #[.slice A l.length c, .int .i64 2, .int .i64 t, .int .i64 nt] (.int .i64 x2) rfl (by kernel_rfl) (by intro _ _ _ h; exact h) (by assumption) (by rfl) (fun _ => by go_simp) (fun W hW => ?_) ?_
  · exact HL.out.2.1 W (hR8.up hW)
  try simp only [Act.put, List.setIfInBounds_toArray, List.set_cons_zero, List.set_cons_succ]
  refine any_pure 14 (v := ?_) rfl (by kernel_rfl) (by intro _ _ _ h; exact h) (by assumption) (by rfl) (fun W hW => ?_) ?_
  rotate_left
  · first | (go_simp; done) | (go_simp; with_reducible rfl)
  try simp only [Act.put, List.setIfInBounds_toArray, List.set_cons_zero, List.set_cons_succ]
  refine any_pure 15 (v := ?_) rfl (by kernel_rfl) (by intro _ _ _ h; exact h) (by assumption) (by rfl) (fun W hW => ?_) ?_
  rotate_left
  · first | (go_simp; done) | (go_simp; with_reducible rfl)
  try simp only [Act.put, List.setIfInBounds_toArray, List.set_cons_zero, List.set_cons_succ]
  refine any_pure 16 (v := ?_) rfl (by kernel_rfl) (by intro _ _ _ h; exact h) (by assumption) (by rfl) (fun W hW => ?_) ?_
  rotate_left
  · first | (go_simp; done) | (go_simp; with_reducible rfl)
  try simp only [Act.put, List.setIfInBounds_toArray, List.set_cons_zero, List.set_cons_succ]
  refine any_pure 17 (v := ?_) rfl (by kernel_rfl) (by intro _ _ _ h; exact h) (by assumption) (by rfl) (fun W hW => ?_) ?_
  rotate_left
  · first | (go_simp; done) | (go_simp; with_reducible rfl)
  try simp only [Act.put, List.setIfInBounds_toArray, List.set_cons_zero, List.set_cons_succ]
  refine any_pure 18 (v := ?_) rfl (by kernel_rfl) (by intro _ _ _ h; exact h) (by assumption) (by rfl) (fun W hW => ?_) ?_
  rotate_left
  · have e0 := (Below.cell hW (p := ⟨w6.heap.size, 2, none⟩) l9).trans g2; first | (go_simp; done) | (go_simp; with_reducible rfl)
  try simp only [Act.put, List.setIfInBounds_toArray, List.set_cons_zero, List.set_cons_succ]
  refine any_pure 19 (v := ?_) rfl (by kernel_rfl) (by intro _ _ _ h; exact h) (by assumption) (by rfl) (fun W hW => ?_) ?_
  rotate_left
  · first | (go_simp; done) | (go_simp; with_reducible rfl)
  try simp only [Act.put, List.setIfInBounds_toArray, List.set_cons_zero, List.set_cons_succ]
  refine any_pure 20 (v := ?_) rfl (by kernel_rfl) (by intro _ _ _ h; exact h) (by assumption) (by rfl) (fun W hW => ?_) ?_
  rotate_left
  · first | (go_simp; done) | (go_simp; with_reducible rfl)
  try simp only [Act.put, List.setIfInBounds_toArray, List.set_cons_zero, List.set_cons_succ]
  refine any_pure 21 (v := ?_) rfl (by kernel_rfl) (by intro _ _ _ h; exact h) (by assumption) (by rfl) (fun W hW => ?_) ?_
  rotate_left
  · first | (go_simp; done) | (go_simp; with_reducible rfl)
  try simp only [Act.put, List.setIfInBounds_toArray, List.set_cons_zero, List.set_cons_succ]
  refine any_call 22 12 #[.slice A l.length c, .int .i64 3, .int .i64 t, .int .i64 nt] (.int .i64 x3) rfl (by kernel_rfl) (by intro _ _ _ h; exact h) (by assumption) (by rfl) (fun _ => by go_simp) (fun W hW => ?_) ?_
  · exact HL.out.2.2 W (hR8.up hW)
  try simp only [Act.put, List.setIfInBounds_toArray, List.set_cons_zero, List.set_cons_succ]
  refine any_pure 23 (v := ?_) rfl (by kernel_rfl) (by intro _ _ _ h; exact h) (by assumption) (by rfl) (fun W hW => ?_) ?_
  rotate_left
  · first | (go_simp; done) | (go_simp; with_reducible rfl)
  try simp only [Act.put, List.setIfInBounds_toArray, List.set_cons_zero, List.set_cons_succ]
  refine any_pure 24 (v := ?_) rfl (by kernel_rfl) (by intro _ _ _ h; exact h) (by assumption) (by rfl) (fun W hW => ?_) ?_
  rotate_left
  · first | (go_simp; done) | (go_simp; with_reducible rfl)
  try simp only [Act.put, List.setIfInBounds_toArray, List.set_cons_zero, List.set_cons_succ]
  refine any_done (by kernel_rfl) ?_
  go_upto_region 8 with fail
  have hS1 : Below w8.heap.size w8 w8.drew.drew := (Below.refl _ _).drew.drew
  have HA := Lib.hid (fun W => ahead_any x1 x2 x3 y1 y2 y3 W)
  have hfin : ∀ W, Below w8.heap.size w8 W → Below W0.heap.size W0 W := fun W h => sub_trans b8 h
  have HF := Lib.hid hfin
  clear hfin b8 hR8 B9 B10 HB HL
  by_cases h1 : 0 ≤ x3
  · by_cases h2 : 0 ≤ y1
    · have d1 : decide (0 ≤ x3) = true := by simpa using h1
      have d2 : decide (0 ≤ y1) = true := by simpa using h2
      refine any_start (S := fun W => Below w8.heap.size w8 W) (by kernel_rfl) hS1 ?_
      simp only [List.length_cons, List.length_nil, Nat.reduceAdd, List.size_toArray]
      refine any_pure 0 (v := ?_) rfl (by kernel_rfl) (by intro _ _ _ h; exact h) (by assumption) (by rfl) (fun W hW => ?_) ?_
      rotate_left
      · have e0 := (Below.cell hW (p := ⟨w6.heap.size, 0, none⟩) l9).trans g0; have e1 := (Below.cell hW (p := ⟨w6.heap.size, 1, none⟩) l9).trans g1; have e2 := (Below.cell hW (p := ⟨w6.heap.size, 2, none⟩) l9).trans g2; first | (go_simp; done) | (go_simp; with_reducible rfl)
      try simp only [Act.put, List.setIfInBounds_toArray, List.set_cons_zero, List.set_cons_succ]
      refine any_pure 1 (v := ?_) rfl (by kernel_rfl) (by intro _ _ _ h; exact h) (by assumption) (by rfl) (fun W hW => ?_) ?_
      rotate_left
      · have e0 := (Below.cell hW (p := ⟨w6.heap.size + 1, 0, none⟩) l10).trans k0; have e1 := (Below.cell hW (p := ⟨w6.heap.size + 1, 1, none⟩) l10).trans k1; have e2 := (Below.cell hW (p := ⟨w6.heap.size + 1, 2, none⟩) l10).trans k2; first | (go_simp; done) | (go_simp; with_reducible rfl)
      try simp only [Act.put, List.setIfInBounds_toArray, List.set_cons_zero, List.set_cons_succ]
      refine any_pure 3 (v := ?_) rfl (by kernel_rfl) (by intro _ _ _ h; exact h) (by assumption) (by rfl) (fun W hW => ?_) ?_
      rotate_left
      · first | (go_simp; done) | (go_simp; with_reducible rfl)
      try simp only [Act.put, List.setIfInBounds_toArray, List.set_cons_zero, List.set_cons_succ]
      refine any_pure 4 (v := ?_) rfl (by kernel_rfl) (by intro _ _ _ h; exact h) (by assumption) (by rfl) (fun W hW => ?_) ?_
      rotate_left
      · have e0 := (Below.cell hW (p := ⟨w6.heap.size, 0, none⟩) l9).trans g0; have e1 := (Below.cell hW (p := ⟨w6.heap.size, 1, none⟩) l9).trans g1; have e2 := (Below.cell hW (p := ⟨w6.heap.size, 2, none⟩) l9).trans g2; first | (go_simp; done) | (go_simp; with_reducible rfl)
      try simp only [Act.put, List.setIfInBounds_toArray, List.set_cons_zero, List.set_cons_succ]
      refine any_pure 5 (v := ?_) rfl (by kernel_rfl) (by intro _ _ _ h; exact h) (by assumption) (by rfl) (fun W hW => ?_) ?_
      rotate_left
      · first | (go_simp; done) | (go_simp; with_reducible rfl)
      try simp only [Act.put, List.setIfInBounds_toArray, List.set_cons_zero, List.set_cons_succ]
      refine any_one 2 (by kernel_rfl) rfl (by rfl) (fun K hK => ?_)
      go_simp
      refine (HA.out _).mono ?_
      rintro e9 w9 ⟨rfl, b9⟩
      have hS9 := sub_trans hS1 b9
      refine hK _ _ hS9 ?_
      clear hK b9
      try simp only [Act.put, List.setIfInBounds_toArray, List.set_cons_zero, List.set_cons_succ]
      refine any_pure 6 (v := ?_) rfl (by kernel_rfl) (by intro _ _ _ h; exact h) (by assumption) (by rfl) (fun W hW => ?_) ?_
      rotate_left
      · first | (go_simp; done) | (go_simp; with_reducible rfl)
      try simp only [Act.put, List.setIfInBounds_toArray, List.set_cons_zero, List.set_cons_succ]
      refine any_pure 7 (v := ?_) rfl (by kernel_rfl) (by intro _ _ _ h; exact h) (by assumption) (by rfl) (fun W hW => ?_) ?_
      rotate_left
      · first | (go_simp; done) | (go_simp; with_reducible rfl)
      try simp only [Act.put, List.setIfInBounds_toArray, List.set_cons_zero, List.set_cons_succ]
      refine any_pure 8 (v := ?_) rfl (by kernel_rfl) (by intro _ _ _ h; exact h) (by assumption) (by rfl) (fun W hW => ?_) ?_
      rotate_left
      · have e0 := (Below.cell hW (p := ⟨w6.heap.size + 1, 0, none⟩) l10).trans k0; have e1 := (Below.cell hW (p := ⟨w6.heap.size + 1, 1, none⟩) l10).trans k1; have e2 := (Below.cell hW (p := ⟨w6.heap.size + 1, 2, none⟩) l10).trans k2; first | (go_simp; done) | (go_simp; with_reducible rfl)
      try simp only [Act.put, List.setIfInBounds_toArray, List.set_cons_zero, List.set_cons_succ]
      refine any_pure 9 (v := ?_) rfl (by kernel_rfl) (by intro _ _ _ h; exact h) (by assumption) (by rfl) (fun W hW => ?_) ?_
      rotate_left
      · first | (go_simp; done) | (go_simp; with_reducible rfl)
      try simp only [Act.put, List.setIfInBounds_toArray, List.set_cons_zero, List.set_cons_succ]
      refine any_pure 10 (v := ?_) rfl (by kernel_rfl) (by intro _ _ _ h; exact h) (by assumption) (by rfl) (fun W hW => ?_) ?_
      rotate_left
      · first | (go_simp; done) | (go_simp; with_reducible rfl)
      try simp only [Act.put, List.setIfInBounds_toArray, List.set_cons_zero, List.set_cons_succ]
      refine any_pure 11 (v := ?_) rfl (by kernel_rfl) (by intro _ _ _ h; exact h) (by assumption) (by rfl) (fun W hW => ?_) ?_
      rotate_left
      · first | (go_simp; done) | (go_simp; with_reducible rfl)
      try simp only [Act.put, List.setIfInBounds_toArray, List.set_cons_zero, List.set_cons_succ]
      refine any_pure 12 (v := ?_) rfl (by kernel_rfl) (by intro _ _ _ h; exact h) (by assumption) (by rfl) (fun W hW => ?_) ?_
      rotate_left
      · first | (go_simp; done) | (go_simp; with_reducible rfl)
      try simp only [Act.put, List.setIfInBounds_toArray, List.set_cons_zero, List.set_cons_succ]
      refine any_pure 13 (v := ?_) rfl (by kernel_rfl) (by intro _ _ _ h; exact h) (by assumption) (by rfl) (fun W hW => ?_) ?_
      rotate_left
      · have e0 := (Below.cell hW (p := ⟨w6.heap.size, 0, none⟩) l9).trans g0; have e1 := (Below.cell hW (p := ⟨w6.heap.size, 1, none⟩) l9).trans g1; have e2 := (Below.cell hW (p := ⟨w6.heap.size, 2, none⟩) l9).trans g2; first | (go_simp; done) | (go_simp; with_reducible rfl)
      try simp only [Act.put, List.setIfInBounds_toArray, List.set_cons_zero, List.set_cons_succ]
      refine any_pure 14 (v := ?_) rfl (by kernel_rfl) (by intro _ _ _ h; exact h) (by assumption) (by rfl) (fun W hW => ?_) ?_
      rotate_left
      · first | (go_simp; done) | (go_simp; with_reducible rfl)
      try simp only [Act.put, List.setIfInBounds_toArray, List.set_cons_zero, List.set_cons_succ]
      refine any_pure 15 (v := ?_) rfl (by kernel_rfl) (by intro _ _ _ h; exact h) (by assumption) (by rfl) (fun W hW => ?_) ?_
      rotate_left
      · have e0 := (Below.cell hW (p := ⟨w6.heap.size + 1, 0, none⟩) l10).trans k0; have e1 := (Below.cell hW (p := ⟨w6.heap.size + 1, 1, none⟩) l10).trans k1; have e2 := (Below.cell hW (p := ⟨w6.heap.size + 1, 2, none⟩) l10).trans k2; first | (go_simp; done) | (go_simp; with_reducible rfl)
      try simp only [Act.put, List.setIfInBounds_toArray, List.set_cons_zero, List.set_cons_succ]
      refine any_pure 16 (v := ?_) rfl (by kernel_rfl) (by intro _ _ _ h; exact h) (by assumption) (by rfl) (fun W hW => ?_) ?_
      rotate_left
      · first | (go_simp; done) | (go_simp; with_reducible rfl)
      try simp only [Act.put, List.setIfInBounds_toArray, List.set_cons_zero, List.set_cons_succ]
      refine any_pure 17 (v := ?_) rfl (by kernel_rfl) (by intro _ _ _ h; exact h) (by assumption) (by rfl) (fun W hW => ?_) ?_
      rotate_left
      · first | (go_simp; done) | (go_simp; with_reducible rfl)
      try simp only [Act.put, List.setIfInBounds_toArray, List.set_cons_zero, List.set_cons_succ]
      refine any_pure 18 (v := ?_) rfl (by kernel_rfl) (by intro _ _ _ h; exact h) (by assumption) (by rfl) (fun W hW => ?_) ?_
      rotate_left
      · first | (go_simp; done) | (go_simp; with_reducible rfl)
      try simp only [Act.put, List.setIfInBounds_toArray, List.set_cons_zero, List.set_cons_succ]
      refine any_pure 19 (v := ?_) rfl (by kernel_rfl) (by intro _ _ _ h; exact h) (by assumption) (by rfl) (fun W hW => ?_) ?_
      rotate_left
      · first | (go_simp; done) | (go_simp; with_reducible rfl)
      try simp only [Act.put, List.setIfInBounds_toArray, List.set_cons_zero, List.set_cons_succ]
      refine any_done (by kernel_rfl) ?_
      go_wp2
      go_ret
      exact ⟨by first | rfl | simp [d1, d2], HF.out _ hS9⟩
    · have d1 : decide (0 ≤ x3) = true := by simpa using h1
      have d2 : decide (0 ≤ y1) = false := by simpa using h2
      have h2' : y1 < 0 := by omega
      refine any_start (S := fun W => Below w8.heap.size w8 W) (by kernel_rfl) hS1 ?_
      simp only [List.length_cons, List.length_nil, Nat.reduceAdd, List.size_toArray]
      refine any_pure 0 (v := ?_) rfl (by kernel_rfl) (by intro _ _ _ h; exact h) (by assumption) (by rfl) (fun W hW => ?_) ?_
      rotate_left
      · have e0 := (Below.cell hW (p := ⟨w6.heap.size, 0, none⟩) l9).trans g0; have e1 := (Below.cell hW (p := ⟨w6.heap.size, 1, none⟩) l9).trans g1; have e2 := (Below.cell hW (p := ⟨w6.heap.size, 2, none⟩) l9).trans g2; first | (go_simp; done) | (go_simp; with_reducible rfl)
      try simp only [Act.put, List.setIfInBounds_toArray, List.set_cons_zero, List.set_cons_succ]
      refine any_pure 1 (v := ?_) rfl (by kernel_rfl) (by intro _ _ _ h; exact h) (by assumption) (by rfl) (fun W hW => ?_) ?_
      rotate_left
      · have e0 := (Below.cell hW (p := ⟨w6.heap.size + 1, 0, none⟩) l10).trans k0; have e1 := (Below.cell hW (p := ⟨w6.heap.size + 1, 1, none⟩) l10).trans k1; have e2 := (Below.cell hW (p := ⟨w6.heap.size + 1, 2, none⟩) l10).trans k2; first | (go_simp; done) | (go_simp; with_reducible rfl)
      try simp only [Act.put, List.setIfInBounds_toArray, List.set_cons_zero, List.set_cons_succ]
      refine any_pure 3 (v := ?_) rfl (by kernel_rfl) (by intro _ _ _ h; exact h) (by assumption) (by rfl) (fun W hW => ?_) ?_
      rotate_left
      · first | (go_simp; done) | (go_simp; with_reducible rfl)
      try simp only [Act.put, List.setIfInBounds_toArray, List.set_cons_zero, List.set_cons_succ]
      refine any_pure 4 (v := ?_) rfl (by kernel_rfl) (by intro _ _ _ h; exact h) (by assumption) (by rfl) (fun W hW => ?_) ?_
      rotate_left
      · have e0 := (Below.cell hW (p := ⟨w6.heap.size, 0, none⟩) l9).trans g0; have e1 := (Below.cell hW (p := ⟨w6.heap.size, 1, none⟩) l9).trans g1; have e2 := (Below.cell hW (p := ⟨w6.heap.size, 2, none⟩) l9).trans g2; first | (go_simp; done) | (go_simp; with_reducible rfl)
      try simp only [Act.put, List.setIfInBounds_toArray, List.set_cons_zero, List.set_cons_succ]
      refine any_pure 5 (v := ?_) rfl (by kernel_rfl) (by intro _ _ _ h; exact h) (by assumption) (by rfl) (fun W hW => ?_) ?_
      rotate_left
      · first | (go_simp; done) | (go_simp; with_reducible rfl)
      try simp only [Act.put, List.setIfInBounds_toArray, List.set_cons_zero, List.set_cons_succ]
      refine any_one 2 (by kernel_rfl) rfl (by rfl) (fun K hK => ?_)
      go_simp
      refine (HA.out _).mono ?_
      rintro e9 w9 ⟨rfl, b9⟩
      have hS9 := sub_trans hS1 b9
      refine hK _ _ hS9 ?_
      clear hK b9
      try simp only [Act.put, List.setIfInBounds_toArray, List.set_cons_zero, List.set_cons_succ]
      refine any_pure 6 (v := ?_) rfl (by kernel_rfl) (by intro _ _ _ h; exact h) (by assumption) (by rfl) (fun W hW => ?_) ?_
      rotate_left
      · first | (go_simp; done) | (go_simp; with_reducible rfl)
      try simp only [Act.put, List.setIfInBounds_toArray, List.set_cons_zero, List.set_cons_succ]
      refine any_pure 7 (v := ?_) rfl (by kernel_rfl) (by intro _ _ _ h; exact h) (by assumption) (by rfl) (fun W hW => ?_) ?_
      rotate_left
      · first | (go_simp; done) | (go_simp; with_reducible rfl)
      try simp only [Act.put, List.setIfInBounds_toArray, List.set_cons_zero, List.set_cons_succ]
      refine any_pure 8 (v := ?_) rfl (by kernel_rfl) (by intro _ _ _ h; exact h) (by assumption) (by rfl) (fun W hW => ?_) ?_
      rotate_left
      · have e0 := (Below.cell hW (p := ⟨w6.heap.size + 1, 0, none⟩) l10).trans k0; have e1 := (Below.cell hW (p := ⟨w6.heap.size + 1, 1, none⟩) l10).trans k1; have e2 := (Below.cell hW (p := ⟨w6.heap.size + 1, 2, none⟩) l10).trans k2; first | (go_simp; done) | (go_simp; with_reducible rfl)
      try simp only [Act.put, List.setIfInBounds_toArray, List.set_cons_zero, List.set_cons_succ]
      refine any_pure 9 (v := ?_) rfl (by kernel_rfl) (by intro _ _ _ h; exact h) (by assumption) (by rfl) (fun W hW => ?_) ?_
      rotate_left
      · first | (go_simp; done) | (go_simp; with_reducible rfl)
      try simp only [Act.put, List.setIfInBounds_toArray, List.set_cons_zero, List.set_cons_succ]
      refine any_pure 10 (v := ?_) rfl (by kernel_rfl) (by intro _ _ _ h; exact h) (by assumption) (by rfl) (fun W hW => ?_) ?_
      rotate_left
      · first | (go_simp; done) | (go_simp; with_reducible rfl)
      try simp only [Act.put, List.setIfInBounds_toArray, List.set_cons_zero, List.set_cons_succ]
      refine any_pure 11 (v := ?_) rfl (by kernel_rfl) (by intro _ _ _ h; exact h) (by assumption) (by rfl) (fun W hW => ?_) ?_
      rotate_left
      · first | (go_simp; done) | (go_simp; with_reducible rfl)
      try simp only [Act.put, List.setIfInBounds_toArray, List.set_cons_zero, List.set_cons_succ]
      refine any_skip 12 rfl (by kernel_rfl) (by intro _ _ _ h; exact h) (by assumption) (by rfl) ?_
      try simp only [Act.put, List.setIfInBounds_toArray, List.set_cons_zero, List.set_cons_succ]
      refine any_skip 13 rfl (by kernel_rfl) (by intro _ _ _ h; exact h) (by assumption) (by rfl) ?_
      try simp only [Act.put, List.setIfInBounds_toArray, List.set_cons_zero, List.set_cons_succ]
      refine any_skip 14 rfl (by kernel_rfl) (by intro _ _ _ h; exact h) (by assumption) (by rfl) ?_
      try simp only [Act.put, List.setIfInBounds_toArray, List.set_cons_zero, List.set_cons_succ]
      refine any_skip 15 rfl (by kernel_rfl) (by intro _ _ _ h; exact h) (by assumption) (by rfl) ?_
      try simp only [Act.put, List.setIfInBounds_toArray, List.set_cons_zero, List.set_cons_succ]
      refine any_skip 16 rfl (by kernel_rfl) (by intro _ _ _ h; exact h) (by assumption) (by rfl) ?_
      try simp only [Act.put, List.setIfInBounds_toArray, List.set_cons_zero, List.set_cons_succ]
      refine any_pure 17 (v := ?_) rfl (by kernel_rfl) (by intro _ _ _ h; exact h) (by assumption) (by rfl) (fun W hW => ?_) ?_
      rotate_left
      · first | (go_simp; done) | (go_simp; with_reducible rfl)
      try simp only [Act.put, List.setIfInBounds_toArray, List.set_cons_zero, List.set_cons_succ]
      refine any_pure 18 (v := ?_) rfl (by kernel_rfl) (by intro _ _ _ h; exact h) (by assumption) (by rfl) (fun W hW => ?_) ?_
      rotate_left
      · first | (go_simp; done) | (go_simp; with_reducible rfl)
      try simp only [Act.put, List.setIfInBounds_toArray, List.set_cons_zero, List.set_cons_succ]
      refine any_pure 19 (v := ?_) rfl (by kernel_rfl) (by intro _ _ _ h; exact h) (by assumption) (by rfl) (fun W hW => ?_) ?_
      rotate_left
      · first | (go_simp; done) | (go_simp; with_reducible rfl)
      try simp only [Act.put, List.setIfInBounds_toArray, List.set_cons_zero, List.set_cons_succ]
      refine any_done (by kernel_rfl) ?_
      go_wp2
      go_ret
      exact ⟨by first | rfl | simp [d1, d2], HF.out _ hS9⟩
  · have d1 : decide (0 ≤ x3) = false := by simpa using h1
    have h1' : x3 < 0 := by omega
    refine any_start (S := fun W => Below w8.heap.size w8 W) (by kernel_rfl) hS1 ?_
    simp only [List.length_cons, List.length_nil, Nat.reduceAdd, List.size_toArray]
    refine any_pure 0 (v := ?_) rfl (by kernel_rfl) (by intro _ _ _ h; exact h) (by assumption) (by rfl) (fun W hW => ?_) ?_
    rotate_left
    · have e0 := (Below.cell hW (p := ⟨w6.heap.size, 0, none⟩) l9).trans g0; have e1 := (Below.cell hW (p := ⟨w6.heap.size, 1, none⟩) l9).trans g1; have e2 := (Below.cell hW (p := ⟨w6.heap.size, 2, none⟩) l9).trans g2; first | (go_simp; done) | (go_simp; with_reducible rfl)
    try simp only [Act.put, List.setIfInBounds_toArray, List.set_cons_zero, List.set_cons_succ]
    refine any_pure 1 (v := ?_) rfl (by kernel_rfl) (by intro _ _ _ h; exact h) (by assumption) (by rfl) (fun W hW => ?_) ?_
    rotate_left
    · have e0 := (Below.cell hW (p := ⟨w6.heap.size + 1, 0, none⟩) l10).trans k0; have e1 := (Below.cell hW (p := ⟨w6.heap.size + 1, 1, none⟩) l10).trans k1; have e2 := (Below.cell hW (p := ⟨w6.heap.size + 1, 2, none⟩) l10).trans k2; first | (go_simp; done) | (go_simp; with_reducible rfl)
    try simp only [Act.put, List.setIfInBounds_toArray, List.set_cons_zero, List.set_cons_succ]
    refine any_pure 3 (v := ?_) rfl (by kernel_rfl) (by intro _ _ _ h; exact h) (by assumption) (by rfl) (fun W hW => ?_) ?_
    rotate_left
    · first | (go_simp; done) | (go_simp; with_reducible rfl)
    try simp only [Act.put, List.setIfInBounds_toArray, List.set_cons_zero, List.set_cons_succ]
    refine any_pure 4 (v := ?_) rfl (by kernel_rfl) (by intro _ _ _ h; exact h) (by assumption) (by rfl) (fun W hW => ?_) ?_
    rotate_left
    · have e0 := (Below.cell hW (p := ⟨w6.heap.size, 0, none⟩) l9).trans g0; have e1 := (Below.cell hW (p := ⟨w6.heap.size, 1, none⟩) l9).trans g1; have e2 := (Below.cell hW (p := ⟨w6.heap.size, 2, none⟩) l9).trans g2; first | (go_simp; done) | (go_simp; with_reducible rfl)
    try simp only [Act.put, List.setIfInBounds_toArray, List.set_cons_zero, List.set_cons_succ]
    refine any_pure 5 (v := ?_) rfl (by kernel_rfl) (by intro _ _ _ h; exact h) (by assumption) (by rfl) (fun W hW => ?_) ?_
    rotate_left
    · first | (go_simp; done) | (go_simp; with_reducible rfl)
    try simp only [Act.put, List.setIfInBounds_toArray, List.set_cons_zero, List.set_cons_succ]
    refine any_one 2 (by kernel_rfl) rfl (by rfl) (fun K hK => ?_)
    go_simp
    refine (HA.out _).mono ?_
    rintro e9 w9 ⟨rfl, b9⟩
    have hS9 := sub_trans hS1 b9
    refine hK _ _ hS9 ?_
    clear hK b9
    try simp only [Act.put, List.setIfInBounds_toArray, List.set_cons_zero, List.set_cons_succ]
    refine any_pure 6 (v := ?_) rfl (by kernel_rfl) (by intro _ _ _ h; exact h) (by assumption) (by rfl) (fun W hW => ?_) ?_
    rotate_left
    · first | (go_simp; done) | (go_simp; with_reducible rfl)
    try simp only [Act.put, List.setIfInBounds_toArray, List.set_cons_zero, List.set_cons_succ]
    refine any_skip 7 rfl (by kernel_rfl) (by intro _ _ _ h; exact h) (by assumption) (by rfl) ?_
    try simp only [Act.put, List.setIfInBounds_toArray, List.set_cons_zero, List.set_cons_succ]
    refine any_skip 8 rfl (by kernel_rfl) (by intro _ _ _ h; exact h) (by assumption) (by rfl) ?_
    try simp only [Act.put, List.setIfInBounds_toArray, List.set_cons_zero, List.set_cons_succ]
    refine any_skip 9 rfl (by kernel_rfl) (by intro _ _ _ h; exact h) (by assumption) (by rfl) ?_
    try simp only [Act.put, List.setIfInBounds_toArray, List.set_cons_zero, List.set_cons_succ]
    refine any_pure 10 (v := ?_) rfl (by kernel_rfl) (by intro _ _ _ h; exact h) (by assumption) (by rfl) (fun W hW => ?_) ?_
    rotate_left
    · first | (go_simp; done) | (go_simp; with_reducible rfl)
    try simp only [Act.put, List.setIfInBounds_toArray, List.set_cons_zero, List.set_cons_succ]
    refine any_pure 11 (v := ?_) rfl (by kernel_rfl) (by intro _ _ _ h; exact h) (by assumption) (by rfl) (fun W hW => ?_) ?_
    rotate_left
    · first | (go_simp; done) | (go_simp; with_reducible rfl)
    try simp only [Act.put, List.setIfInBounds_toArray, List.set_cons_zero, List.set_cons_succ]
    refine any_skip 12 rfl (by kernel_rfl) (by intro _ _ _ h; exact h) (by assumption) (by rfl) ?_
    try simp only [Act.put, List.setIfInBounds_toArray, List.set_cons_zero, List.set_cons_succ]
    refine any_skip 13 rfl (by kernel_rfl) (by intro _ _ _ h; exact h) (by assumption) (by rfl) ?_
    try simp only [Act.put, List.setIfInBounds_toArray, List.set_cons_zero, List.set_cons_succ]
    refine any_skip 14 rfl (by kernel_rfl) (by intro _ _ _ h; exact h) (by assumption) (by rfl) ?_
    try simp only [Act.put, List.setIfInBounds_toArray, List.set_cons_zero, List.set_cons_succ]
    refine any_skip 15 rfl (by kernel_rfl) (by intro _ _ _ h; exact h) (by assumption) (by rfl) ?_
    try simp only [Act.put, List.setIfInBounds_toArray, List.set_cons_zero, List.set_cons_succ]
    refine any_skip 16 rfl (by kernel_rfl) (by intro _ _ _ h; exact h) (by assumption) (by rfl) ?_
    try simp only [Act.put, List.setIfInBounds_toArray, List.set_cons_zero, List.set_cons_succ]
    refine any_pure 17 (v := ?_) rfl (by kernel_rfl) (by intro _ _ _ h; exact h) (by assumption) (by rfl) (fun W hW => ?_) ?_
    rotate_left
    · first | (go_simp; done) | (go_simp; with_reducible rfl)
    try simp only [Act.put, List.setIfInBounds_toArray, List.set_cons_zero, List.set_cons_succ]
    refine any_pure 18 (v := ?_) rfl (by kernel_rfl) (by intro _ _ _ h; exact h) (by assumption) (by rfl) (fun W hW => ?_) ?_
    rotate_left
    · first | (go_simp; done) | (go_simp; with_reducible rfl)
    try simp only [Act.put, List.setIfInBounds_toArray, List.set_cons_zero, List.set_cons_succ]
    refine any_pure 19 (v := ?_) rfl (by kernel_rfl) (by intro _ _ _ h; exact h) (by assumption) (by rfl) (fun W hW => ?_) ?_
    rotate_left
    · first | (go_simp; done) | (go_simp; with_reducible rfl)
    try simp only [Act.put, List.setIfInBounds_toArray, List.set_cons_zero, List.set_cons_succ]
    refine any_done (by kernel_rfl) ?_
    go_wp2
    go_ret
    exact ⟨by first | rfl | simp [d1], HF.out _ hS9⟩
theorem traceFinds_walk (l : List Ev) (A : Option Addr) (c : Nat) (t nt u : Int) (W : World) (hR : Reads W W.heap.size 34 A l.length (evs l)) (ho : ∀ e ∈ l, EvOk e) (hl : l.length ≤ maxLen ∧ l.length ≤ c) (h1 : In64 t) (h2 : In64 nt) (h3 : In64 u) :
    Calls Try.prog 4 #[.slice A l.length c, .int .i64 t, .int .i64 nt, .int .i64 u] W fun e w' => e = .returned (.bool true) ∧ Below W.heap.size W w' := by
  by_cases h60 : 60 < l.length
  · exact tfinds_long l A c t nt u W h60 hl.1
  · exact tfinds_few l A c t nt u W ho hR (by omega)
end Go.Proofs.Ytbjibpghbaemfaa
