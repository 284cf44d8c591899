/-
  line.Bare and the reference's walked (chapter 41). Condition: none.
-/
import Derived.Test.YteljecehppeamaaDoorLinTold
namespace Go.Proofs.YteljecehppeamaaDoor
open Go.RowKit Go.Fw Go.Shelf
set_option maxHeartbeats 2000000
set_option maxRecDepth 100000
set_option linter.unusedVariables false
set_option linter.unusedSimpArgs false
theorem bare_1 (x : Cl) (w : World) (hk : x.k = 1) : Calls Tryd.prog 22 #[x.val] w fun y w' => y = .returned (bareC x).val ∧ Below w.heap.size w w' := by
  have HF : Hid (bareC x = ⟨1, x.id, x.tick, x.value, 0, 0, 0, 0, 0, 0, 0⟩) := Lib.hid (by unfold bareC; simp [hk])
  have HN : Hid (∀ W, Calls Tryd.prog 46 #[.int .i64 1] W fun y w' => y = .returned (.bool true) ∧ W = w') := Lib.hid (fun W => named_any 1 W)
  obtain ⟨WA, hWA⟩ : ∃ WA, ((w.alloc (.cells #[.int .i64 1, .string x.id, .int .i64 x.tick, .int .i64 x.value, .int .i64 x.handle, .int .i64 x.a, .int .i64 x.b, .int .i64 x.c, .int .i64 x.d, .int .i64 x.e, .int .i64 x.f] 35)).alloc (.cells #[.int .i64 0, .string ⟨#[]⟩, .int .i64 0, .int .i64 0, .int .i64 0, .int .i64 0, .int .i64 0, .int .i64 0, .int .i64 0, .int .i64 0, .int .i64 0] 35)).alloc (.cells #[.int .i64 1, .string ⟨#[]⟩, .int .i64 0, .int .i64 0, .int .i64 0, .int .i64 0, .int .i64 0, .int .i64 0, .int .i64 0, .int .i64 0, .int .i64 0] 35) = WA := ⟨_, rfl⟩
  have gx : Blk WA w.heap.size 35 (Cl.arr ⟨1, x.id, x.tick, x.value, x.handle, x.a, x.b, x.c, x.d, x.e, x.f⟩) := by rw [← hWA]; exact ((Blk.new_at _ _ _ rfl).alloc _).alloc _
  have gz : Blk WA (w.heap.size + 1) 35 Cl.zero.arr := by rw [← hWA]; exact (Blk.new_at _ _ _ (by simp)).alloc _
  have g3 : Blk WA (w.heap.size + 2) 35 (Cl.arr ⟨1, ⟨#[]⟩, 0, 0, 0, 0, 0, 0, 0, 0, 0⟩) := by rw [← hWA]; exact Blk.new_at _ _ _ (by simp)
  have hbb : Below w.heap.size w WA := by rw [← hWA]; exact sub_alloc (sub_alloc (sub_alloc (Below.refl _ w) _) _) _
  have HWA := Lib.hid hWA
  have HG := Lib.hid (And.intro gx (And.intro gz (And.intro g3 hbb)))
  clear hWA gx gz g3 hbb
  unfold Cl.val Cl.arr
  rw [hk]
  clear hk
  go_enter Tryd.func22, Tryd.ntmps22
  go_wp2_with fail
  refine (HN.out _).mono ?_
  rintro y w1 ⟨rfl, rfl⟩
  rw [HWA.out]
  obtain ⟨c0, c1, c2, c3, c4, c5, c6, c7, c8, c9, c10⟩ := HG.out.1.c11
  obtain ⟨d0, d1, d2, d3, d4, d5, d6, d7, d8, d9, d10⟩ := HG.out.2.2.1.c11
  have f3 := HG.out.2.2.1.frozen
  try simp only [Cl.arr] at c0 c1 c2 c3 c4 c5 c6 c7 c8 c9 c10 d0 d1 d2 d3 d4 d5 d6 d7 d8 d9 d10
  have hs3 := HG.out.2.2.1.set_ 1 (.string x.id)
  simp only [Cl.arr, List.setIfInBounds_toArray, List.set_cons_zero, List.set_cons_succ] at hs3
  have hsx := HG.out.1.far (p := ⟨w.heap.size + 2, 1, none⟩) (by simp) (.string x.id)
  have hsz := HG.out.2.1.far (p := ⟨w.heap.size + 2, 1, none⟩) (by simp) (.string x.id)
  have hsb := HG.out.2.2.2.setCell (p := ⟨w.heap.size + 2, 1, none⟩) (by simp) (.string x.id)
  have hs3 : Blk _ _ 35 (Cl.arr ⟨1, x.id, 0, 0, 0, 0, 0, 0, 0, 0, 0⟩) := hs3
  have HS := Lib.hid (And.intro hsx (And.intro hsz (And.intro hs3 hsb)))
  clear hs3 hsx hsz hsb
  have m0 := HS.out.1.cell 0
  simp only [Cl.arr, List.getElem?_toArray, List.getElem?_cons_zero] at m0
  go_wp2
  clear c0 c1 c2 c3 c4 c5 c6 c7 c8 c9 c10 d0 d1 d2 d3 d4 d5 d6 d7 d8 d9 d10 f3 m0
  generalize WA.setCell _ _ = WB at *
  have hS : Blk WB.drew w.heap.size 35 _ := HS.out.1.drew
  refine any_start (S := fun W => Blk W w.heap.size 35 (Cl.arr ⟨1, x.id, x.tick, x.value, x.handle, x.a, x.b, x.c, x.d, x.e, x.f⟩)) (by kernel_rfl) hS ?_
  simp only [List.length_cons, List.length_nil, Nat.reduceAdd, List.size_toArray]
  refine any_pure 0 (v := ?_) rfl (by kernel_rfl) (by intro _ _ _ h; exact h) (by assumption) (by rfl) (fun W hW => ?_) ?_
  rotate_left
  · first | (go_simp; done) | (go_simp; with_reducible rfl)
  try simp only [Act.put, List.setIfInBounds_toArray, List.set_cons_zero, List.set_cons_succ]
  refine any_pure 1 (v := ?_) rfl (by kernel_rfl) (by intro _ _ _ h; exact h) (by assumption) (by rfl) (fun W hW => ?_) ?_
  rotate_left
  · have c2 := hW.cell 2; simp only [Cl.arr, List.getElem?_toArray, List.getElem?_cons_succ, List.getElem?_cons_zero] at c2; first | (go_simp; done) | (go_simp; with_reducible rfl)
  try simp only [Act.put, List.setIfInBounds_toArray, List.set_cons_zero, List.set_cons_succ]
  refine any_pure 2 (v := ?_) rfl (by kernel_rfl) (by intro _ _ _ h; exact h) (by assumption) (by rfl) (fun W hW => ?_) ?_
  rotate_left
  · first | (go_simp; done) | (go_simp; with_reducible rfl)
  try simp only [Act.put, List.setIfInBounds_toArray, List.set_cons_zero, List.set_cons_succ]
  refine any_pure 3 (v := ?_) rfl (by kernel_rfl) (by intro _ _ _ h; exact h) (by assumption) (by rfl) (fun W hW => ?_) ?_
  rotate_left
  · have c3 := hW.cell 3; simp only [Cl.arr, List.getElem?_toArray, List.getElem?_cons_succ, List.getElem?_cons_zero] at c3; first | (go_simp; done) | (go_simp; with_reducible rfl)
  try simp only [Act.put, List.setIfInBounds_toArray, List.set_cons_zero, List.set_cons_succ]
  refine any_pure 4 (v := ?_) rfl (by kernel_rfl) (by intro _ _ _ h; exact h) (by assumption) (by rfl) (fun W hW => ?_) ?_
  rotate_left
  · first | (go_simp; done) | (go_simp; with_reducible rfl)
  try simp only [Act.put, List.setIfInBounds_toArray, List.set_cons_zero, List.set_cons_succ]
  refine any_one 5 (by kernel_rfl) rfl (by rfl) (fun K hK => ?_)
  have q3 := HS.out.2.2.1.drew
  have d2 := q3.cell 2
  have f3 := q3.frozen
  simp only [Cl.arr, List.getElem?_toArray, List.getElem?_cons_succ, List.getElem?_cons_zero] at d2
  go_simp
  have t3 := (HS.out.2.2.1.set_ 2 (.int .i64 x.tick)).drew
  simp only [Cl.arr, List.setIfInBounds_toArray, List.set_cons_zero, List.set_cons_succ] at t3
  have tx := (HS.out.1.far (p := ⟨w.heap.size + 2, 2, none⟩) (by simp) (.int .i64 x.tick)).drew
  have tz := (HS.out.2.1.far (p := ⟨w.heap.size + 2, 2, none⟩) (by simp) (.int .i64 x.tick)).drew
  have tb := (HS.out.2.2.2.setCell (p := ⟨w.heap.size + 2, 2, none⟩) (by simp) (.int .i64 x.tick)).drew
  have HS2 := Lib.hid (And.intro tx (And.intro tz (And.intro t3 tb)))
  refine hK _ _ tx ?_
  clear hK d2 f3 q3 tx tz t3 tb
  generalize World.drew (World.setCell WB _ _) = WC at *
  have hSC := HS2.out.1
  try simp only [Act.put, List.setIfInBounds_toArray, List.set_cons_zero, List.set_cons_succ]
  refine any_pure 6 (v := ?_) rfl (by kernel_rfl) (by intro _ _ _ h; exact h) (by assumption) (by rfl) (fun W hW => ?_) ?_
  rotate_left
  · first | (go_simp; done) | (go_simp; with_reducible rfl)
  try simp only [Act.put, List.setIfInBounds_toArray, List.set_cons_zero, List.set_cons_succ]
  refine any_one 7 (by kernel_rfl) rfl (by rfl) (fun K hK => ?_)
  have q3 := HS2.out.2.2.1
  have d3 := q3.cell 3
  have f3 := q3.frozen
  simp only [Cl.arr, List.getElem?_toArray, List.getElem?_cons_succ, List.getElem?_cons_zero] at d3
  go_simp
  have t3 := HS2.out.2.2.1.set_ 3 (.int .i64 x.value)
  simp only [Cl.arr, List.setIfInBounds_toArray, List.set_cons_zero, List.set_cons_succ] at t3
  have tx := HS2.out.1.far (p := ⟨w.heap.size + 2, 3, none⟩) (by simp) (.int .i64 x.value)
  have tz := HS2.out.2.1.far (p := ⟨w.heap.size + 2, 3, none⟩) (by simp) (.int .i64 x.value)
  have tb := HS2.out.2.2.2.setCell (p := ⟨w.heap.size + 2, 3, none⟩) (by simp) (.int .i64 x.value)
  have t3 : Blk _ _ 35 (Cl.arr ⟨1, x.id, x.tick, x.value, 0, 0, 0, 0, 0, 0, 0⟩) := t3
  have HS3 := Lib.hid (And.intro tx (And.intro tz (And.intro t3 tb)))
  refine hK _ _ tx ?_
  clear hK d3 f3 q3 tx tz t3 tb HS HS2 hS hSC
  generalize World.setCell WC _ _ = WD at *
  try simp only [Act.put, List.setIfInBounds_toArray, List.set_cons_zero, List.set_cons_succ]
  refine any_done (by kernel_rfl) ?_
  obtain ⟨c0, c1, c2, c3, c4, c5, c6, c7, c8, c9, c10⟩ := HS3.out.1.c11
  obtain ⟨d0, d1, d2, d3, d4, d5, d6, d7, d8, d9, d10⟩ := HS3.out.2.2.1.c11
  have f3 := HS3.out.2.2.1.frozen
  try simp only [Cl.arr] at c0 c1 c2 c3 c4 c5 c6 c7 c8 c9 c10 d0 d1 d2 d3 d4 d5 d6 d7 d8 d9 d10
  have hF := HS3.out.2.2.1
  have hF : Blk _ _ 35 (Cl.arr ⟨1, x.id, x.tick, x.value, 0, 0, 0, 0, 0, 0, 0⟩) := hF
  have HH := Lib.hid (And.intro HS3.out.1 (And.intro HS3.out.2.1 (And.intro hF HS3.out.2.2.2)))
  clear hF
  have gz := HH.out.2.1
  have hbb := HH.out.2.2.2
  obtain ⟨r0, r1, r2, r3, r4, r5, r6, r7, r8, r9, r10⟩ := gz.c11
  have f0 := gz.frozen
  have z := gz.stCl ⟨1, x.id, x.tick, x.value, 0, 0, 0, 0, 0, 0, 0⟩
  have hz := below_stCl hbb (g := w.heap.size + 1) (by omega) ⟨1, x.id, x.tick, x.value, 0, 0, 0, 0, 0, 0, 0⟩
  have HZ := Lib.hid (And.intro z hz)
  clear z hz gz hbb
  unfold stCl at HZ
  go_wp2
  obtain ⟨z0, z1, z2, z3, z4, z5, z6, z7, z8, z9, z10⟩ := HZ.out.1.c11
  try simp only at z0 z1 z2 z3 z4 z5 z6 z7 z8 z9 z10
  exact bodyPost_ret (v := .agg #[.int .i64 1, .string x.id, .int .i64 x.tick, .int .i64 x.value, .int .i64 0, .int .i64 0, .int .i64 0, .int .i64 0, .int .i64 0, .int .i64 0, .int .i64 0]) (by simp [results, Tryd.results22, go_sem, z0, z1, z2, z3, z4, z5, z6, z7, z8, z9, z10]; try rfl) rfl ⟨by rw [HF.out] <;> rfl, HZ.out.2⟩
theorem bare_2 (x : Cl) (w : World) (hk : x.k = 2) : Calls Tryd.prog 22 #[x.val] w fun y w' => y = .returned (bareC x).val ∧ Below w.heap.size w w' := by
  have HF : Hid (bareC x = ⟨2, ⟨#[]⟩, x.tick, 0, 0, 0, 0, 0, 0, 0, 0⟩) := Lib.hid (by unfold bareC; simp [hk]; try rfl)
  have HN : Hid (∀ W, Calls Tryd.prog 46 #[.int .i64 2] W fun y w' => y = .returned (.bool false) ∧ W = w') := Lib.hid (fun W => named_any 2 W)
  obtain ⟨WA, hWA⟩ : ∃ WA, ((w.alloc (.cells #[.int .i64 2, .string x.id, .int .i64 x.tick, .int .i64 x.value, .int .i64 x.handle, .int .i64 x.a, .int .i64 x.b, .int .i64 x.c, .int .i64 x.d, .int .i64 x.e, .int .i64 x.f] 35)).alloc (.cells #[.int .i64 0, .string ⟨#[]⟩, .int .i64 0, .int .i64 0, .int .i64 0, .int .i64 0, .int .i64 0, .int .i64 0, .int .i64 0, .int .i64 0, .int .i64 0] 35)).alloc (.cells #[.int .i64 2, .string ⟨#[]⟩, .int .i64 0, .int .i64 0, .int .i64 0, .int .i64 0, .int .i64 0, .int .i64 0, .int .i64 0, .int .i64 0, .int .i64 0] 35) = WA := ⟨_, rfl⟩
  have gx : Blk WA w.heap.size 35 (Cl.arr ⟨2, x.id, x.tick, x.value, x.handle, x.a, x.b, x.c, x.d, x.e, x.f⟩) := by rw [← hWA]; exact ((Blk.new_at _ _ _ rfl).alloc _).alloc _
  have gz : Blk WA (w.heap.size + 1) 35 Cl.zero.arr := by rw [← hWA]; exact (Blk.new_at _ _ _ (by simp)).alloc _
  have g3 : Blk WA (w.heap.size + 2) 35 (Cl.arr ⟨2, ⟨#[]⟩, 0, 0, 0, 0, 0, 0, 0, 0, 0⟩) := by rw [← hWA]; exact Blk.new_at _ _ _ (by simp)
  have hbb : Below w.heap.size w WA := by rw [← hWA]; exact sub_alloc (sub_alloc (sub_alloc (Below.refl _ w) _) _) _
  have HWA := Lib.hid hWA
  have HG := Lib.hid (And.intro gx (And.intro gz (And.intro g3 hbb)))
  clear hWA gx gz g3 hbb
  unfold Cl.val Cl.arr
  rw [hk]
  clear hk
  go_enter Tryd.func22, Tryd.ntmps22
  go_wp2_with fail
  refine (HN.out _).mono ?_
  rintro y w1 ⟨rfl, rfl⟩
  rw [HWA.out]
  obtain ⟨c0, c1, c2, c3, c4, c5, c6, c7, c8, c9, c10⟩ := HG.out.1.c11
  obtain ⟨d0, d1, d2, d3, d4, d5, d6, d7, d8, d9, d10⟩ := HG.out.2.2.1.c11
  have f3 := HG.out.2.2.1.frozen
  try simp only [Cl.arr] at c0 c1 c2 c3 c4 c5 c6 c7 c8 c9 c10 d0 d1 d2 d3 d4 d5 d6 d7 d8 d9 d10
  have hF := (HG.out.2.2.1.set_ 2 (.int .i64 x.tick))
  simp only [Cl.arr, List.setIfInBounds_toArray, List.set_cons_zero, List.set_cons_succ] at hF
  have hF : Blk _ _ 35 (Cl.arr ⟨2, ⟨#[]⟩, x.tick, 0, 0, 0, 0, 0, 0, 0, 0⟩) := hF
  have HH := Lib.hid (And.intro (HG.out.1.far (p := ⟨w.heap.size + 2, 2, none⟩) (by simp) (.int .i64 x.tick)) (And.intro (HG.out.2.1.far (p := ⟨w.heap.size + 2, 2, none⟩) (by simp) (.int .i64 x.tick)) (And.intro hF (HG.out.2.2.2.setCell (p := ⟨w.heap.size + 2, 2, none⟩) (by simp) (.int .i64 x.tick)))))
  clear hF
  have gz := HH.out.2.1
  have hbb := HH.out.2.2.2
  obtain ⟨p0, p1, p2, p3, p4, p5, p6, p7, p8, p9, p10⟩ := HH.out.2.2.1.c11
  obtain ⟨q0, q1, q2, q3, q4, q5, q6, q7, q8, q9, q10⟩ := HH.out.1.c11
  try simp only [Cl.arr] at p0 p1 p2 p3 p4 p5 p6 p7 p8 p9 p10 q0 q1 q2 q3 q4 q5 q6 q7 q8 q9 q10
  obtain ⟨r0, r1, r2, r3, r4, r5, r6, r7, r8, r9, r10⟩ := gz.c11
  have f0 := gz.frozen
  have z := gz.stCl ⟨2, ⟨#[]⟩, x.tick, 0, 0, 0, 0, 0, 0, 0, 0⟩
  have hz := below_stCl hbb (g := w.heap.size + 1) (by omega) ⟨2, ⟨#[]⟩, x.tick, 0, 0, 0, 0, 0, 0, 0, 0⟩
  have HZ := Lib.hid (And.intro z hz)
  clear z hz gz hbb
  unfold stCl at HZ
  go_wp2
  obtain ⟨z0, z1, z2, z3, z4, z5, z6, z7, z8, z9, z10⟩ := HZ.out.1.c11
  try simp only at z0 z1 z2 z3 z4 z5 z6 z7 z8 z9 z10
  exact bodyPost_ret (v := .agg #[.int .i64 2, .string ⟨#[]⟩, .int .i64 x.tick, .int .i64 0, .int .i64 0, .int .i64 0, .int .i64 0, .int .i64 0, .int .i64 0, .int .i64 0, .int .i64 0]) (by simp [results, Tryd.results22, go_sem, z0, z1, z2, z3, z4, z5, z6, z7, z8, z9, z10]; try rfl) rfl ⟨by rw [HF.out] <;> rfl, HZ.out.2⟩
theorem bare_4 (x : Cl) (w : World) (hk : x.k = 4) : Calls Tryd.prog 22 #[x.val] w fun y w' => y = .returned (bareC x).val ∧ Below w.heap.size w w' := by
  have HF : Hid (bareC x = ⟨4, ⟨#[]⟩, 0, 0, x.handle, 0, 0, 0, 0, 0, 0⟩) := Lib.hid (by unfold bareC; simp [hk]; try rfl)
  have HN : Hid (∀ W, Calls Tryd.prog 46 #[.int .i64 4] W fun y w' => y = .returned (.bool false) ∧ W = w') := Lib.hid (fun W => named_any 4 W)
  obtain ⟨WA, hWA⟩ : ∃ WA, ((w.alloc (.cells #[.int .i64 4, .string x.id, .int .i64 x.tick, .int .i64 x.value, .int .i64 x.handle, .int .i64 x.a, .int .i64 x.b, .int .i64 x.c, .int .i64 x.d, .int .i64 x.e, .int .i64 x.f] 35)).alloc (.cells #[.int .i64 0, .string ⟨#[]⟩, .int .i64 0, .int .i64 0, .int .i64 0, .int .i64 0, .int .i64 0, .int .i64 0, .int .i64 0, .int .i64 0, .int .i64 0] 35)).alloc (.cells #[.int .i64 4, .string ⟨#[]⟩, .int .i64 0, .int .i64 0, .int .i64 0, .int .i64 0, .int .i64 0, .int .i64 0, .int .i64 0, .int .i64 0, .int .i64 0] 35) = WA := ⟨_, rfl⟩
  have gx : Blk WA w.heap.size 35 (Cl.arr ⟨4, x.id, x.tick, x.value, x.handle, x.a, x.b, x.c, x.d, x.e, x.f⟩) := by rw [← hWA]; exact ((Blk.new_at _ _ _ rfl).alloc _).alloc _
  have gz : Blk WA (w.heap.size + 1) 35 Cl.zero.arr := by rw [← hWA]; exact (Blk.new_at _ _ _ (by simp)).alloc _
  have g3 : Blk WA (w.heap.size + 2) 35 (Cl.arr ⟨4, ⟨#[]⟩, 0, 0, 0, 0, 0, 0, 0, 0, 0⟩) := by rw [← hWA]; exact Blk.new_at _ _ _ (by simp)
  have hbb : Below w.heap.size w WA := by rw [← hWA]; exact sub_alloc (sub_alloc (sub_alloc (Below.refl _ w) _) _) _
  have HWA := Lib.hid hWA
  have HG := Lib.hid (And.intro gx (And.intro gz (And.intro g3 hbb)))
  clear hWA gx gz g3 hbb
  unfold Cl.val Cl.arr
  rw [hk]
  clear hk
  go_enter Tryd.func22, Tryd.ntmps22
  go_wp2_with fail
  refine (HN.out _).mono ?_
  rintro y w1 ⟨rfl, rfl⟩
  rw [HWA.out]
  obtain ⟨c0, c1, c2, c3, c4, c5, c6, c7, c8, c9, c10⟩ := HG.out.1.c11
  obtain ⟨d0, d1, d2, d3, d4, d5, d6, d7, d8, d9, d10⟩ := HG.out.2.2.1.c11
  have f3 := HG.out.2.2.1.frozen
  try simp only [Cl.arr] at c0 c1 c2 c3 c4 c5 c6 c7 c8 c9 c10 d0 d1 d2 d3 d4 d5 d6 d7 d8 d9 d10
  have hF := (HG.out.2.2.1.set_ 4 (.int .i64 x.handle))
  simp only [Cl.arr, List.setIfInBounds_toArray, List.set_cons_zero, List.set_cons_succ] at hF
  have hF : Blk _ _ 35 (Cl.arr ⟨4, ⟨#[]⟩, 0, 0, x.handle, 0, 0, 0, 0, 0, 0⟩) := hF
  have HH := Lib.hid (And.intro (HG.out.1.far (p := ⟨w.heap.size + 2, 4, none⟩) (by simp) (.int .i64 x.handle)) (And.intro (HG.out.2.1.far (p := ⟨w.heap.size + 2, 4, none⟩) (by simp) (.int .i64 x.handle)) (And.intro hF (HG.out.2.2.2.setCell (p := ⟨w.heap.size + 2, 4, none⟩) (by simp) (.int .i64 x.handle)))))
  clear hF
  have gz := HH.out.2.1
  have hbb := HH.out.2.2.2
  obtain ⟨p0, p1, p2, p3, p4, p5, p6, p7, p8, p9, p10⟩ := HH.out.2.2.1.c11
  obtain ⟨q0, q1, q2, q3, q4, q5, q6, q7, q8, q9, q10⟩ := HH.out.1.c11
  try simp only [Cl.arr] at p0 p1 p2 p3 p4 p5 p6 p7 p8 p9 p10 q0 q1 q2 q3 q4 q5 q6 q7 q8 q9 q10
  obtain ⟨r0, r1, r2, r3, r4, r5, r6, r7, r8, r9, r10⟩ := gz.c11
  have f0 := gz.frozen
  have z := gz.stCl ⟨4, ⟨#[]⟩, 0, 0, x.handle, 0, 0, 0, 0, 0, 0⟩
  have hz := below_stCl hbb (g := w.heap.size + 1) (by omega) ⟨4, ⟨#[]⟩, 0, 0, x.handle, 0, 0, 0, 0, 0, 0⟩
  have HZ := Lib.hid (And.intro z hz)
  clear z hz gz hbb
  unfold stCl at HZ
  go_wp2
  obtain ⟨z0, z1, z2, z3, z4, z5, z6, z7, z8, z9, z10⟩ := HZ.out.1.c11
  try simp only at z0 z1 z2 z3 z4 z5 z6 z7 z8 z9 z10
  exact bodyPost_ret (v := .agg #[.int .i64 4, .string ⟨#[]⟩, .int .i64 0, .int .i64 0, .int .i64 x.handle, .int .i64 0, .int .i64 0, .int .i64 0, .int .i64 0, .int .i64 0, .int .i64 0]) (by simp [results, Tryd.results22, go_sem, z0, z1, z2, z3, z4, z5, z6, z7, z8, z9, z10]; try rfl) rfl ⟨by rw [HF.out] <;> rfl, HZ.out.2⟩
theorem bare_5 (x : Cl) (w : World) (hk : x.k = 5) : Calls Tryd.prog 22 #[x.val] w fun y w' => y = .returned (bareC x).val ∧ Below w.heap.size w w' := by
  have HF : Hid (bareC x = ⟨5, x.id, x.tick, x.value, x.handle, 0, 0, 0, 0, 0, 0⟩) := Lib.hid (by unfold bareC; simp [hk])
  have HN : Hid (∀ W, Calls Tryd.prog 46 #[.int .i64 5] W fun y w' => y = .returned (.bool true) ∧ W = w') := Lib.hid (fun W => named_any 5 W)
  obtain ⟨WA, hWA⟩ : ∃ WA, ((w.alloc (.cells #[.int .i64 5, .string x.id, .int .i64 x.tick, .int .i64 x.value, .int .i64 x.handle, .int .i64 x.a, .int .i64 x.b, .int .i64 x.c, .int .i64 x.d, .int .i64 x.e, .int .i64 x.f] 35)).alloc (.cells #[.int .i64 0, .string ⟨#[]⟩, .int .i64 0, .int .i64 0, .int .i64 0, .int .i64 0, .int .i64 0, .int .i64 0, .int .i64 0, .int .i64 0, .int .i64 0] 35)).alloc (.cells #[.int .i64 5, .string ⟨#[]⟩, .int .i64 0, .int .i64 0, .int .i64 0, .int .i64 0, .int .i64 0, .int .i64 0, .int .i64 0, .int .i64 0, .int .i64 0] 35) = WA := ⟨_, rfl⟩
  have gx : Blk WA w.heap.size 35 (Cl.arr ⟨5, x.id, x.tick, x.value, x.handle, x.a, x.b, x.c, x.d, x.e, x.f⟩) := by rw [← hWA]; exact ((Blk.new_at _ _ _ rfl).alloc _).alloc _
  have gz : Blk WA (w.heap.size + 1) 35 Cl.zero.arr := by rw [← hWA]; exact (Blk.new_at _ _ _ (by simp)).alloc _
  have g3 : Blk WA (w.heap.size + 2) 35 (Cl.arr ⟨5, ⟨#[]⟩, 0, 0, 0, 0, 0, 0, 0, 0, 0⟩) := by rw [← hWA]; exact Blk.new_at _ _ _ (by simp)
  have hbb : Below w.heap.size w WA := by rw [← hWA]; exact sub_alloc (sub_alloc (sub_alloc (Below.refl _ w) _) _) _
  have HWA := Lib.hid hWA
  have HG := Lib.hid (And.intro gx (And.intro gz (And.intro g3 hbb)))
  clear hWA gx gz g3 hbb
  unfold Cl.val Cl.arr
  rw [hk]
  clear hk
  go_enter Tryd.func22, Tryd.ntmps22
  go_wp2_with fail
  refine (HN.out _).mono ?_
  rintro y w1 ⟨rfl, rfl⟩
  rw [HWA.out]
  obtain ⟨c0, c1, c2, c3, c4, c5, c6, c7, c8, c9, c10⟩ := HG.out.1.c11
  obtain ⟨d0, d1, d2, d3, d4, d5, d6, d7, d8, d9, d10⟩ := HG.out.2.2.1.c11
  have f3 := HG.out.2.2.1.frozen
  try simp only [Cl.arr] at c0 c1 c2 c3 c4 c5 c6 c7 c8 c9 c10 d0 d1 d2 d3 d4 d5 d6 d7 d8 d9 d10
  have hs3 := HG.out.2.2.1.set_ 1 (.string x.id)
  simp only [Cl.arr, List.setIfInBounds_toArray, List.set_cons_zero, List.set_cons_succ] at hs3
  have hsx := HG.out.1.far (p := ⟨w.heap.size + 2, 1, none⟩) (by simp) (.string x.id)
  have hsz := HG.out.2.1.far (p := ⟨w.heap.size + 2, 1, none⟩) (by simp) (.string x.id)
  have hsb := HG.out.2.2.2.setCell (p := ⟨w.heap.size + 2, 1, none⟩) (by simp) (.string x.id)
  have hs3 : Blk _ _ 35 (Cl.arr ⟨5, x.id, 0, 0, 0, 0, 0, 0, 0, 0, 0⟩) := hs3
  have HS := Lib.hid (And.intro hsx (And.intro hsz (And.intro hs3 hsb)))
  clear hs3 hsx hsz hsb
  have m0 := HS.out.1.cell 0
  simp only [Cl.arr, List.getElem?_toArray, List.getElem?_cons_zero] at m0
  go_wp2
  clear c0 c1 c2 c3 c4 c5 c6 c7 c8 c9 c10 d0 d1 d2 d3 d4 d5 d6 d7 d8 d9 d10 f3 m0
  generalize WA.setCell _ _ = WB at *
  have hS : Blk WB.drew w.heap.size 35 _ := HS.out.1.drew
  refine any_start (S := fun W => Blk W w.heap.size 35 (Cl.arr ⟨5, x.id, x.tick, x.value, x.handle, x.a, x.b, x.c, x.d, x.e, x.f⟩)) (by kernel_rfl) hS ?_
  simp only [List.length_cons, List.length_nil, Nat.reduceAdd, List.size_toArray]
  refine any_pure 0 (v := ?_) rfl (by kernel_rfl) (by intro _ _ _ h; exact h) (by assumption) (by rfl) (fun W hW => ?_) ?_
  rotate_left
  · first | (go_simp; done) | (go_simp; with_reducible rfl)
  try simp only [Act.put, List.setIfInBounds_toArray, List.set_cons_zero, List.set_cons_succ]
  refine any_pure 1 (v := ?_) rfl (by kernel_rfl) (by intro _ _ _ h; exact h) (by assumption) (by rfl) (fun W hW => ?_) ?_
  rotate_left
  · have c2 := hW.cell 2; simp only [Cl.arr, List.getElem?_toArray, List.getElem?_cons_succ, List.getElem?_cons_zero] at c2; first | (go_simp; done) | (go_simp; with_reducible rfl)
  try simp only [Act.put, List.setIfInBounds_toArray, List.set_cons_zero, List.set_cons_succ]
  refine any_pure 2 (v := ?_) rfl (by kernel_rfl) (by intro _ _ _ h; exact h) (by assumption) (by rfl) (fun W hW => ?_) ?_
  rotate_left
  · first | (go_simp; done) | (go_simp; with_reducible rfl)
  try simp only [Act.put, List.setIfInBounds_toArray, List.set_cons_zero, List.set_cons_succ]
  refine any_pure 3 (v := ?_) rfl (by kernel_rfl) (by intro _ _ _ h; exact h) (by assumption) (by rfl) (fun W hW => ?_) ?_
  rotate_left
  · have c3 := hW.cell 3; simp only [Cl.arr, List.getElem?_toArray, List.getElem?_cons_succ, List.getElem?_cons_zero] at c3; first | (go_simp; done) | (go_simp; with_reducible rfl)
  try simp only [Act.put, List.setIfInBounds_toArray, List.set_cons_zero, List.set_cons_succ]
  refine any_pure 4 (v := ?_) rfl (by kernel_rfl) (by intro _ _ _ h; exact h) (by assumption) (by rfl) (fun W hW => ?_) ?_
  rotate_left
  · first | (go_simp; done) | (go_simp; with_reducible rfl)
  try simp only [Act.put, List.setIfInBounds_toArray, List.set_cons_zero, List.set_cons_succ]
  refine any_one 5 (by kernel_rfl) rfl (by rfl) (fun K hK => ?_)
  have q3 := HS.out.2.2.1.drew
  have d2 := q3.cell 2
  have f3 := q3.frozen
  simp only [Cl.arr, List.getElem?_toArray, List.getElem?_cons_succ, List.getElem?_cons_zero] at d2
  go_simp
  have t3 := (HS.out.2.2.1.set_ 2 (.int .i64 x.tick)).drew
  simp only [Cl.arr, List.setIfInBounds_toArray, List.set_cons_zero, List.set_cons_succ] at t3
  have tx := (HS.out.1.far (p := ⟨w.heap.size + 2, 2, none⟩) (by simp) (.int .i64 x.tick)).drew
  have tz := (HS.out.2.1.far (p := ⟨w.heap.size + 2, 2, none⟩) (by simp) (.int .i64 x.tick)).drew
  have tb := (HS.out.2.2.2.setCell (p := ⟨w.heap.size + 2, 2, none⟩) (by simp) (.int .i64 x.tick)).drew
  have HS2 := Lib.hid (And.intro tx (And.intro tz (And.intro t3 tb)))
  refine hK _ _ tx ?_
  clear hK d2 f3 q3 tx tz t3 tb
  generalize World.drew (World.setCell WB _ _) = WC at *
  have hSC := HS2.out.1
  try simp only [Act.put, List.setIfInBounds_toArray, List.set_cons_zero, List.set_cons_succ]
  refine any_pure 6 (v := ?_) rfl (by kernel_rfl) (by intro _ _ _ h; exact h) (by assumption) (by rfl) (fun W hW => ?_) ?_
  rotate_left
  · first | (go_simp; done) | (go_simp; with_reducible rfl)
  try simp only [Act.put, List.setIfInBounds_toArray, List.set_cons_zero, List.set_cons_succ]
  refine any_one 7 (by kernel_rfl) rfl (by rfl) (fun K hK => ?_)
  have q3 := HS2.out.2.2.1
  have d3 := q3.cell 3
  have f3 := q3.frozen
  simp only [Cl.arr, List.getElem?_toArray, List.getElem?_cons_succ, List.getElem?_cons_zero] at d3
  go_simp
  have t3 := HS2.out.2.2.1.set_ 3 (.int .i64 x.value)
  simp only [Cl.arr, List.setIfInBounds_toArray, List.set_cons_zero, List.set_cons_succ] at t3
  have tx := HS2.out.1.far (p := ⟨w.heap.size + 2, 3, none⟩) (by simp) (.int .i64 x.value)
  have tz := HS2.out.2.1.far (p := ⟨w.heap.size + 2, 3, none⟩) (by simp) (.int .i64 x.value)
  have tb := HS2.out.2.2.2.setCell (p := ⟨w.heap.size + 2, 3, none⟩) (by simp) (.int .i64 x.value)
  have t3 : Blk _ _ 35 (Cl.arr ⟨5, x.id, x.tick, x.value, 0, 0, 0, 0, 0, 0, 0⟩) := t3
  have HS3 := Lib.hid (And.intro tx (And.intro tz (And.intro t3 tb)))
  refine hK _ _ tx ?_
  clear hK d3 f3 q3 tx tz t3 tb HS HS2 hS hSC
  generalize World.setCell WC _ _ = WD at *
  try simp only [Act.put, List.setIfInBounds_toArray, List.set_cons_zero, List.set_cons_succ]
  refine any_done (by kernel_rfl) ?_
  obtain ⟨c0, c1, c2, c3, c4, c5, c6, c7, c8, c9, c10⟩ := HS3.out.1.c11
  obtain ⟨d0, d1, d2, d3, d4, d5, d6, d7, d8, d9, d10⟩ := HS3.out.2.2.1.c11
  have f3 := HS3.out.2.2.1.frozen
  try simp only [Cl.arr] at c0 c1 c2 c3 c4 c5 c6 c7 c8 c9 c10 d0 d1 d2 d3 d4 d5 d6 d7 d8 d9 d10
  have hF := (HS3.out.2.2.1.set_ 4 (.int .i64 x.handle))
  simp only [Cl.arr, List.setIfInBounds_toArray, List.set_cons_zero, List.set_cons_succ] at hF
  have hF : Blk _ _ 35 (Cl.arr ⟨5, x.id, x.tick, x.value, x.handle, 0, 0, 0, 0, 0, 0⟩) := hF
  have HH := Lib.hid (And.intro (HS3.out.1.far (p := ⟨w.heap.size + 2, 4, none⟩) (by simp) (.int .i64 x.handle)) (And.intro (HS3.out.2.1.far (p := ⟨w.heap.size + 2, 4, none⟩) (by simp) (.int .i64 x.handle)) (And.intro hF (HS3.out.2.2.2.setCell (p := ⟨w.heap.size + 2, 4, none⟩) (by simp) (.int .i64 x.handle)))))
  clear hF
  have gz := HH.out.2.1
  have hbb := HH.out.2.2.2
  obtain ⟨p0, p1, p2, p3, p4, p5, p6, p7, p8, p9, p10⟩ := HH.out.2.2.1.c11
  obtain ⟨q0, q1, q2, q3, q4, q5, q6, q7, q8, q9, q10⟩ := HH.out.1.c11
  try simp only [Cl.arr] at p0 p1 p2 p3 p4 p5 p6 p7 p8 p9 p10 q0 q1 q2 q3 q4 q5 q6 q7 q8 q9 q10
  obtain ⟨r0, r1, r2, r3, r4, r5, r6, r7, r8, r9, r10⟩ := gz.c11
  have f0 := gz.frozen
  have z := gz.stCl ⟨5, x.id, x.tick, x.value, x.handle, 0, 0, 0, 0, 0, 0⟩
  have hz := below_stCl hbb (g := w.heap.size + 1) (by omega) ⟨5, x.id, x.tick, x.value, x.handle, 0, 0, 0, 0, 0, 0⟩
  have HZ := Lib.hid (And.intro z hz)
  clear z hz gz hbb
  unfold stCl at HZ
  go_wp2
  obtain ⟨z0, z1, z2, z3, z4, z5, z6, z7, z8, z9, z10⟩ := HZ.out.1.c11
  try simp only at z0 z1 z2 z3 z4 z5 z6 z7 z8 z9 z10
  exact bodyPost_ret (v := .agg #[.int .i64 5, .string x.id, .int .i64 x.tick, .int .i64 x.value, .int .i64 x.handle, .int .i64 0, .int .i64 0, .int .i64 0, .int .i64 0, .int .i64 0, .int .i64 0]) (by simp [results, Tryd.results22, go_sem, z0, z1, z2, z3, z4, z5, z6, z7, z8, z9, z10]; try rfl) rfl ⟨by rw [HF.out] <;> rfl, HZ.out.2⟩
theorem bare_6 (x : Cl) (w : World) (hk : x.k = 6) : Calls Tryd.prog 22 #[x.val] w fun y w' => y = .returned (bareC x).val ∧ Below w.heap.size w w' := by
  have HF : Hid (bareC x = ⟨6, x.id, 0, 0, 0, x.a, x.b, x.c, x.d, x.e, x.f⟩) := Lib.hid (by unfold bareC; simp [hk])
  have HN : Hid (∀ W, Calls Tryd.prog 46 #[.int .i64 6] W fun y w' => y = .returned (.bool true) ∧ W = w') := Lib.hid (fun W => named_any 6 W)
  obtain ⟨WA, hWA⟩ : ∃ WA, ((w.alloc (.cells #[.int .i64 6, .string x.id, .int .i64 x.tick, .int .i64 x.value, .int .i64 x.handle, .int .i64 x.a, .int .i64 x.b, .int .i64 x.c, .int .i64 x.d, .int .i64 x.e, .int .i64 x.f] 35)).alloc (.cells #[.int .i64 0, .string ⟨#[]⟩, .int .i64 0, .int .i64 0, .int .i64 0, .int .i64 0, .int .i64 0, .int .i64 0, .int .i64 0, .int .i64 0, .int .i64 0] 35)).alloc (.cells #[.int .i64 6, .string ⟨#[]⟩, .int .i64 0, .int .i64 0, .int .i64 0, .int .i64 0, .int .i64 0, .int .i64 0, .int .i64 0, .int .i64 0, .int .i64 0] 35) = WA := ⟨_, rfl⟩
  have gx : Blk WA w.heap.size 35 (Cl.arr ⟨6, x.id, x.tick, x.value, x.handle, x.a, x.b, x.c, x.d, x.e, x.f⟩) := by rw [← hWA]; exact ((Blk.new_at _ _ _ rfl).alloc _).alloc _
  have gz : Blk WA (w.heap.size + 1) 35 Cl.zero.arr := by rw [← hWA]; exact (Blk.new_at _ _ _ (by simp)).alloc _
  have g3 : Blk WA (w.heap.size + 2) 35 (Cl.arr ⟨6, ⟨#[]⟩, 0, 0, 0, 0, 0, 0, 0, 0, 0⟩) := by rw [← hWA]; exact Blk.new_at _ _ _ (by simp)
  have hbb : Below w.heap.size w WA := by rw [← hWA]; exact sub_alloc (sub_alloc (sub_alloc (Below.refl _ w) _) _) _
  have HWA := Lib.hid hWA
  have HG := Lib.hid (And.intro gx (And.intro gz (And.intro g3 hbb)))
  clear hWA gx gz g3 hbb
  unfold Cl.val Cl.arr
  rw [hk]
  clear hk
  go_enter Tryd.func22, Tryd.ntmps22
  go_wp2_with fail
  refine (HN.out _).mono ?_
  rintro y w1 ⟨rfl, rfl⟩
  rw [HWA.out]
  obtain ⟨c0, c1, c2, c3, c4, c5, c6, c7, c8, c9, c10⟩ := HG.out.1.c11
  obtain ⟨d0, d1, d2, d3, d4, d5, d6, d7, d8, d9, d10⟩ := HG.out.2.2.1.c11
  have f3 := HG.out.2.2.1.frozen
  try simp only [Cl.arr] at c0 c1 c2 c3 c4 c5 c6 c7 c8 c9 c10 d0 d1 d2 d3 d4 d5 d6 d7 d8 d9 d10
  have hF := (((((((HG.out.2.2.1.set_ 1 (.string x.id)).set_ 5 (.int .i64 x.a)).set_ 6 (.int .i64 x.b)).set_ 7 (.int .i64 x.c)).set_ 8 (.int .i64 x.d)).set_ 9 (.int .i64 x.e)).set_ 10 (.int .i64 x.f))
  simp only [Cl.arr, List.setIfInBounds_toArray, List.set_cons_zero, List.set_cons_succ] at hF
  have hF : Blk _ _ 35 (Cl.arr ⟨6, x.id, 0, 0, 0, x.a, x.b, x.c, x.d, x.e, x.f⟩) := hF
  have HH := Lib.hid (And.intro (((((((HG.out.1.far (p := ⟨w.heap.size + 2, 1, none⟩) (by simp) (.string x.id)).far (p := ⟨w.heap.size + 2, 5, none⟩) (by simp) (.int .i64 x.a)).far (p := ⟨w.heap.size + 2, 6, none⟩) (by simp) (.int .i64 x.b)).far (p := ⟨w.heap.size + 2, 7, none⟩) (by simp) (.int .i64 x.c)).far (p := ⟨w.heap.size + 2, 8, none⟩) (by simp) (.int .i64 x.d)).far (p := ⟨w.heap.size + 2, 9, none⟩) (by simp) (.int .i64 x.e)).far (p := ⟨w.heap.size + 2, 10, none⟩) (by simp) (.int .i64 x.f)) (And.intro (((((((HG.out.2.1.far (p := ⟨w.heap.size + 2, 1, none⟩) (by simp) (.string x.id)).far (p := ⟨w.heap.size + 2, 5, none⟩) (by simp) (.int .i64 x.a)).far (p := ⟨w.heap.size + 2, 6, none⟩) (by simp) (.int .i64 x.b)).far (p := ⟨w.heap.size + 2, 7, none⟩) (by simp) (.int .i64 x.c)).far (p := ⟨w.heap.size + 2, 8, none⟩) (by simp) (.int .i64 x.d)).far (p := ⟨w.heap.size + 2, 9, none⟩) (by simp) (.int .i64 x.e)).far (p := ⟨w.heap.size + 2, 10, none⟩) (by simp) (.int .i64 x.f)) (And.intro hF (((((((HG.out.2.2.2.setCell (p := ⟨w.heap.size + 2, 1, none⟩) (by simp) (.string x.id)).setCell (p := ⟨w.heap.size + 2, 5, none⟩) (by simp) (.int .i64 x.a)).setCell (p := ⟨w.heap.size + 2, 6, none⟩) (by simp) (.int .i64 x.b)).setCell (p := ⟨w.heap.size + 2, 7, none⟩) (by simp) (.int .i64 x.c)).setCell (p := ⟨w.heap.size + 2, 8, none⟩) (by simp) (.int .i64 x.d)).setCell (p := ⟨w.heap.size + 2, 9, none⟩) (by simp) (.int .i64 x.e)).setCell (p := ⟨w.heap.size + 2, 10, none⟩) (by simp) (.int .i64 x.f)))))
  clear hF
  have gz := HH.out.2.1
  have hbb := HH.out.2.2.2
  obtain ⟨p0, p1, p2, p3, p4, p5, p6, p7, p8, p9, p10⟩ := HH.out.2.2.1.c11
  obtain ⟨q0, q1, q2, q3, q4, q5, q6, q7, q8, q9, q10⟩ := HH.out.1.c11
  try simp only [Cl.arr] at p0 p1 p2 p3 p4 p5 p6 p7 p8 p9 p10 q0 q1 q2 q3 q4 q5 q6 q7 q8 q9 q10
  obtain ⟨r0, r1, r2, r3, r4, r5, r6, r7, r8, r9, r10⟩ := gz.c11
  have f0 := gz.frozen
  have z := gz.stCl ⟨6, x.id, 0, 0, 0, x.a, x.b, x.c, x.d, x.e, x.f⟩
  have hz := below_stCl hbb (g := w.heap.size + 1) (by omega) ⟨6, x.id, 0, 0, 0, x.a, x.b, x.c, x.d, x.e, x.f⟩
  have HZ := Lib.hid (And.intro z hz)
  clear z hz gz hbb
  unfold stCl at HZ
  go_wp2
  obtain ⟨z0, z1, z2, z3, z4, z5, z6, z7, z8, z9, z10⟩ := HZ.out.1.c11
  try simp only at z0 z1 z2 z3 z4 z5 z6 z7 z8 z9 z10
  exact bodyPost_ret (v := .agg #[.int .i64 6, .string x.id, .int .i64 0, .int .i64 0, .int .i64 0, .int .i64 x.a, .int .i64 x.b, .int .i64 x.c, .int .i64 x.d, .int .i64 x.e, .int .i64 x.f]) (by simp [results, Tryd.results22, go_sem, z0, z1, z2, z3, z4, z5, z6, z7, z8, z9, z10]; try rfl) rfl ⟨by rw [HF.out] <;> rfl, HZ.out.2⟩
theorem bare_7 (x : Cl) (w : World) (hk : x.k = 7) : Calls Tryd.prog 22 #[x.val] w fun y w' => y = .returned (bareC x).val ∧ Below w.heap.size w w' := by
  have HF : Hid (bareC x = ⟨7, x.id, 0, 0, 0, 0, 0, 0, 0, 0, 0⟩) := Lib.hid (by unfold bareC; simp [hk])
  have HN : Hid (∀ W, Calls Tryd.prog 46 #[.int .i64 7] W fun y w' => y = .returned (.bool true) ∧ W = w') := Lib.hid (fun W => named_any 7 W)
  obtain ⟨WA, hWA⟩ : ∃ WA, ((w.alloc (.cells #[.int .i64 7, .string x.id, .int .i64 x.tick, .int .i64 x.value, .int .i64 x.handle, .int .i64 x.a, .int .i64 x.b, .int .i64 x.c, .int .i64 x.d, .int .i64 x.e, .int .i64 x.f] 35)).alloc (.cells #[.int .i64 0, .string ⟨#[]⟩, .int .i64 0, .int .i64 0, .int .i64 0, .int .i64 0, .int .i64 0, .int .i64 0, .int .i64 0, .int .i64 0, .int .i64 0] 35)).alloc (.cells #[.int .i64 7, .string ⟨#[]⟩, .int .i64 0, .int .i64 0, .int .i64 0, .int .i64 0, .int .i64 0, .int .i64 0, .int .i64 0, .int .i64 0, .int .i64 0] 35) = WA := ⟨_, rfl⟩
  have gx : Blk WA w.heap.size 35 (Cl.arr ⟨7, x.id, x.tick, x.value, x.handle, x.a, x.b, x.c, x.d, x.e, x.f⟩) := by rw [← hWA]; exact ((Blk.new_at _ _ _ rfl).alloc _).alloc _
  have gz : Blk WA (w.heap.size + 1) 35 Cl.zero.arr := by rw [← hWA]; exact (Blk.new_at _ _ _ (by simp)).alloc _
  have g3 : Blk WA (w.heap.size + 2) 35 (Cl.arr ⟨7, ⟨#[]⟩, 0, 0, 0, 0, 0, 0, 0, 0, 0⟩) := by rw [← hWA]; exact Blk.new_at _ _ _ (by simp)
  have hbb : Below w.heap.size w WA := by rw [← hWA]; exact sub_alloc (sub_alloc (sub_alloc (Below.refl _ w) _) _) _
  have HWA := Lib.hid hWA
  have HG := Lib.hid (And.intro gx (And.intro gz (And.intro g3 hbb)))
  clear hWA gx gz g3 hbb
  unfold Cl.val Cl.arr
  rw [hk]
  clear hk
  go_enter Tryd.func22, Tryd.ntmps22
  go_wp2_with fail
  refine (HN.out _).mono ?_
  rintro y w1 ⟨rfl, rfl⟩
  rw [HWA.out]
  obtain ⟨c0, c1, c2, c3, c4, c5, c6, c7, c8, c9, c10⟩ := HG.out.1.c11
  obtain ⟨d0, d1, d2, d3, d4, d5, d6, d7, d8, d9, d10⟩ := HG.out.2.2.1.c11
  have f3 := HG.out.2.2.1.frozen
  try simp only [Cl.arr] at c0 c1 c2 c3 c4 c5 c6 c7 c8 c9 c10 d0 d1 d2 d3 d4 d5 d6 d7 d8 d9 d10
  have hF := (HG.out.2.2.1.set_ 1 (.string x.id))
  simp only [Cl.arr, List.setIfInBounds_toArray, List.set_cons_zero, List.set_cons_succ] at hF
  have hF : Blk _ _ 35 (Cl.arr ⟨7, x.id, 0, 0, 0, 0, 0, 0, 0, 0, 0⟩) := hF
  have HH := Lib.hid (And.intro (HG.out.1.far (p := ⟨w.heap.size + 2, 1, none⟩) (by simp) (.string x.id)) (And.intro (HG.out.2.1.far (p := ⟨w.heap.size + 2, 1, none⟩) (by simp) (.string x.id)) (And.intro hF (HG.out.2.2.2.setCell (p := ⟨w.heap.size + 2, 1, none⟩) (by simp) (.string x.id)))))
  clear hF
  have gz := HH.out.2.1
  have hbb := HH.out.2.2.2
  obtain ⟨p0, p1, p2, p3, p4, p5, p6, p7, p8, p9, p10⟩ := HH.out.2.2.1.c11
  obtain ⟨q0, q1, q2, q3, q4, q5, q6, q7, q8, q9, q10⟩ := HH.out.1.c11
  try simp only [Cl.arr] at p0 p1 p2 p3 p4 p5 p6 p7 p8 p9 p10 q0 q1 q2 q3 q4 q5 q6 q7 q8 q9 q10
  obtain ⟨r0, r1, r2, r3, r4, r5, r6, r7, r8, r9, r10⟩ := gz.c11
  have f0 := gz.frozen
  have z := gz.stCl ⟨7, x.id, 0, 0, 0, 0, 0, 0, 0, 0, 0⟩
  have hz := below_stCl hbb (g := w.heap.size + 1) (by omega) ⟨7, x.id, 0, 0, 0, 0, 0, 0, 0, 0, 0⟩
  have HZ := Lib.hid (And.intro z hz)
  clear z hz gz hbb
  unfold stCl at HZ
  go_wp2
  obtain ⟨z0, z1, z2, z3, z4, z5, z6, z7, z8, z9, z10⟩ := HZ.out.1.c11
  try simp only at z0 z1 z2 z3 z4 z5 z6 z7 z8 z9 z10
  exact bodyPost_ret (v := .agg #[.int .i64 7, .string x.id, .int .i64 0, .int .i64 0, .int .i64 0, .int .i64 0, .int .i64 0, .int .i64 0, .int .i64 0, .int .i64 0, .int .i64 0]) (by simp [results, Tryd.results22, go_sem, z0, z1, z2, z3, z4, z5, z6, z7, z8, z9, z10]; try rfl) rfl ⟨by rw [HF.out] <;> rfl, HZ.out.2⟩
theorem bare_0 (x : Cl) (w : World) (hk : x.k ≠ 1 ∧ x.k ≠ 2 ∧ x.k ≠ 4 ∧ x.k ≠ 5 ∧ x.k ≠ 6 ∧ x.k ≠ 7) : Calls Tryd.prog 22 #[x.val] w fun y w' => y = .returned (bareC x).val ∧ Below w.heap.size w w' := by
  obtain ⟨k1, k2, k4, k5, k6, k7⟩ := hk
  have HF : Hid (bareC x = ⟨x.k, ⟨#[]⟩, 0, 0, 0, 0, 0, 0, 0, 0, 0⟩) := Lib.hid (by unfold bareC; simp [k1, k2, k4, k5, k6, k7]; try rfl)
  have e1 : (x.k == 1) = false := by simpa using k1
  have e2 : (x.k == 2) = false := by simpa using k2
  have e4 : (x.k == 4) = false := by simpa using k4
  have e5 : (x.k == 5) = false := by simpa using k5
  have e6 : (x.k == 6) = false := by simpa using k6
  have e7 : (x.k == 7) = false := by simpa using k7
  have HN : Hid (∀ W, Calls Tryd.prog 46 #[.int .i64 x.k] W fun y w' => y = .returned (.bool false) ∧ W = w') := Lib.hid (fun W => by
    have h := named_any x.k W
    have e : namedK x.k = false := by unfold namedK; rw [e1, e5, e6, e7]; rfl
    rw [e] at h
    exact h)
  clear k1 k2 k4 k5 k6 k7
  obtain ⟨WA, hWA⟩ : ∃ WA, ((w.alloc (.cells #[.int .i64 x.k, .string x.id, .int .i64 x.tick, .int .i64 x.value, .int .i64 x.handle, .int .i64 x.a, .int .i64 x.b, .int .i64 x.c, .int .i64 x.d, .int .i64 x.e, .int .i64 x.f] 35)).alloc (.cells #[.int .i64 0, .string ⟨#[]⟩, .int .i64 0, .int .i64 0, .int .i64 0, .int .i64 0, .int .i64 0, .int .i64 0, .int .i64 0, .int .i64 0, .int .i64 0] 35)).alloc (.cells #[.int .i64 x.k, .string ⟨#[]⟩, .int .i64 0, .int .i64 0, .int .i64 0, .int .i64 0, .int .i64 0, .int .i64 0, .int .i64 0, .int .i64 0, .int .i64 0] 35) = WA := ⟨_, rfl⟩
  have gx : Blk WA w.heap.size 35 (Cl.arr x) := by rw [← hWA]; exact ((Blk.new_at _ _ _ rfl).alloc _).alloc _
  have gz : Blk WA (w.heap.size + 1) 35 Cl.zero.arr := by rw [← hWA]; exact (Blk.new_at _ _ _ (by simp)).alloc _
  have g3 : Blk WA (w.heap.size + 2) 35 (Cl.arr ⟨x.k, ⟨#[]⟩, 0, 0, 0, 0, 0, 0, 0, 0, 0⟩) := by rw [← hWA]; exact Blk.new_at _ _ _ (by simp)
  have hbb : Below w.heap.size w WA := by rw [← hWA]; exact sub_alloc (sub_alloc (sub_alloc (Below.refl _ w) _) _) _
  have HWA := Lib.hid hWA
  have HG := Lib.hid (And.intro gx (And.intro gz (And.intro g3 hbb)))
  clear hWA gx gz g3 hbb
  unfold Cl.val Cl.arr
  go_enter Tryd.func22, Tryd.ntmps22
  go_wp2_with fail
  refine (HN.out _).mono ?_
  rintro y w1 ⟨rfl, rfl⟩
  rw [HWA.out]
  obtain ⟨c0, c1, c2, c3, c4, c5, c6, c7, c8, c9, c10⟩ := HG.out.1.c11
  obtain ⟨d0, d1, d2, d3, d4, d5, d6, d7, d8, d9, d10⟩ := HG.out.2.2.1.c11
  have f3 := HG.out.2.2.1.frozen
  try simp only [Cl.arr] at c0 c1 c2 c3 c4 c5 c6 c7 c8 c9 c10 d0 d1 d2 d3 d4 d5 d6 d7 d8 d9 d10
  have hF := HG.out.2.2.1
  have hF : Blk _ _ 35 (Cl.arr ⟨x.k, ⟨#[]⟩, 0, 0, 0, 0, 0, 0, 0, 0, 0⟩) := hF
  have HH := Lib.hid (And.intro HG.out.1 (And.intro HG.out.2.1 (And.intro hF HG.out.2.2.2)))
  clear hF
  have gz := HH.out.2.1
  have hbb := HH.out.2.2.2
  obtain ⟨r0, r1, r2, r3, r4, r5, r6, r7, r8, r9, r10⟩ := gz.c11
  have f0 := gz.frozen
  have z := gz.stCl ⟨x.k, ⟨#[]⟩, 0, 0, 0, 0, 0, 0, 0, 0, 0⟩
  have hz := below_stCl hbb (g := w.heap.size + 1) (by omega) ⟨x.k, ⟨#[]⟩, 0, 0, 0, 0, 0, 0, 0, 0, 0⟩
  have HZ := Lib.hid (And.intro z hz)
  clear z hz gz hbb
  unfold stCl at HZ
  go_wp2
  obtain ⟨z0, z1, z2, z3, z4, z5, z6, z7, z8, z9, z10⟩ := HZ.out.1.c11
  try simp only at z0 z1 z2 z3 z4 z5 z6 z7 z8 z9 z10
  exact bodyPost_ret (v := .agg #[.int .i64 x.k, .string ⟨#[]⟩, .int .i64 0, .int .i64 0, .int .i64 0, .int .i64 0, .int .i64 0, .int .i64 0, .int .i64 0, .int .i64 0, .int .i64 0]) (by simp [results, Tryd.results22, go_sem, z0, z1, z2, z3, z4, z5, z6, z7, z8, z9, z10]; try rfl) rfl ⟨by rw [HF.out] <;> rfl, HZ.out.2⟩
theorem bare_any (x : Cl) (w : World) : Calls Tryd.prog 22 #[x.val] w fun y w' => y = .returned (bareC x).val ∧ Below w.heap.size w w' := by
  by_cases h1 : x.k = 1
  · exact bare_1 x w h1
  by_cases h2 : x.k = 2
  · exact bare_2 x w h2
  by_cases h4 : x.k = 4
  · exact bare_4 x w h4
  by_cases h5 : x.k = 5
  · exact bare_5 x w h5
  by_cases h6 : x.k = 6
  · exact bare_6 x w h6
  by_cases h7 : x.k = 7
  · exact bare_7 x w h7
  exact bare_0 x w ⟨h1, h2, h4, h5, h6, h7⟩
theorem rbare_1 (x : Cl) (w : World) (hk : x.k = 1) : Calls Tryd.prog 23 #[x.val] w fun y w' => y = .returned (bareC x).val ∧ Below w.heap.size w w' := by
  have HF : Hid (bareC x = ⟨1, x.id, x.tick, x.value, 0, 0, 0, 0, 0, 0, 0⟩) := Lib.hid (by unfold bareC; simp [hk])
  obtain ⟨WA, hWA⟩ : ∃ WA, ((w.alloc (.cells #[.int .i64 1, .string x.id, .int .i64 x.tick, .int .i64 x.value, .int .i64 x.handle, .int .i64 x.a, .int .i64 x.b, .int .i64 x.c, .int .i64 x.d, .int .i64 x.e, .int .i64 x.f] 35)).alloc (.cells #[.int .i64 0, .string ⟨#[]⟩, .int .i64 0, .int .i64 0, .int .i64 0, .int .i64 0, .int .i64 0, .int .i64 0, .int .i64 0, .int .i64 0, .int .i64 0] 35)).alloc (.cells #[.int .i64 1, .string ⟨#[]⟩, .int .i64 0, .int .i64 0, .int .i64 0, .int .i64 0, .int .i64 0, .int .i64 0, .int .i64 0, .int .i64 0, .int .i64 0] 35) = WA := ⟨_, rfl⟩
  have gx : Blk WA w.heap.size 35 (Cl.arr ⟨1, x.id, x.tick, x.value, x.handle, x.a, x.b, x.c, x.d, x.e, x.f⟩) := by rw [← hWA]; exact ((Blk.new_at _ _ _ rfl).alloc _).alloc _
  have gz : Blk WA (w.heap.size + 1) 35 Cl.zero.arr := by rw [← hWA]; exact (Blk.new_at _ _ _ (by simp)).alloc _
  have g3 : Blk WA (w.heap.size + 2) 35 (Cl.arr ⟨1, ⟨#[]⟩, 0, 0, 0, 0, 0, 0, 0, 0, 0⟩) := by rw [← hWA]; exact Blk.new_at _ _ _ (by simp)
  have hbb : Below w.heap.size w WA := by rw [← hWA]; exact sub_alloc (sub_alloc (sub_alloc (Below.refl _ w) _) _) _
  have HWA := Lib.hid hWA
  have HG := Lib.hid (And.intro gx (And.intro gz (And.intro g3 hbb)))
  clear hWA gx gz g3 hbb
  unfold Cl.val Cl.arr
  rw [hk]
  clear hk
  go_enter Tryd.func23, Tryd.ntmps23
  clear HG HWA WA
  go_wp2
  exact bodyPost_ret (v := .agg #[.int .i64 1, .string x.id, .int .i64 x.tick, .int .i64 x.value, .int .i64 0, .int .i64 0, .int .i64 0, .int .i64 0, .int .i64 0, .int .i64 0, .int .i64 0]) (by simp [results, Tryd.results23, go_sem]) rfl ⟨by rw [HF.out] <;> rfl, sub_alloc (sub_alloc (sub_alloc (Below.refl _ w) _) _) _⟩
theorem rbare_2 (x : Cl) (w : World) (hk : x.k = 2) : Calls Tryd.prog 23 #[x.val] w fun y w' => y = .returned (bareC x).val ∧ Below w.heap.size w w' := by
  have HF : Hid (bareC x = ⟨2, ⟨#[]⟩, x.tick, 0, 0, 0, 0, 0, 0, 0, 0⟩) := Lib.hid (by unfold bareC; simp [hk]; try rfl)
  obtain ⟨WA, hWA⟩ : ∃ WA, ((w.alloc (.cells #[.int .i64 2, .string x.id, .int .i64 x.tick, .int .i64 x.value, .int .i64 x.handle, .int .i64 x.a, .int .i64 x.b, .int .i64 x.c, .int .i64 x.d, .int .i64 x.e, .int .i64 x.f] 35)).alloc (.cells #[.int .i64 0, .string ⟨#[]⟩, .int .i64 0, .int .i64 0, .int .i64 0, .int .i64 0, .int .i64 0, .int .i64 0, .int .i64 0, .int .i64 0, .int .i64 0] 35)).alloc (.cells #[.int .i64 2, .string ⟨#[]⟩, .int .i64 0, .int .i64 0, .int .i64 0, .int .i64 0, .int .i64 0, .int .i64 0, .int .i64 0, .int .i64 0, .int .i64 0] 35) = WA := ⟨_, rfl⟩
  have gx : Blk WA w.heap.size 35 (Cl.arr ⟨2, x.id, x.tick, x.value, x.handle, x.a, x.b, x.c, x.d, x.e, x.f⟩) := by rw [← hWA]; exact ((Blk.new_at _ _ _ rfl).alloc _).alloc _
  have gz : Blk WA (w.heap.size + 1) 35 Cl.zero.arr := by rw [← hWA]; exact (Blk.new_at _ _ _ (by simp)).alloc _
  have g3 : Blk WA (w.heap.size + 2) 35 (Cl.arr ⟨2, ⟨#[]⟩, 0, 0, 0, 0, 0, 0, 0, 0, 0⟩) := by rw [← hWA]; exact Blk.new_at _ _ _ (by simp)
  have hbb : Below w.heap.size w WA := by rw [← hWA]; exact sub_alloc (sub_alloc (sub_alloc (Below.refl _ w) _) _) _
  have HWA := Lib.hid hWA
  have HG := Lib.hid (And.intro gx (And.intro gz (And.intro g3 hbb)))
  clear hWA gx gz g3 hbb
  unfold Cl.val Cl.arr
  rw [hk]
  clear hk
  go_enter Tryd.func23, Tryd.ntmps23
  clear HG HWA WA
  go_wp2
  exact bodyPost_ret (v := .agg #[.int .i64 2, .string ⟨#[]⟩, .int .i64 x.tick, .int .i64 0, .int .i64 0, .int .i64 0, .int .i64 0, .int .i64 0, .int .i64 0, .int .i64 0, .int .i64 0]) (by simp [results, Tryd.results23, go_sem]) rfl ⟨by rw [HF.out] <;> rfl, sub_alloc (sub_alloc (sub_alloc (Below.refl _ w) _) _) _⟩
theorem rbare_4 (x : Cl) (w : World) (hk : x.k = 4) : Calls Tryd.prog 23 #[x.val] w fun y w' => y = .returned (bareC x).val ∧ Below w.heap.size w w' := by
  have HF : Hid (bareC x = ⟨4, ⟨#[]⟩, 0, 0, x.handle, 0, 0, 0, 0, 0, 0⟩) := Lib.hid (by unfold bareC; simp [hk]; try rfl)
  obtain ⟨WA, hWA⟩ : ∃ WA, ((w.alloc (.cells #[.int .i64 4, .string x.id, .int .i64 x.tick, .int .i64 x.value, .int .i64 x.handle, .int .i64 x.a, .int .i64 x.b, .int .i64 x.c, .int .i64 x.d, .int .i64 x.e, .int .i64 x.f] 35)).alloc (.cells #[.int .i64 0, .string ⟨#[]⟩, .int .i64 0, .int .i64 0, .int .i64 0, .int .i64 0, .int .i64 0, .int .i64 0, .int .i64 0, .int .i64 0, .int .i64 0] 35)).alloc (.cells #[.int .i64 4, .string ⟨#[]⟩, .int .i64 0, .int .i64 0, .int .i64 0, .int .i64 0, .int .i64 0, .int .i64 0, .int .i64 0, .int .i64 0, .int .i64 0] 35) = WA := ⟨_, rfl⟩
  have gx : Blk WA w.heap.size 35 (Cl.arr ⟨4, x.id, x.tick, x.value, x.handle, x.a, x.b, x.c, x.d, x.e, x.f⟩) := by rw [← hWA]; exact ((Blk.new_at _ _ _ rfl).alloc _).alloc _
  have gz : Blk WA (w.heap.size + 1) 35 Cl.zero.arr := by rw [← hWA]; exact (Blk.new_at _ _ _ (by simp)).alloc _
  have g3 : Blk WA (w.heap.size + 2) 35 (Cl.arr ⟨4, ⟨#[]⟩, 0, 0, 0, 0, 0, 0, 0, 0, 0⟩) := by rw [← hWA]; exact Blk.new_at _ _ _ (by simp)
  have hbb : Below w.heap.size w WA := by rw [← hWA]; exact sub_alloc (sub_alloc (sub_alloc (Below.refl _ w) _) _) _
  have HWA := Lib.hid hWA
  have HG := Lib.hid (And.intro gx (And.intro gz (And.intro g3 hbb)))
  clear hWA gx gz g3 hbb
  unfold Cl.val Cl.arr
  rw [hk]
  clear hk
  go_enter Tryd.func23, Tryd.ntmps23
  clear HG HWA WA
  go_wp2
  exact bodyPost_ret (v := .agg #[.int .i64 4, .string ⟨#[]⟩, .int .i64 0, .int .i64 0, .int .i64 x.handle, .int .i64 0, .int .i64 0, .int .i64 0, .int .i64 0, .int .i64 0, .int .i64 0]) (by simp [results, Tryd.results23, go_sem]) rfl ⟨by rw [HF.out] <;> rfl, sub_alloc (sub_alloc (sub_alloc (Below.refl _ w) _) _) _⟩
theorem rbare_5 (x : Cl) (w : World) (hk : x.k = 5) : Calls Tryd.prog 23 #[x.val] w fun y w' => y = .returned (bareC x).val ∧ Below w.heap.size w w' := by
  have HF : Hid (bareC x = ⟨5, x.id, x.tick, x.value, x.handle, 0, 0, 0, 0, 0, 0⟩) := Lib.hid (by unfold bareC; simp [hk])
  obtain ⟨WA, hWA⟩ : ∃ WA, ((w.alloc (.cells #[.int .i64 5, .string x.id, .int .i64 x.tick, .int .i64 x.value, .int .i64 x.handle, .int .i64 x.a, .int .i64 x.b, .int .i64 x.c, .int .i64 x.d, .int .i64 x.e, .int .i64 x.f] 35)).alloc (.cells #[.int .i64 0, .string ⟨#[]⟩, .int .i64 0, .int .i64 0, .int .i64 0, .int .i64 0, .int .i64 0, .int .i64 0, .int .i64 0, .int .i64 0, .int .i64 0] 35)).alloc (.cells #[.int .i64 5, .string ⟨#[]⟩, .int .i64 0, .int .i64 0, .int .i64 0, .int .i64 0, .int .i64 0, .int .i64 0, .int .i64 0, .int .i64 0, .int .i64 0] 35) = WA := ⟨_, rfl⟩
  have gx : Blk WA w.heap.size 35 (Cl.arr ⟨5, x.id, x.tick, x.value, x.handle, x.a, x.b, x.c, x.d, x.e, x.f⟩) := by rw [← hWA]; exact ((Blk.new_at _ _ _ rfl).alloc _).alloc _
  have gz : Blk WA (w.heap.size + 1) 35 Cl.zero.arr := by rw [← hWA]; exact (Blk.new_at _ _ _ (by simp)).alloc _
  have g3 : Blk WA (w.heap.size + 2) 35 (Cl.arr ⟨5, ⟨#[]⟩, 0, 0, 0, 0, 0, 0, 0, 0, 0⟩) := by rw [← hWA]; exact Blk.new_at _ _ _ (by simp)
  have hbb : Below w.heap.size w WA := by rw [← hWA]; exact sub_alloc (sub_alloc (sub_alloc (Below.refl _ w) _) _) _
  have HWA := Lib.hid hWA
  have HG := Lib.hid (And.intro gx (And.intro gz (And.intro g3 hbb)))
  clear hWA gx gz g3 hbb
  unfold Cl.val Cl.arr
  rw [hk]
  clear hk
  go_enter Tryd.func23, Tryd.ntmps23
  clear HG HWA WA
  go_wp2
  exact bodyPost_ret (v := .agg #[.int .i64 5, .string x.id, .int .i64 x.tick, .int .i64 x.value, .int .i64 x.handle, .int .i64 0, .int .i64 0, .int .i64 0, .int .i64 0, .int .i64 0, .int .i64 0]) (by simp [results, Tryd.results23, go_sem]) rfl ⟨by rw [HF.out] <;> rfl, sub_alloc (sub_alloc (sub_alloc (Below.refl _ w) _) _) _⟩
theorem rbare_6 (x : Cl) (w : World) (hk : x.k = 6) : Calls Tryd.prog 23 #[x.val] w fun y w' => y = .returned (bareC x).val ∧ Below w.heap.size w w' := by
  have HF : Hid (bareC x = ⟨6, x.id, 0, 0, 0, x.a, x.b, x.c, x.d, x.e, x.f⟩) := Lib.hid (by unfold bareC; simp [hk])
  obtain ⟨WA, hWA⟩ : ∃ WA, ((w.alloc (.cells #[.int .i64 6, .string x.id, .int .i64 x.tick, .int .i64 x.value, .int .i64 x.handle, .int .i64 x.a, .int .i64 x.b, .int .i64 x.c, .int .i64 x.d, .int .i64 x.e, .int .i64 x.f] 35)).alloc (.cells #[.int .i64 0, .string ⟨#[]⟩, .int .i64 0, .int .i64 0, .int .i64 0, .int .i64 0, .int .i64 0, .int .i64 0, .int .i64 0, .int .i64 0, .int .i64 0] 35)).alloc (.cells #[.int .i64 6, .string ⟨#[]⟩, .int .i64 0, .int .i64 0, .int .i64 0, .int .i64 0, .int .i64 0, .int .i64 0, .int .i64 0, .int .i64 0, .int .i64 0] 35) = WA := ⟨_, rfl⟩
  have gx : Blk WA w.heap.size 35 (Cl.arr ⟨6, x.id, x.tick, x.value, x.handle, x.a, x.b, x.c, x.d, x.e, x.f⟩) := by rw [← hWA]; exact ((Blk.new_at _ _ _ rfl).alloc _).alloc _
  have gz : Blk WA (w.heap.size + 1) 35 Cl.zero.arr := by rw [← hWA]; exact (Blk.new_at _ _ _ (by simp)).alloc _
  have g3 : Blk WA (w.heap.size + 2) 35 (Cl.arr ⟨6, ⟨#[]⟩, 0, 0, 0, 0, 0, 0, 0, 0, 0⟩) := by rw [← hWA]; exact Blk.new_at _ _ _ (by simp)
  have hbb : Below w.heap.size w WA := by rw [← hWA]; exact sub_alloc (sub_alloc (sub_alloc (Below.refl _ w) _) _) _
  have HWA := Lib.hid hWA
  have HG := Lib.hid (And.intro gx (And.intro gz (And.intro g3 hbb)))
  clear hWA gx gz g3 hbb
  unfold Cl.val Cl.arr
  rw [hk]
  clear hk
  go_enter Tryd.func23, Tryd.ntmps23
  clear HG HWA WA
  go_wp2
  exact bodyPost_ret (v := .agg #[.int .i64 6, .string x.id, .int .i64 0, .int .i64 0, .int .i64 0, .int .i64 x.a, .int .i64 x.b, .int .i64 x.c, .int .i64 x.d, .int .i64 x.e, .int .i64 x.f]) (by simp [results, Tryd.results23, go_sem]) rfl ⟨by rw [HF.out] <;> rfl, sub_alloc (sub_alloc (sub_alloc (Below.refl _ w) _) _) _⟩
theorem rbare_7 (x : Cl) (w : World) (hk : x.k = 7) : Calls Tryd.prog 23 #[x.val] w fun y w' => y = .returned (bareC x).val ∧ Below w.heap.size w w' := by
  have HF : Hid (bareC x = ⟨7, x.id, 0, 0, 0, 0, 0, 0, 0, 0, 0⟩) := Lib.hid (by unfold bareC; simp [hk])
  obtain ⟨WA, hWA⟩ : ∃ WA, ((w.alloc (.cells #[.int .i64 7, .string x.id, .int .i64 x.tick, .int .i64 x.value, .int .i64 x.handle, .int .i64 x.a, .int .i64 x.b, .int .i64 x.c, .int .i64 x.d, .int .i64 x.e, .int .i64 x.f] 35)).alloc (.cells #[.int .i64 0, .string ⟨#[]⟩, .int .i64 0, .int .i64 0, .int .i64 0, .int .i64 0, .int .i64 0, .int .i64 0, .int .i64 0, .int .i64 0, .int .i64 0] 35)).alloc (.cells #[.int .i64 7, .string ⟨#[]⟩, .int .i64 0, .int .i64 0, .int .i64 0, .int .i64 0, .int .i64 0, .int .i64 0, .int .i64 0, .int .i64 0, .int .i64 0] 35) = WA := ⟨_, rfl⟩
  have gx : Blk WA w.heap.size 35 (Cl.arr ⟨7, x.id, x.tick, x.value, x.handle, x.a, x.b, x.c, x.d, x.e, x.f⟩) := by rw [← hWA]; exact ((Blk.new_at _ _ _ rfl).alloc _).alloc _
  have gz : Blk WA (w.heap.size + 1) 35 Cl.zero.arr := by rw [← hWA]; exact (Blk.new_at _ _ _ (by simp)).alloc _
  have g3 : Blk WA (w.heap.size + 2) 35 (Cl.arr ⟨7, ⟨#[]⟩, 0, 0, 0, 0, 0, 0, 0, 0, 0⟩) := by rw [← hWA]; exact Blk.new_at _ _ _ (by simp)
  have hbb : Below w.heap.size w WA := by rw [← hWA]; exact sub_alloc (sub_alloc (sub_alloc (Below.refl _ w) _) _) _
  have HWA := Lib.hid hWA
  have HG := Lib.hid (And.intro gx (And.intro gz (And.intro g3 hbb)))
  clear hWA gx gz g3 hbb
  unfold Cl.val Cl.arr
  rw [hk]
  clear hk
  go_enter Tryd.func23, Tryd.ntmps23
  clear HG HWA WA
  go_wp2
  exact bodyPost_ret (v := .agg #[.int .i64 7, .string x.id, .int .i64 0, .int .i64 0, .int .i64 0, .int .i64 0, .int .i64 0, .int .i64 0, .int .i64 0, .int .i64 0, .int .i64 0]) (by simp [results, Tryd.results23, go_sem]) rfl ⟨by rw [HF.out] <;> rfl, sub_alloc (sub_alloc (sub_alloc (Below.refl _ w) _) _) _⟩
theorem rbare_0 (x : Cl) (w : World) (hk : x.k ≠ 1 ∧ x.k ≠ 2 ∧ x.k ≠ 4 ∧ x.k ≠ 5 ∧ x.k ≠ 6 ∧ x.k ≠ 7) : Calls Tryd.prog 23 #[x.val] w fun y w' => y = .returned (bareC x).val ∧ Below w.heap.size w w' := by
  obtain ⟨k1, k2, k4, k5, k6, k7⟩ := hk
  have HF : Hid (bareC x = ⟨x.k, ⟨#[]⟩, 0, 0, 0, 0, 0, 0, 0, 0, 0⟩) := Lib.hid (by unfold bareC; simp [k1, k2, k4, k5, k6, k7]; try rfl)
  have e1 : (x.k == 1) = false := by simpa using k1
  have e2 : (x.k == 2) = false := by simpa using k2
  have e4 : (x.k == 4) = false := by simpa using k4
  have e5 : (x.k == 5) = false := by simpa using k5
  have e6 : (x.k == 6) = false := by simpa using k6
  have e7 : (x.k == 7) = false := by simpa using k7
  clear k1 k2 k4 k5 k6 k7
  obtain ⟨WA, hWA⟩ : ∃ WA, ((w.alloc (.cells #[.int .i64 x.k, .string x.id, .int .i64 x.tick, .int .i64 x.value, .int .i64 x.handle, .int .i64 x.a, .int .i64 x.b, .int .i64 x.c, .int .i64 x.d, .int .i64 x.e, .int .i64 x.f] 35)).alloc (.cells #[.int .i64 0, .string ⟨#[]⟩, .int .i64 0, .int .i64 0, .int .i64 0, .int .i64 0, .int .i64 0, .int .i64 0, .int .i64 0, .int .i64 0, .int .i64 0] 35)).alloc (.cells #[.int .i64 x.k, .string ⟨#[]⟩, .int .i64 0, .int .i64 0, .int .i64 0, .int .i64 0, .int .i64 0, .int .i64 0, .int .i64 0, .int .i64 0, .int .i64 0] 35) = WA := ⟨_, rfl⟩
  have gx : Blk WA w.heap.size 35 (Cl.arr x) := by rw [← hWA]; exact ((Blk.new_at _ _ _ rfl).alloc _).alloc _
  have gz : Blk WA (w.heap.size + 1) 35 Cl.zero.arr := by rw [← hWA]; exact (Blk.new_at _ _ _ (by simp)).alloc _
  have g3 : Blk WA (w.heap.size + 2) 35 (Cl.arr ⟨x.k, ⟨#[]⟩, 0, 0, 0, 0, 0, 0, 0, 0, 0⟩) := by rw [← hWA]; exact Blk.new_at _ _ _ (by simp)
  have hbb : Below w.heap.size w WA := by rw [← hWA]; exact sub_alloc (sub_alloc (sub_alloc (Below.refl _ w) _) _) _
  have HWA := Lib.hid hWA
  have HG := Lib.hid (And.intro gx (And.intro gz (And.intro g3 hbb)))
  clear hWA gx gz g3 hbb
  unfold Cl.val Cl.arr
  go_enter Tryd.func23, Tryd.ntmps23
  clear HG HWA WA
  go_wp2
  exact bodyPost_ret (v := .agg #[.int .i64 x.k, .string ⟨#[]⟩, .int .i64 0, .int .i64 0, .int .i64 0, .int .i64 0, .int .i64 0, .int .i64 0, .int .i64 0, .int .i64 0, .int .i64 0]) (by simp [results, Tryd.results23, go_sem]) rfl ⟨by rw [HF.out] <;> rfl, sub_alloc (sub_alloc (sub_alloc (Below.refl _ w) _) _) _⟩
theorem rbare_any (x : Cl) (w : World) : Calls Tryd.prog 23 #[x.val] w fun y w' => y = .returned (bareC x).val ∧ Below w.heap.size w w' := by
  by_cases h1 : x.k = 1
  · exact rbare_1 x w h1
  by_cases h2 : x.k = 2
  · exact rbare_2 x w h2
  by_cases h4 : x.k = 4
  · exact rbare_4 x w h4
  by_cases h5 : x.k = 5
  · exact rbare_5 x w h5
  by_cases h6 : x.k = 6
  · exact rbare_6 x w h6
  by_cases h7 : x.k = 7
  · exact rbare_7 x w h7
  exact rbare_0 x w ⟨h1, h2, h4, h5, h6, h7⟩
end Go.Proofs.YteljecehppeamaaDoor
