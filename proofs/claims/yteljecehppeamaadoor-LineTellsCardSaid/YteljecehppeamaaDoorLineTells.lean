/-
  LineTells walked (chapter 41). Conditions: strconv's table and errors lie in memory, a number in internal/bytealg.MaxLen.
-/
import Derived.Test.YteljecehppeamaaDoorLineParses
import Derived.Test.YteljecehppeamaaDoorLinBare
namespace Go.Fw
open Go.RowKit
theorem bare_ok {x : Cl} (h : x.ok) : (bareC x).ok := by
  have e0 : ByteArray.empty.size ≤ 100000 := by decide
  have z6 : In6 0 0 0 0 0 0 := ⟨zero_in, zero_in, zero_in, zero_in, zero_in, zero_in⟩
  have k1 : ∀ {n : Int}, 0 ≤ n ∧ n ≤ 9 → In64 n := fun h => ⟨by omega, by omega⟩
  unfold bareC
  repeat' split
  · exact ⟨k1 (by simp), h.tick, h.value, zero_in, z6, h.id⟩
  · exact ⟨k1 (by simp), h.tick, zero_in, zero_in, z6, e0⟩
  · exact ⟨k1 (by simp), zero_in, zero_in, h.handle, z6, e0⟩
  · exact ⟨k1 (by simp), h.tick, h.value, h.handle, z6, h.id⟩
  · exact ⟨k1 (by simp), zero_in, zero_in, zero_in, h.pol, h.id⟩
  · exact ⟨k1 (by simp), zero_in, zero_in, zero_in, z6, h.id⟩
  · exact ⟨h.k, zero_in, zero_in, zero_in, z6, e0⟩
/-- the numbers of a call are numbers of 64 bits -/
structure Cl.okN (x : Cl) : Prop where
  k : In64 x.k
  tick : In64 x.tick
  value : In64 x.value
  handle : In64 x.handle
  pol : In6 x.a x.b x.c x.d x.e x.f
  id : x.id.size ≤ maxLen
theorem lineB_size {x : Cl} (hx : x.ok) (he : textE x = 0) : (lineB x).size ≤ 1000 := by
  have hl : ∀ w ∈ lineWs x, w.length ≤ 21 := by
    have hid : namedK x.k = true → x.id.data.toList.length ≤ 20 := fun h => by have := (idOk_at (named_ok he h)).2.1; simpa using this
    have hi : ∀ {n : Int}, In64 n → (Lib.itoa n).length ≤ 21 := fun h => itoa_l h
    have hv : ∀ k, (vbS k).length ≤ 21 := fun k => by have := vbS_len k; omega
    have hk := kind_of he
    have g2 := hi hx.tick
    have g3 := hi hx.value
    have g4 := hi hx.handle
    have gp := polWords_len hx.pol
    rcases hk with h1 | h1 | h1 | h1 | h1 | h1 | h1 | h1
    · have h2 := hid (by rw [h1]; rfl); intro w hw; simp only [lineWs, h1, if_true, List.mem_cons, List.mem_nil_iff, or_false] at hw; rcases hw with rfl | rfl | rfl | rfl <;> first | exact hv _ | omega
    · intro w hw; simp [lineWs, h1] at hw; rcases hw with rfl | rfl <;> first | exact hv _ | omega
    · intro w hw; simp [lineWs, h1] at hw; subst hw; exact hv _
    · intro w hw; simp [lineWs, h1] at hw; rcases hw with rfl | rfl <;> first | exact hv _ | omega
    · have h2 := hid (by rw [h1]; rfl); intro w hw; simp [lineWs, h1] at hw; rcases hw with rfl | rfl | rfl | rfl | rfl <;> first | exact hv _ | omega
    · have h2 := hid (by rw [h1]; rfl); intro w hw; simp [lineWs, h1] at hw; rcases hw with rfl | rfl | hw <;> first | exact hv _ | omega | exact gp _ hw
    · have h2 := hid (by rw [h1]; rfl); intro w hw; simp [lineWs, h1] at hw; rcases hw with rfl | rfl <;> first | exact hv _ | omega
    · intro w hw; simp [lineWs, h1] at hw; subst hw; exact hv _
  have hn : (lineWs x).length ≤ 14 := by
    unfold lineWs
    repeat' split
    all_goals first | (simp; done) | (simp [polWords]; done)
  have h1 := joinS_len 32 21 (lineWs x) hl
  have h2 : (lineB x).size = (joinS 32 (lineWs x)).length := by
    rw [← lineB_list]
    rfl
  have h3 : (lineWs x).length * (21 + 1) ≤ 14 * 22 := Nat.mul_le_mul hn (Nat.le_refl _)
  omega
end Go.Fw
namespace Go.Proofs.YteljecehppeamaaDoor
open Go.RowKit Go.Fw Go.Shelf
set_option maxHeartbeats 1000000
set_option maxRecDepth 100000
set_option linter.unusedVariables false
set_option linter.unusedSimpArgs false
theorem cl_eql (x : Cl) (hx : x.ok) (w : World) : (binOp .eql 35 (.agg #[.int .i64 x.k, .string x.id, .int .i64 x.tick, .int .i64 x.value, .int .i64 x.handle, .int .i64 x.a, .int .i64 x.b, .int .i64 x.c, .int .i64 x.d, .int .i64 x.e, .int .i64 x.f]) (.agg #[.int .i64 x.k, .string x.id, .int .i64 x.tick, .int .i64 x.value, .int .i64 x.handle, .int .i64 x.a, .int .i64 x.b, .int .i64 x.c, .int .i64 x.d, .int .i64 x.e, .int .i64 x.f])).run Tryd.prog w = .ok (.bool true) w := by
  have h := cl_neq x hx w
  rw [run_neq_struct] at h
  rw [run_eql_struct]
  revert h
  generalize (Op.equalIn 10000 35 _ _).run _ w = r
  intro h
  cases r with
  | ok b w' =>
    simp only [Result.andThen_ok, Result.ok.injEq, Value.bool.injEq] at h ⊢
    obtain ⟨h1, h2⟩ := h
    exact ⟨by cases b <;> simp_all, h2⟩
  | halt a b =>
    simp [Result.andThen] at h
theorem ltells_long (x : Cl) (n : Int) (w : World) (hR : Ready w) (hs : x.id.size ≤ maxLen) (h : 100 < x.id.size) : Calls Tryd.prog 7 #[x.val, .int .i64 n] w fun y w' => y = .returned (.bool true) ∧ Below w.heap.size w w' := by
  unfold maxLen at hs
  have hI : (100 : Int) < x.id.size := by omega
  have HB := Lib.hid (sub_alloc (Below.refl _ w) (.cells x.arr 35))
  have HG := Lib.hid (Blk.new_at w 35 x.arr (g := w.heap.size) rfl)
  have HA := Lib.hid (la_awake _ (hR.up HB.out))
  clear hR
  unfold Cl.val Cl.arr
  go_enter Tryd.func7, Tryd.ntmps7
  go_wp2_with fail
  refine HA.out.mono ?_
  rintro y w1 ⟨rfl, hb⟩
  have h1 := sub_trans HB.out hb
  have c1 := (HG.out.later hb).cell 1
  simp only [Cl.arr, List.getElem?_toArray, List.getElem?_cons_succ, List.getElem?_cons_zero] at c1
  clear hb
  go_wp2
  go_ret
  exact ⟨rfl, h1⟩
def boolT (b : Bool) : Prop := b = true
theorem ltells_few (x : Cl) (n : Int) (w : World) (hR : Ready w) (hx : x.ok) (h : x.id.size ≤ 100) : Calls Tryd.prog 7 #[x.val, .int .i64 n] w fun y w' => y = .returned (.bool true) ∧ Below w.heap.size w w' := by
  have hI : ¬ (100 : Int) < x.id.size := by omega
  have HB := Lib.hid (sub_alloc (Below.refl _ w) (.cells x.arr 35))
  have HG := Lib.hid (Blk.new_at w 35 x.arr (g := w.heap.size) rfl)
  have HA := Lib.hid (la_awake _ (hR.up HB.out))
  have HT := Lib.hid (fun W hP => ltext_any x W hP hx)
  have HQ := Lib.hid (fun W => rltext_any x W hx)
  have HV := Lib.hid (fun W => verb_any n W)
  have HW := Lib.hid (fun W => rverb_any n W)
  have HBR := Lib.hid (fun W => bare_any x W)
  have HRB := Lib.hid (fun W => rbare_any x W)
  have hbo := bare_ok hx
  have HNE := Lib.hid (fun W => cl_neq (bareC x) hbo W)
  have HEQ := Lib.hid (fun W => cl_eql (bareC x) hbo W)
  have HP : Hid (textE x = 0 → ∀ W, Ready W → Calls Tryd.prog 16 #[.string (textB x)] W fun y w' => y = .returned (.tuple #[(bareC x).val, .int .i64 0]) ∧ Below W.heap.size W w') := Lib.hid (fun he W hW => by
    have e2 : textB x = lineB x := by unfold textB; rw [if_pos he]
    rw [e2]
    have h := parse_any (lineB x) W hW (lineB_size hx he)
    rw [parse_line hx he] at h
    exact h)
  have HR := Lib.hid hR
  clear hR hbo hx h
  generalize textB x = tb at *
  generalize vbB n.toNat = vn at *
  generalize bareC x = y0 at *
  have hte : textE x = 0 ∨ ¬ textE x = 0 := Decidable.em _
  generalize textE x = te at *
  have hs1 : (tb.toList != tb.toList) = false := by simp
  have hs2 : (vn.toList != vn.toList) = false := by simp
  have hs3 : (te != te) = false := by simp
  have hs1' : (tb.toList == tb.toList) = true := by simp
  have hs2' : (vn.toList == vn.toList) = true := by simp
  unfold Cl.val Cl.arr
  go_enter Tryd.func7, Tryd.ntmps7
  go_wp2_with fail
  refine HA.out.mono ?_
  rintro y w1 ⟨rfl, hb⟩
  have h1 := sub_trans HB.out hb
  have g1 := HG.out.later hb
  obtain ⟨c0, c1, c2, c3, c4, c5, c6, c7, c8, c9, c10⟩ := g1.c11
  clear hb
  go_wp2_with fail
  refine (HT.out _ (HR.out.up h1).tabs.pow).mono ?_
  rintro y w2 ⟨rfl, hb⟩
  have h2 := sub_trans h1 hb
  have g2 := g1.later hb
  clear c0 c1 c2 c3 c4 c5 c6 c7 c8 c9 c10 hb h1 g1
  obtain ⟨c0, c1, c2, c3, c4, c5, c6, c7, c8, c9, c10⟩ := g2.c11
  go_wp2_with fail
  refine (HQ.out _).mono ?_
  rintro y w3 ⟨rfl, hb⟩
  have h3 := sub_trans h2 hb
  have g3 := g2.later hb
  have H3 := Lib.hid (And.intro h3 g3)
  clear c0 c1 c2 c3 c4 c5 c6 c7 c8 c9 c10 hb h2 g2 h3 g3
  go_wp2
  have hS : Below w3.heap.size w3 w3.drew := (Below.refl _ _).drew
  refine any_start (S := fun W => Below w3.heap.size w3 W) (by kernel_rfl) hS ?_
  generalize w3.drew = wd at *
  simp only [List.length_cons, List.length_nil, Nat.reduceAdd, List.size_toArray]
  refine any_pure 0 (v := ?_) rfl (by kernel_rfl) (by intro _ _ _ h; exact h) (by assumption) (by rfl) (fun W hW => ?_) ?_
  rotate_left
  · first | (go_simp; done) | (go_simp; with_reducible rfl)
  try simp only [Act.put, List.setIfInBounds_toArray, List.set_cons_zero, List.set_cons_succ]
  refine any_pure 1 (v := ?_) rfl (by kernel_rfl) (by intro _ _ _ h; exact h) (by assumption) (by rfl) (fun W hW => ?_) ?_
  rotate_left
  · first | (go_simp; done) | (go_simp; with_reducible rfl)
  try simp only [Act.put, List.setIfInBounds_toArray, List.set_cons_zero, List.set_cons_succ]
  refine any_pure 2 (v := ?_) rfl (by kernel_rfl) (by intro _ _ _ h; exact h) (by assumption) (by rfl) (fun W hW => ?_) ?_
  rotate_left
  · first | (go_simp; done) | (go_simp; with_reducible rfl)
  try simp only [Act.put, List.setIfInBounds_toArray, List.set_cons_zero, List.set_cons_succ]
  refine any_pure 3 (v := ?_) rfl (by kernel_rfl) (by intro _ _ _ h; exact h) (by assumption) (by rfl) (fun W hW => ?_) ?_
  rotate_left
  · first | (go_simp; done) | (go_simp; with_reducible rfl)
  try simp only [Act.put, List.setIfInBounds_toArray, List.set_cons_zero, List.set_cons_succ]
  refine any_pure 4 (v := ?_) rfl (by kernel_rfl) (by intro _ _ _ h; exact h) (by assumption) (by rfl) (fun W hW => ?_) ?_
  rotate_left
  · first | (go_simp; done) | (go_simp; with_reducible rfl)
  try simp only [Act.put, List.setIfInBounds_toArray, List.set_cons_zero, List.set_cons_succ]
  refine any_pure 5 (v := ?_) rfl (by kernel_rfl) (by intro _ _ _ h; exact h) (by assumption) (by rfl) (fun W hW => ?_) ?_
  rotate_left
  · first | (go_simp; done) | (go_simp; with_reducible rfl)
  try simp only [Act.put, List.setIfInBounds_toArray, List.set_cons_zero, List.set_cons_succ]
  refine any_pure 6 (v := ?_) rfl (by kernel_rfl) (by intro _ _ _ h; exact h) (by assumption) (by rfl) (fun W hW => ?_) ?_
  rotate_left
  · first | (go_simp; done) | (go_simp; with_reducible rfl)
  try simp only [Act.put, List.setIfInBounds_toArray, List.set_cons_zero, List.set_cons_succ]
  refine any_pure 7 (v := ?_) rfl (by kernel_rfl) (by intro _ _ _ h; exact h) (by assumption) (by rfl) (fun W hW => ?_) ?_
  rotate_left
  · first | (go_simp; done) | (go_simp; with_reducible rfl)
  try simp only [Act.put, List.setIfInBounds_toArray, List.set_cons_zero, List.set_cons_succ]
  refine any_pure 8 (v := ?_) rfl (by kernel_rfl) (by intro _ _ _ h; exact h) (by assumption) (by rfl) (fun W hW => ?_) ?_
  rotate_left
  · first | (go_simp; done) | (go_simp; with_reducible rfl)
  try simp only [Act.put, List.setIfInBounds_toArray, List.set_cons_zero, List.set_cons_succ]
  refine any_pure 9 (v := ?_) rfl (by kernel_rfl) (by intro _ _ _ h; exact h) (by assumption) (by rfl) (fun W hW => ?_) ?_
  rotate_left
  · first | (go_simp; done) | (go_simp; with_reducible rfl)
  try simp only [Act.put, List.setIfInBounds_toArray, List.set_cons_zero, List.set_cons_succ]
  refine any_pure 11 (v := ?_) rfl (by kernel_rfl) (by intro _ _ _ h; exact h) (by assumption) (by rfl) (fun W hW => ?_) ?_
  rotate_left
  · first | (go_simp; done) | (go_simp; with_reducible rfl)
  try simp only [Act.put, List.setIfInBounds_toArray, List.set_cons_zero, List.set_cons_succ]
  refine any_one 10 (by kernel_rfl) rfl (by rfl) (fun K hK => ?_)
  go_simp
  refine (HV.out _).mono ?_
  rintro y v1 ⟨rfl, hb⟩
  replace hS := sub_trans hS hb
  refine hK _ _ hS ?_
  clear hK hb
  try simp only [Act.put, List.setIfInBounds_toArray, List.set_cons_zero, List.set_cons_succ]
  refine any_one 12 (by kernel_rfl) rfl (by rfl) (fun K hK => ?_)
  go_simp
  refine (HW.out _).mono ?_
  rintro y v2 ⟨rfl, hb⟩
  replace hS := sub_trans hS hb
  refine hK _ _ hS ?_
  clear hK hb
  try simp only [Act.put, List.setIfInBounds_toArray, List.set_cons_zero, List.set_cons_succ]
  refine any_pure 13 (v := ?_) rfl (by kernel_rfl) (by intro _ _ _ h; exact h) (by assumption) (by rfl) (fun W hW => ?_) ?_
  rotate_left
  · first | (go_simp; done) | (go_simp; with_reducible rfl)
  try simp only [Act.put, List.setIfInBounds_toArray, List.set_cons_zero, List.set_cons_succ]
  refine any_pure 14 (v := ?_) rfl (by kernel_rfl) (by intro _ _ _ h; exact h) (by assumption) (by rfl) (fun W hW => ?_) ?_
  rotate_left
  · first | (go_simp; done) | (go_simp; with_reducible rfl)
  try simp only [Act.put, List.setIfInBounds_toArray, List.set_cons_zero, List.set_cons_succ]
  refine any_pure 15 (v := ?_) rfl (by kernel_rfl) (by intro _ _ _ h; exact h) (by assumption) (by rfl) (fun W hW => ?_) ?_
  rotate_left
  · first | (go_simp; done) | (go_simp; with_reducible rfl)
  try simp only [Act.put, List.setIfInBounds_toArray, List.set_cons_zero, List.set_cons_succ]
  refine any_pure 16 (v := ?_) rfl (by kernel_rfl) (by intro _ _ _ h; exact h) (by assumption) (by rfl) (fun W hW => ?_) ?_
  rotate_left
  · obtain ⟨c0, c1, c2, c3, c4, c5, c6, c7, c8, c9, c10⟩ := (H3.out.2.later hW).c11; first | (go_simp; done) | (go_simp; with_reducible rfl)
  try simp only [Act.put, List.setIfInBounds_toArray, List.set_cons_zero, List.set_cons_succ]
  refine any_pure 18 (v := ?_) rfl (by kernel_rfl) (by intro _ _ _ h; exact h) (by assumption) (by rfl) (fun W hW => ?_) ?_
  rotate_left
  · obtain ⟨c0, c1, c2, c3, c4, c5, c6, c7, c8, c9, c10⟩ := (H3.out.2.later hW).c11; first | (go_simp; done) | (go_simp; with_reducible rfl)
  try simp only [Act.put, List.setIfInBounds_toArray, List.set_cons_zero, List.set_cons_succ]
  refine any_one 17 (by kernel_rfl) rfl (by rfl) (fun K hK => ?_)
  go_simp
  refine (HBR.out _).mono ?_
  rintro y v3 ⟨rfl, hb⟩
  replace hS := sub_trans hS hb
  refine hK _ _ hS ?_
  clear hK hb
  simp only [Cl.val, Cl.arr]
  try simp only [Act.put, List.setIfInBounds_toArray, List.set_cons_zero, List.set_cons_succ]
  refine any_one 19 (by kernel_rfl) rfl (by rfl) (fun K hK => ?_)
  go_simp
  refine (HRB.out _).mono ?_
  rintro y v4 ⟨rfl, hb⟩
  replace hS := sub_trans hS hb
  refine hK _ _ hS ?_
  clear hK hb
  simp only [Cl.val, Cl.arr]
  try simp only [Act.put, List.setIfInBounds_toArray, List.set_cons_zero, List.set_cons_succ]
  refine any_pure 20 (v := ?_) rfl (by kernel_rfl) (by intro _ _ _ h; exact h) (by assumption) (by rfl) (fun W hW => ?_) ?_
  rotate_left
  · have hn0 := HNE.out W; first | (go_simp; done) | (go_simp; with_reducible rfl)
  try simp only [Act.put, List.setIfInBounds_toArray, List.set_cons_zero, List.set_cons_succ]
  refine any_pure 21 (v := ?_) rfl (by kernel_rfl) (by intro _ _ _ h; exact h) (by assumption) (by rfl) (fun W hW => ?_) ?_
  rotate_left
  · first | (go_simp; done) | (go_simp; with_reducible rfl)
  try simp only [Act.put, List.setIfInBounds_toArray, List.set_cons_zero, List.set_cons_succ]
  refine any_done (by kernel_rfl) ?_
  have H4 := Lib.hid (And.intro (sub_trans H3.out.1 hS) (H3.out.2.later hS))
  clear hS
  rcases hte with hte | hte
  · have HPP := Lib.hid (HP.out hte)
    subst hte
    go_wp2_with fail
    refine (HPP.out _ (HR.out.up H4.out.1)).mono ?_
    rintro y w5 ⟨rfl, hb⟩
    have h5 := sub_alloc (sub_trans H4.out.1 hb) (.cells y0.arr 35)
    have g5 := (H4.out.2.later hb).alloc (.cells y0.arr 35)
    have k5 := Blk.new_at w5 35 y0.arr (g := w5.heap.size) rfl
    have H5 := Lib.hid (And.intro h5 (And.intro g5 k5))
    clear hb h5 g5 k5
    simp only [Cl.val, Cl.arr]
    go_wp2
    obtain ⟨WB, hWB⟩ : ∃ WB, w5.alloc (.cells #[.int .i64 y0.k, .string y0.id, .int .i64 y0.tick, .int .i64 y0.value, .int .i64 y0.handle, .int .i64 y0.a, .int .i64 y0.b, .int .i64 y0.c, .int .i64 y0.d, .int .i64 y0.e, .int .i64 y0.f] 35) = WB := ⟨_, rfl⟩
    have H5 : Hid (Below w.heap.size w WB ∧ Blk WB w.heap.size 35 x.arr ∧ Blk WB w5.heap.size 35 y0.arr) := Lib.hid (by rw [← hWB]; exact H5.out)
    rw [hWB]
    clear hWB
    have hS : Below WB.heap.size WB WB.drew := (Below.refl _ _).drew
    refine any_start (S := fun W => Below WB.heap.size WB W) (by kernel_rfl) hS ?_
    generalize WB.drew = wd at *
    simp only [List.length_cons, List.length_nil, Nat.reduceAdd, List.size_toArray]
    refine any_pure 0 (v := ?_) rfl (by kernel_rfl) (by intro _ _ _ h; exact h) (by assumption) (by rfl) (fun W hW => ?_) ?_
    rotate_left
    · first | (go_simp; done) | (go_simp; with_reducible rfl)
    try simp only [Act.put, List.setIfInBounds_toArray, List.set_cons_zero, List.set_cons_succ]
    refine any_pure 1 (v := ?_) rfl (by kernel_rfl) (by intro _ _ _ h; exact h) (by assumption) (by rfl) (fun W hW => ?_) ?_
    rotate_left
    · first | (go_simp; done) | (go_simp; with_reducible rfl)
    try simp only [Act.put, List.setIfInBounds_toArray, List.set_cons_zero, List.set_cons_succ]
    refine any_pure 2 (v := ?_) rfl (by kernel_rfl) (by intro _ _ _ h; exact h) (by assumption) (by rfl) (fun W hW => ?_) ?_
    rotate_left
    · first | (go_simp; done) | (go_simp; with_reducible rfl)
    try simp only [Act.put, List.setIfInBounds_toArray, List.set_cons_zero, List.set_cons_succ]
    refine any_pure 3 (v := ?_) rfl (by kernel_rfl) (by intro _ _ _ h; exact h) (by assumption) (by rfl) (fun W hW => ?_) ?_
    rotate_left
    · obtain ⟨c0, c1, c2, c3, c4, c5, c6, c7, c8, c9, c10⟩ := (H5.out.2.2.later hW).c11; first | (go_simp; done) | (go_simp; with_reducible rfl)
    try simp only [Act.put, List.setIfInBounds_toArray, List.set_cons_zero, List.set_cons_succ]
    refine any_pure 4 (v := ?_) rfl (by kernel_rfl) (by intro _ _ _ h; exact h) (by assumption) (by rfl) (fun W hW => ?_) ?_
    rotate_left
    · obtain ⟨c0, c1, c2, c3, c4, c5, c6, c7, c8, c9, c10⟩ := (H5.out.2.1.later hW).c11; first | (go_simp; done) | (go_simp; with_reducible rfl)
    try simp only [Act.put, List.setIfInBounds_toArray, List.set_cons_zero, List.set_cons_succ]
    refine any_one 5 (by kernel_rfl) rfl (by rfl) (fun K hK => ?_)
    go_simp
    refine (HRB.out _).mono ?_
    rintro y v4 ⟨rfl, hb⟩
    replace hS := sub_trans hS hb
    refine hK _ _ hS ?_
    clear hK hb
    simp only [Cl.val, Cl.arr]
    try simp only [Act.put, List.setIfInBounds_toArray, List.set_cons_zero, List.set_cons_succ]
    refine any_pure 6 (v := ?_) rfl (by kernel_rfl) (by intro _ _ _ h; exact h) (by assumption) (by rfl) (fun W hW => ?_) ?_
    rotate_left
    · have hn0 := HEQ.out W; first | (go_simp; done) | (go_simp; with_reducible rfl)
    try simp only [Act.put, List.setIfInBounds_toArray, List.set_cons_zero, List.set_cons_succ]
    refine any_pure 7 (v := ?_) rfl (by kernel_rfl) (by intro _ _ _ h; exact h) (by assumption) (by rfl) (fun W hW => ?_) ?_
    rotate_left
    · first | (go_simp; done) | (go_simp; with_reducible rfl)
    try simp only [Act.put, List.setIfInBounds_toArray, List.set_cons_zero, List.set_cons_succ]
    refine any_pure 8 (v := ?_) rfl (by kernel_rfl) (by intro _ _ _ h; exact h) (by assumption) (by rfl) (fun W hW => ?_) ?_
    rotate_left
    · first | (go_simp; done) | (go_simp; with_reducible rfl)
    try simp only [Act.put, List.setIfInBounds_toArray, List.set_cons_zero, List.set_cons_succ]
    refine any_done (by kernel_rfl) ?_
    go_wp2
    go_ret
    exact ⟨by first | rfl | simp, sub_trans H5.out.1 hS⟩
  · have e1 : (te == 0) = false := by simpa using hte
    have e2 : (te != 0) = true := by simpa using hte
    clear hte
    go_wp2
    go_ret
    exact ⟨rfl, H4.out.1⟩
theorem lineTells_walk (x : Cl) (n : Int) (w : World) (hR : Ready w) (hx : x.okN) : Calls Tryd.prog 7 #[x.val, .int .i64 n] w fun y w' => y = .returned (.bool true) ∧ Below w.heap.size w w' := by
  by_cases h : 100 < x.id.size
  · exact ltells_long x n w hR hx.id h
  · exact ltells_few x n w hR ⟨hx.k, hx.tick, hx.value, hx.handle, hx.pol, by omega⟩ (by omega)
end Go.Proofs.YteljecehppeamaaDoor
