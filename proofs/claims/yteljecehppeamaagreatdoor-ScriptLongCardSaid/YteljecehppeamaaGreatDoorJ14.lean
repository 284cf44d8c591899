/-
  4 texts of this claim, joined; each says itself what it proves. Condition: as each text says.
-/
import Derived.Test.YteljecehppeamaaGreatDoorJ09
import Derived.Test.YteljecehppeamaaGreatDoorJ01
import Derived.StillTailTactics
import Derived.RangeFuncWrites
import Derived.RangeFuncNested
import Derived.RangeFuncBound
import Derived.RangeFuncCalls
import Derived.RangeFuncLeaves
import Derived.RangeFuncBox
import Derived.Shelf.Abstract
import Derived.OwnWalkIn
import Derived.TacticsInMore
import Derived.LoopNIn
import Derived.LoopIn
import Derived.Test.YteljecehppeamaaGreatDoorJ02
import Derived.Shelf.Strings.Search3
/-
  The reference's Bare walked (chapter 41). Condition: none.
-/
namespace Go.Proofs.YteljecehppeamaaGreatDoor
open Go.RowKit Go.Fw Go.Shelf
set_option maxHeartbeats 2000000
set_option maxRecDepth 100000
set_option linter.unusedVariables false
set_option linter.unusedSimpArgs false
theorem rbare_1 (x : Cl) (w : World) (hk : x.k = 1) : Calls Tryz.prog 31 #[x.val] w fun y w' => y = .returned (bareC x).val ∧ Below w.heap.size w w' := by
  have HF : Hid (bareC x = ⟨1, x.id, x.tick, x.value, 0, 0, 0, 0, 0, 0, 0⟩) := Lib.hid (by unfold bareC; simp [hk])
  obtain ⟨WA, hWA⟩ : ∃ WA, ((w.alloc (.cells #[.int .i64 1, .string x.id, .int .i64 x.tick, .int .i64 x.value, .int .i64 x.handle, .int .i64 x.a, .int .i64 x.b, .int .i64 x.c, .int .i64 x.d, .int .i64 x.e, .int .i64 x.f] 50)).alloc (.cells #[.int .i64 0, .string ⟨#[]⟩, .int .i64 0, .int .i64 0, .int .i64 0, .int .i64 0, .int .i64 0, .int .i64 0, .int .i64 0, .int .i64 0, .int .i64 0] 50)).alloc (.cells #[.int .i64 1, .string ⟨#[]⟩, .int .i64 0, .int .i64 0, .int .i64 0, .int .i64 0, .int .i64 0, .int .i64 0, .int .i64 0, .int .i64 0, .int .i64 0] 50) = WA := ⟨_, rfl⟩
  have gx : Blk WA w.heap.size 50 (Cl.arr ⟨1, x.id, x.tick, x.value, x.handle, x.a, x.b, x.c, x.d, x.e, x.f⟩) := by rw [← hWA]; exact ((Blk.new_at _ _ _ rfl).alloc _).alloc _
  have gz : Blk WA (w.heap.size + 1) 50 Cl.zero.arr := by rw [← hWA]; exact (Blk.new_at _ _ _ (by simp)).alloc _
  have g3 : Blk WA (w.heap.size + 2) 50 (Cl.arr ⟨1, ⟨#[]⟩, 0, 0, 0, 0, 0, 0, 0, 0, 0⟩) := by rw [← hWA]; exact Blk.new_at _ _ _ (by simp)
  have hbb : Below w.heap.size w WA := by rw [← hWA]; exact sub_alloc (sub_alloc (sub_alloc (Below.refl _ w) _) _) _
  have HWA := Lib.hid hWA
  have HG := Lib.hid (And.intro gx (And.intro gz (And.intro g3 hbb)))
  clear hWA gx gz g3 hbb
  unfold Cl.val Cl.arr
  rw [hk]
  clear hk
  go_enter Tryz.func31, Tryz.ntmps31
  clear HG HWA WA
  go_wp2
  exact bodyPost_ret (v := .agg #[.int .i64 1, .string x.id, .int .i64 x.tick, .int .i64 x.value, .int .i64 0, .int .i64 0, .int .i64 0, .int .i64 0, .int .i64 0, .int .i64 0, .int .i64 0]) (by simp [results, Tryz.results31, go_sem]) rfl ⟨by rw [HF.out] <;> rfl, sub_alloc (sub_alloc (sub_alloc (Below.refl _ w) _) _) _⟩
theorem rbare_2 (x : Cl) (w : World) (hk : x.k = 2) : Calls Tryz.prog 31 #[x.val] w fun y w' => y = .returned (bareC x).val ∧ Below w.heap.size w w' := by
  have HF : Hid (bareC x = ⟨2, ⟨#[]⟩, x.tick, 0, 0, 0, 0, 0, 0, 0, 0⟩) := Lib.hid (by unfold bareC; simp [hk]; try rfl)
  obtain ⟨WA, hWA⟩ : ∃ WA, ((w.alloc (.cells #[.int .i64 2, .string x.id, .int .i64 x.tick, .int .i64 x.value, .int .i64 x.handle, .int .i64 x.a, .int .i64 x.b, .int .i64 x.c, .int .i64 x.d, .int .i64 x.e, .int .i64 x.f] 50)).alloc (.cells #[.int .i64 0, .string ⟨#[]⟩, .int .i64 0, .int .i64 0, .int .i64 0, .int .i64 0, .int .i64 0, .int .i64 0, .int .i64 0, .int .i64 0, .int .i64 0] 50)).alloc (.cells #[.int .i64 2, .string ⟨#[]⟩, .int .i64 0, .int .i64 0, .int .i64 0, .int .i64 0, .int .i64 0, .int .i64 0, .int .i64 0, .int .i64 0, .int .i64 0] 50) = WA := ⟨_, rfl⟩
  have gx : Blk WA w.heap.size 50 (Cl.arr ⟨2, x.id, x.tick, x.value, x.handle, x.a, x.b, x.c, x.d, x.e, x.f⟩) := by rw [← hWA]; exact ((Blk.new_at _ _ _ rfl).alloc _).alloc _
  have gz : Blk WA (w.heap.size + 1) 50 Cl.zero.arr := by rw [← hWA]; exact (Blk.new_at _ _ _ (by simp)).alloc _
  have g3 : Blk WA (w.heap.size + 2) 50 (Cl.arr ⟨2, ⟨#[]⟩, 0, 0, 0, 0, 0, 0, 0, 0, 0⟩) := by rw [← hWA]; exact Blk.new_at _ _ _ (by simp)
  have hbb : Below w.heap.size w WA := by rw [← hWA]; exact sub_alloc (sub_alloc (sub_alloc (Below.refl _ w) _) _) _
  have HWA := Lib.hid hWA
  have HG := Lib.hid (And.intro gx (And.intro gz (And.intro g3 hbb)))
  clear hWA gx gz g3 hbb
  unfold Cl.val Cl.arr
  rw [hk]
  clear hk
  go_enter Tryz.func31, Tryz.ntmps31
  clear HG HWA WA
  go_wp2
  exact bodyPost_ret (v := .agg #[.int .i64 2, .string ⟨#[]⟩, .int .i64 x.tick, .int .i64 0, .int .i64 0, .int .i64 0, .int .i64 0, .int .i64 0, .int .i64 0, .int .i64 0, .int .i64 0]) (by simp [results, Tryz.results31, go_sem]) rfl ⟨by rw [HF.out] <;> rfl, sub_alloc (sub_alloc (sub_alloc (Below.refl _ w) _) _) _⟩
theorem rbare_4 (x : Cl) (w : World) (hk : x.k = 4) : Calls Tryz.prog 31 #[x.val] w fun y w' => y = .returned (bareC x).val ∧ Below w.heap.size w w' := by
  have HF : Hid (bareC x = ⟨4, ⟨#[]⟩, 0, 0, x.handle, 0, 0, 0, 0, 0, 0⟩) := Lib.hid (by unfold bareC; simp [hk]; try rfl)
  obtain ⟨WA, hWA⟩ : ∃ WA, ((w.alloc (.cells #[.int .i64 4, .string x.id, .int .i64 x.tick, .int .i64 x.value, .int .i64 x.handle, .int .i64 x.a, .int .i64 x.b, .int .i64 x.c, .int .i64 x.d, .int .i64 x.e, .int .i64 x.f] 50)).alloc (.cells #[.int .i64 0, .string ⟨#[]⟩, .int .i64 0, .int .i64 0, .int .i64 0, .int .i64 0, .int .i64 0, .int .i64 0, .int .i64 0, .int .i64 0, .int .i64 0] 50)).alloc (.cells #[.int .i64 4, .string ⟨#[]⟩, .int .i64 0, .int .i64 0, .int .i64 0, .int .i64 0, .int .i64 0, .int .i64 0, .int .i64 0, .int .i64 0, .int .i64 0] 50) = WA := ⟨_, rfl⟩
  have gx : Blk WA w.heap.size 50 (Cl.arr ⟨4, x.id, x.tick, x.value, x.handle, x.a, x.b, x.c, x.d, x.e, x.f⟩) := by rw [← hWA]; exact ((Blk.new_at _ _ _ rfl).alloc _).alloc _
  have gz : Blk WA (w.heap.size + 1) 50 Cl.zero.arr := by rw [← hWA]; exact (Blk.new_at _ _ _ (by simp)).alloc _
  have g3 : Blk WA (w.heap.size + 2) 50 (Cl.arr ⟨4, ⟨#[]⟩, 0, 0, 0, 0, 0, 0, 0, 0, 0⟩) := by rw [← hWA]; exact Blk.new_at _ _ _ (by simp)
  have hbb : Below w.heap.size w WA := by rw [← hWA]; exact sub_alloc (sub_alloc (sub_alloc (Below.refl _ w) _) _) _
  have HWA := Lib.hid hWA
  have HG := Lib.hid (And.intro gx (And.intro gz (And.intro g3 hbb)))
  clear hWA gx gz g3 hbb
  unfold Cl.val Cl.arr
  rw [hk]
  clear hk
  go_enter Tryz.func31, Tryz.ntmps31
  clear HG HWA WA
  go_wp2
  exact bodyPost_ret (v := .agg #[.int .i64 4, .string ⟨#[]⟩, .int .i64 0, .int .i64 0, .int .i64 x.handle, .int .i64 0, .int .i64 0, .int .i64 0, .int .i64 0, .int .i64 0, .int .i64 0]) (by simp [results, Tryz.results31, go_sem]) rfl ⟨by rw [HF.out] <;> rfl, sub_alloc (sub_alloc (sub_alloc (Below.refl _ w) _) _) _⟩
theorem rbare_5 (x : Cl) (w : World) (hk : x.k = 5) : Calls Tryz.prog 31 #[x.val] w fun y w' => y = .returned (bareC x).val ∧ Below w.heap.size w w' := by
  have HF : Hid (bareC x = ⟨5, x.id, x.tick, x.value, x.handle, 0, 0, 0, 0, 0, 0⟩) := Lib.hid (by unfold bareC; simp [hk])
  obtain ⟨WA, hWA⟩ : ∃ WA, ((w.alloc (.cells #[.int .i64 5, .string x.id, .int .i64 x.tick, .int .i64 x.value, .int .i64 x.handle, .int .i64 x.a, .int .i64 x.b, .int .i64 x.c, .int .i64 x.d, .int .i64 x.e, .int .i64 x.f] 50)).alloc (.cells #[.int .i64 0, .string ⟨#[]⟩, .int .i64 0, .int .i64 0, .int .i64 0, .int .i64 0, .int .i64 0, .int .i64 0, .int .i64 0, .int .i64 0, .int .i64 0] 50)).alloc (.cells #[.int .i64 5, .string ⟨#[]⟩, .int .i64 0, .int .i64 0, .int .i64 0, .int .i64 0, .int .i64 0, .int .i64 0, .int .i64 0, .int .i64 0, .int .i64 0] 50) = WA := ⟨_, rfl⟩
  have gx : Blk WA w.heap.size 50 (Cl.arr ⟨5, x.id, x.tick, x.value, x.handle, x.a, x.b, x.c, x.d, x.e, x.f⟩) := by rw [← hWA]; exact ((Blk.new_at _ _ _ rfl).alloc _).alloc _
  have gz : Blk WA (w.heap.size + 1) 50 Cl.zero.arr := by rw [← hWA]; exact (Blk.new_at _ _ _ (by simp)).alloc _
  have g3 : Blk WA (w.heap.size + 2) 50 (Cl.arr ⟨5, ⟨#[]⟩, 0, 0, 0, 0, 0, 0, 0, 0, 0⟩) := by rw [← hWA]; exact Blk.new_at _ _ _ (by simp)
  have hbb : Below w.heap.size w WA := by rw [← hWA]; exact sub_alloc (sub_alloc (sub_alloc (Below.refl _ w) _) _) _
  have HWA := Lib.hid hWA
  have HG := Lib.hid (And.intro gx (And.intro gz (And.intro g3 hbb)))
  clear hWA gx gz g3 hbb
  unfold Cl.val Cl.arr
  rw [hk]
  clear hk
  go_enter Tryz.func31, Tryz.ntmps31
  clear HG HWA WA
  go_wp2
  exact bodyPost_ret (v := .agg #[.int .i64 5, .string x.id, .int .i64 x.tick, .int .i64 x.value, .int .i64 x.handle, .int .i64 0, .int .i64 0, .int .i64 0, .int .i64 0, .int .i64 0, .int .i64 0]) (by simp [results, Tryz.results31, go_sem]) rfl ⟨by rw [HF.out] <;> rfl, sub_alloc (sub_alloc (sub_alloc (Below.refl _ w) _) _) _⟩
theorem rbare_6 (x : Cl) (w : World) (hk : x.k = 6) : Calls Tryz.prog 31 #[x.val] w fun y w' => y = .returned (bareC x).val ∧ Below w.heap.size w w' := by
  have HF : Hid (bareC x = ⟨6, x.id, 0, 0, 0, x.a, x.b, x.c, x.d, x.e, x.f⟩) := Lib.hid (by unfold bareC; simp [hk])
  obtain ⟨WA, hWA⟩ : ∃ WA, ((w.alloc (.cells #[.int .i64 6, .string x.id, .int .i64 x.tick, .int .i64 x.value, .int .i64 x.handle, .int .i64 x.a, .int .i64 x.b, .int .i64 x.c, .int .i64 x.d, .int .i64 x.e, .int .i64 x.f] 50)).alloc (.cells #[.int .i64 0, .string ⟨#[]⟩, .int .i64 0, .int .i64 0, .int .i64 0, .int .i64 0, .int .i64 0, .int .i64 0, .int .i64 0, .int .i64 0, .int .i64 0] 50)).alloc (.cells #[.int .i64 6, .string ⟨#[]⟩, .int .i64 0, .int .i64 0, .int .i64 0, .int .i64 0, .int .i64 0, .int .i64 0, .int .i64 0, .int .i64 0, .int .i64 0] 50) = WA := ⟨_, rfl⟩
  have gx : Blk WA w.heap.size 50 (Cl.arr ⟨6, x.id, x.tick, x.value, x.handle, x.a, x.b, x.c, x.d, x.e, x.f⟩) := by rw [← hWA]; exact ((Blk.new_at _ _ _ rfl).alloc _).alloc _
  have gz : Blk WA (w.heap.size + 1) 50 Cl.zero.arr := by rw [← hWA]; exact (Blk.new_at _ _ _ (by simp)).alloc _
  have g3 : Blk WA (w.heap.size + 2) 50 (Cl.arr ⟨6, ⟨#[]⟩, 0, 0, 0, 0, 0, 0, 0, 0, 0⟩) := by rw [← hWA]; exact Blk.new_at _ _ _ (by simp)
  have hbb : Below w.heap.size w WA := by rw [← hWA]; exact sub_alloc (sub_alloc (sub_alloc (Below.refl _ w) _) _) _
  have HWA := Lib.hid hWA
  have HG := Lib.hid (And.intro gx (And.intro gz (And.intro g3 hbb)))
  clear hWA gx gz g3 hbb
  unfold Cl.val Cl.arr
  rw [hk]
  clear hk
  go_enter Tryz.func31, Tryz.ntmps31
  clear HG HWA WA
  go_wp2
  exact bodyPost_ret (v := .agg #[.int .i64 6, .string x.id, .int .i64 0, .int .i64 0, .int .i64 0, .int .i64 x.a, .int .i64 x.b, .int .i64 x.c, .int .i64 x.d, .int .i64 x.e, .int .i64 x.f]) (by simp [results, Tryz.results31, go_sem]) rfl ⟨by rw [HF.out] <;> rfl, sub_alloc (sub_alloc (sub_alloc (Below.refl _ w) _) _) _⟩
theorem rbare_7 (x : Cl) (w : World) (hk : x.k = 7) : Calls Tryz.prog 31 #[x.val] w fun y w' => y = .returned (bareC x).val ∧ Below w.heap.size w w' := by
  have HF : Hid (bareC x = ⟨7, x.id, 0, 0, 0, 0, 0, 0, 0, 0, 0⟩) := Lib.hid (by unfold bareC; simp [hk])
  obtain ⟨WA, hWA⟩ : ∃ WA, ((w.alloc (.cells #[.int .i64 7, .string x.id, .int .i64 x.tick, .int .i64 x.value, .int .i64 x.handle, .int .i64 x.a, .int .i64 x.b, .int .i64 x.c, .int .i64 x.d, .int .i64 x.e, .int .i64 x.f] 50)).alloc (.cells #[.int .i64 0, .string ⟨#[]⟩, .int .i64 0, .int .i64 0, .int .i64 0, .int .i64 0, .int .i64 0, .int .i64 0, .int .i64 0, .int .i64 0, .int .i64 0] 50)).alloc (.cells #[.int .i64 7, .string ⟨#[]⟩, .int .i64 0, .int .i64 0, .int .i64 0, .int .i64 0, .int .i64 0, .int .i64 0, .int .i64 0, .int .i64 0, .int .i64 0] 50) = WA := ⟨_, rfl⟩
  have gx : Blk WA w.heap.size 50 (Cl.arr ⟨7, x.id, x.tick, x.value, x.handle, x.a, x.b, x.c, x.d, x.e, x.f⟩) := by rw [← hWA]; exact ((Blk.new_at _ _ _ rfl).alloc _).alloc _
  have gz : Blk WA (w.heap.size + 1) 50 Cl.zero.arr := by rw [← hWA]; exact (Blk.new_at _ _ _ (by simp)).alloc _
  have g3 : Blk WA (w.heap.size + 2) 50 (Cl.arr ⟨7, ⟨#[]⟩, 0, 0, 0, 0, 0, 0, 0, 0, 0⟩) := by rw [← hWA]; exact Blk.new_at _ _ _ (by simp)
  have hbb : Below w.heap.size w WA := by rw [← hWA]; exact sub_alloc (sub_alloc (sub_alloc (Below.refl _ w) _) _) _
  have HWA := Lib.hid hWA
  have HG := Lib.hid (And.intro gx (And.intro gz (And.intro g3 hbb)))
  clear hWA gx gz g3 hbb
  unfold Cl.val Cl.arr
  rw [hk]
  clear hk
  go_enter Tryz.func31, Tryz.ntmps31
  clear HG HWA WA
  go_wp2
  exact bodyPost_ret (v := .agg #[.int .i64 7, .string x.id, .int .i64 0, .int .i64 0, .int .i64 0, .int .i64 0, .int .i64 0, .int .i64 0, .int .i64 0, .int .i64 0, .int .i64 0]) (by simp [results, Tryz.results31, go_sem]) rfl ⟨by rw [HF.out] <;> rfl, sub_alloc (sub_alloc (sub_alloc (Below.refl _ w) _) _) _⟩
theorem rbare_0 (x : Cl) (w : World) (hk : x.k ≠ 1 ∧ x.k ≠ 2 ∧ x.k ≠ 4 ∧ x.k ≠ 5 ∧ x.k ≠ 6 ∧ x.k ≠ 7) : Calls Tryz.prog 31 #[x.val] w fun y w' => y = .returned (bareC x).val ∧ Below w.heap.size w w' := by
  obtain ⟨k1, k2, k4, k5, k6, k7⟩ := hk
  have HF : Hid (bareC x = ⟨x.k, ⟨#[]⟩, 0, 0, 0, 0, 0, 0, 0, 0, 0⟩) := Lib.hid (by unfold bareC; simp [k1, k2, k4, k5, k6, k7]; try rfl)
  have e1 : (x.k == 1) = false := by simpa using k1
  have e2 : (x.k == 2) = false := by simpa using k2
  have e4 : (x.k == 4) = false := by simpa using k4
  have e5 : (x.k == 5) = false := by simpa using k5
  have e6 : (x.k == 6) = false := by simpa using k6
  have e7 : (x.k == 7) = false := by simpa using k7
  clear k1 k2 k4 k5 k6 k7
  obtain ⟨WA, hWA⟩ : ∃ WA, ((w.alloc (.cells #[.int .i64 x.k, .string x.id, .int .i64 x.tick, .int .i64 x.value, .int .i64 x.handle, .int .i64 x.a, .int .i64 x.b, .int .i64 x.c, .int .i64 x.d, .int .i64 x.e, .int .i64 x.f] 50)).alloc (.cells #[.int .i64 0, .string ⟨#[]⟩, .int .i64 0, .int .i64 0, .int .i64 0, .int .i64 0, .int .i64 0, .int .i64 0, .int .i64 0, .int .i64 0, .int .i64 0] 50)).alloc (.cells #[.int .i64 x.k, .string ⟨#[]⟩, .int .i64 0, .int .i64 0, .int .i64 0, .int .i64 0, .int .i64 0, .int .i64 0, .int .i64 0, .int .i64 0, .int .i64 0] 50) = WA := ⟨_, rfl⟩
  have gx : Blk WA w.heap.size 50 (Cl.arr x) := by rw [← hWA]; exact ((Blk.new_at _ _ _ rfl).alloc _).alloc _
  have gz : Blk WA (w.heap.size + 1) 50 Cl.zero.arr := by rw [← hWA]; exact (Blk.new_at _ _ _ (by simp)).alloc _
  have g3 : Blk WA (w.heap.size + 2) 50 (Cl.arr ⟨x.k, ⟨#[]⟩, 0, 0, 0, 0, 0, 0, 0, 0, 0⟩) := by rw [← hWA]; exact Blk.new_at _ _ _ (by simp)
  have hbb : Below w.heap.size w WA := by rw [← hWA]; exact sub_alloc (sub_alloc (sub_alloc (Below.refl _ w) _) _) _
  have HWA := Lib.hid hWA
  have HG := Lib.hid (And.intro gx (And.intro gz (And.intro g3 hbb)))
  clear hWA gx gz g3 hbb
  unfold Cl.val Cl.arr
  go_enter Tryz.func31, Tryz.ntmps31
  clear HG HWA WA
  go_wp2
  exact bodyPost_ret (v := .agg #[.int .i64 x.k, .string ⟨#[]⟩, .int .i64 0, .int .i64 0, .int .i64 0, .int .i64 0, .int .i64 0, .int .i64 0, .int .i64 0, .int .i64 0, .int .i64 0]) (by simp [results, Tryz.results31, go_sem]) rfl ⟨by rw [HF.out] <;> rfl, sub_alloc (sub_alloc (sub_alloc (Below.refl _ w) _) _) _⟩
theorem rbare_any (x : Cl) (w : World) : Calls Tryz.prog 31 #[x.val] w fun y w' => y = .returned (bareC x).val ∧ Below w.heap.size w w' := by
  by_cases h1 : x.k = 1
  · exact rbare_1 x w h1
  by_cases h2 : x.k = 2
  · exact rbare_2 x w h2
  by_cases h4 : x.k = 4
  · exact rbare_4 x w h4
  by_cases h5 : x.k = 5
  · exact rbare_5 x w h5
  by_cases h6 : x.k = 6
  · exact rbare_6 x w h6
  by_cases h7 : x.k = 7
  · exact rbare_7 x w h7
  exact rbare_0 x w ⟨h1, h2, h4, h5, h6, h7⟩
end Go.Proofs.YteljecehppeamaaGreatDoor
/-
  Regions whose order is open: all but the last operations change nothing. Condition: none.
-/
namespace Go.Fw
open Go.RowKit
theorem still_start {P : Program} {id : Nat} {Q : Exit → Act → World → Prop} {a : Act} {w : World} {l : List Oper} (n : Nat) (hm : P.follows .mixedOrders = true) (hB : Region.lexTailB .any l.toArray n = true)
    (h : wpStill P l.toArray w.drew (fun a' => wpList P l.toArray Q (l.drop n) a' w.drew) (l.take n) a) : (Code.region id l.toArray true).wp P Q a w := wp_region_still_tail n hm hB h
theorem still_all {P : Program} {id : Nat} {Q : Exit → Act → World → Prop} {a : Act} {w : World} {l : List Oper} (hm : P.follows .mixedOrders = true) (hB : Region.lexB .any l.toArray = true)
    (h : wpStill P l.toArray w.drew (fun a' => Q .normal a' w.drew) l a) : (Code.region id l.toArray true).wp P Q a w := wp_region_still_lit hm hB h
end Go.Fw
/-
  A range over a function whose iterator writes a variable of its own between two rounds: what the caller holds must outlast such a write ('Tch'). Condition: none.
-/
namespace Go.Fw
open Go.RowKit
set_option linter.unusedVariables false
variable {F : Fence} {n : Nat} {P : Program}
/-- what an iterator owes whose own writes are Tch -/
def SeqV {α : Type} (F : Fence) (n : Nat) (P : Program) (g : Nat) (lb : Array Value) (encs : α → Array Value) (Kp Tch : World → World → Prop) (S Sp Ok : List α → Prop) (w : World) : Prop :=
  ∀ (l : Nat) (J Jx : List α → World → Prop) (W : World), Below w.heap.size w W → AbidesFrom W.heap.size J → AbidesFrom W.heap.size Jx →
    (∀ pre A B, J pre A → Tch A B → J pre B) → (∀ pre A B, Jx pre A → Tch A B → Jx pre B) →
    (∀ pre x W1, J pre W1 → Ok (pre ++ [x]) → YieldAt F (n - 1) P l (encs x) W1 fun e W' =>
      (e = .returned (.bool true) ∧ J (pre ++ [x]) W' ∧ Kp W1 W') ∨ (e = .returned (.bool false) ∧ Jx (pre ++ [x]) W')) →
    J [] W →
    CallsIn F n P g (#[.func (.yield l) #[] #[]] ++ lb) W fun e W' => (∃ v, e = .returned v) ∧ ((∃ xs, S xs ∧ J xs W') ∨ (∃ pre, Sp pre ∧ Jx pre W'))

/-- the law: as the kit's for iterators that write nothing, but that I and Ix outlast Tch, and that Tch leaves alone what is no cells from the loop's block on -/
theorem wpIn_range_V {α : Type} {g : Operand} {ps : Array Tmp} {assign body : Code} {Q : Exit → Act → World → Prop} {a : Act} {w : World}
    (hro : F.round = none) (h1 : 1 ≤ n) {gf : Nat} {lb : Array Value} (hg : a.eval g = .func (.func gf) #[] lb) (hFg : F.fn gf) (eg : ∀ args w, (callFunc gf args).run P w = .ok (.enter gf args) w)
    {encs : α → Array Value} {Kp Tch : World → World → Prop} {S Sp Ok : List α → Prop} {w0 : World} (hseq : SeqV F (n - 1) P gf lb encs Kp Tch S Sp Ok w0)
    (hKt : ∀ {A B C : World}, Kp A B → Kp B C → Kp A C) (hKb : ∀ (W : World) (l : Nat) (o o' : Obj), w.heap.size ≤ l → W.heap[l]? = some o → o.isCells = false → o.isWalk = false → Kp W (W.putObj l o')) (hb0 : Below w0.heap.size w0 w) (hps : ∀ x, (encs x).size = ps.size)
    (I : List α → World → Prop) (Ix : Code → List α → World → Prop) (hI : OwnFrom w.heap.size I) (hIx : ∀ c, OwnFrom w.heap.size (Ix c))
    (hIT : ∀ pre A B, I pre A → Tch A B → I pre B) (hIxT : ∀ c pre A B, Ix c pre A → Tch A B → Ix c pre B) (hTk : ∀ A B k, Tch A B → w.heap.size ≤ k → B.heap[k]? = A.heap[k]?)
    (h0 : I [] w) (a₁ : α → Act)
    (hassign : ∀ (l : Nat) (x : α) (W : World) (K : Act → World → Prop), K (a₁ x) W →
      assign.wpIn (F.inRound l) (n - 1 - 1) P (Exit.then K (fun _ _ _ => False)) { tmps := (ps.zip (encs x)).foldl (fun t (p, v) => t.setIfInBounds p v) a.tmps, defers := [] } W)
    (hbody : ∀ (l : Nat) (pre : List α) (x : α) (W : World), I pre W → Ok (pre ++ [x]) → body.wpIn (F.inRound l) (n - 1 - 1) P (ownPostG w.heap.size Kp I Ix (pre ++ [x]) W) (a₁ x) W)
    (hdone : ∀ (D : Nat) (xs : List α) (W : World), w.heap.size ≤ D → S xs → I xs W → W.heap[D]? = some (.deferred (some [])) → Q .normal { a with defers := { target := .collected D, args := #[] } :: a.defers } W)
    (hstop : ∀ (D : Nat) (c : Code) (pre : List α) (W : World), w.heap.size ≤ D → Sp pre → Ix c pre W → W.heap[D]? = some (.deferred (some [])) → c.wpIn F n P Q { a with defers := { target := .collected D, args := #[] } :: a.defers } W) :
    (Code.rangeFunc g ps assign body).wpIn F n P Q a w := by
  -- the kit's law, asked of a contract that holds for what outlasts Tch alone, goes by its own proof's steps
  refine wpIn_rangeFunc fun fn hfn => ?_
  rw [hro]
  let rec_ : LoopState → Option Code → Loop := fun st pe => { state := st, pending := pe, fn, tmps := a.tmps, params := ps, assign, body, defers := w.heap.size }
  let W1 := (w.alloc (.deferred (some []))).alloc (.loop (rec_ .ready none))
  have hz : W1.heap.size = w.heap.size + 2 := by simp [W1]
  have hL1 : W1.heap[w.heap.size + 1]? = some (.loop (rec_ .ready none)) := by
    have := World.alloc_heap_new (w.alloc (.deferred (some []))) (.loop (rec_ .ready none))
    rwa [World.size_alloc] at this
  have hD1 : W1.heap[w.heap.size]? = some (.deferred (some [])) := (Below.heap_alloc _ _ _ (by simp)).trans (World.alloc_heap_new w _)
  have hb1 : Below w0.heap.size w0 W1 := hb0.trans ((((Below.refl _ w).alloc (Nat.le_refl _) _).alloc (by simp) _).mono hb0.size)
  -- what the law itself carries beside the caller's word
  let Bk : Loop → World → Prop := fun r W => W.heap[w.heap.size + 1]? = some (.loop r) ∧ W.heap[w.heap.size]? = some (.deferred (some []))
  have bkKeep : ∀ {r : Loop} {A B : World} {row : Option Nat}, Bk r A → A.grownBy B row → (∀ q, row = some q → ∃ o : Obj, A.heap[q]? = some o ∧ o.isWalk = true) → Bk r B := fun hs hg' hr =>
    ⟨(grownBy_keeps hg' hr hs.1 rfl).trans hs.1, (grownBy_keeps hg' hr hs.2 rfl).trans hs.2⟩
  have cells : ∀ {A : World} {row : Option Nat}, (∀ q, row = some q → W1.heap.size ≤ q ∧ ∃ o : Obj, A.heap[q]? = some o ∧ o.isWalk = true) → ∀ q, row = some q → w.heap.size ≤ q ∧ ∃ o : Obj, A.heap[q]? = some o ∧ o.isCells = false := fun hr q e => by
    obtain ⟨h2, o, ho, hw⟩ := hr q e
    exact ⟨by omega, o, ho, Obj.not_cells_of_walk hw⟩
  refine ⟨w.heap.size + 1, [{ target := .collected w.heap.size, args := #[] }], W1, { target := .fn (.func gf) lb, args := #[.func (.yield (w.heap.size + 1)) #[] #[]] }, W1, gf,
    #[.func (.yield (w.heap.size + 1)) #[] #[]] ++ lb, W1, run_enterLoop_outer _ _ _ _ _, by simp only [resolve, hg]; simp [go_sem], fun f' hf' => by simp [Target.leads] at hf'; subst hf'; exact hFg,
    by simp [invoke, go_sem, eg], fun _ => h1, ?_⟩
  refine (hseq (w.heap.size + 1) (fun pre W => I pre W ∧ Bk (rec_ .ready none) W) (fun pre W => ∃ c, Ix c pre W ∧ Bk (rec_ .done (some c)) W) W1 hb1
    (fun s A B row hs hg' hr => ⟨hI s A B row hs.1 hg' (cells hr), bkKeep hs.2 hg' fun q e => (hr q e).2⟩)
    (fun s A B row hs hg' hr => hs.elim fun c hc => ⟨c, hIx c s A B row hc.1 hg' (cells hr), bkKeep hc.2 hg' fun q e => (hr q e).2⟩)
    (fun pre A B hs ht => ⟨hIT pre A B hs.1 ht, (hTk A B _ ht (by omega)).trans hs.2.1, (hTk A B _ ht (Nat.le_refl _)).trans hs.2.2⟩)
    (fun pre A B hs ht => hs.elim fun c hc => ⟨c, hIxT c pre A B hc.1 ht, (hTk A B _ ht (by omega)).trans hc.2.1, (hTk A B _ ht (Nat.le_refl _)).trans hc.2.2⟩)
    ?round ⟨hI.alloc _ (hI.alloc _ h0), hL1, hD1⟩).mono ?behind
  case round =>
    rintro pre x W ⟨hi, hl, hk⟩ hlen
    have hlt : w.heap.size + 1 < W.heap.size := (Array.getElem?_eq_some_iff.1 hl).1
    have hy := run_yield (P := P) (args := encs x) hl (hps x)
    refine ⟨fn, _, assign, body, hy, roundIn_of_wpIn hfn (hassign _ x W _ ⟨_, run_beginRound hl rfl, ?_⟩)⟩
    let W2 := W.putObj (w.heap.size + 1) (.loop { rec_ .ready none with state := .busy })
    have hl2 : W2.heap[w.heap.size + 1]? = some (.loop { rec_ .ready none with state := .busy }) := World.putObj_heap_same hlt
    have hk2 : W2.heap[w.heap.size]? = some (.deferred (some [])) := (World.putObj_heap_other (by omega)).trans hk
    have hw2 : Kp W W2 := hKb _ _ _ _ (by omega) hl rfl rfl
    refine wpIn_mono (hbody _ pre x _ (hI.putObj _ hi (by omega) hl rfl) hlen) ?_
    have fin : ∀ (jump : Option Code) (W3 : World), KeepsFrom w.heap.size W2 W3 →
        (Instr.endRound (w.heap.size + 1) jump).run P W3 = .ok (.bool jump.isNone) (W3.putObj (w.heap.size + 1) (.loop (rec_ (if jump.isNone then .ready else .done) jump))) ∧
        W3.heap[w.heap.size + 1]? = some (.loop { rec_ .ready none with state := .busy }) ∧ Bk (rec_ (if jump.isNone then .ready else .done) jump) (W3.putObj (w.heap.size + 1) (.loop (rec_ (if jump.isNone then .ready else .done) jump))) := fun jump W3 hk3 => by
      have hl3 := hk3.same _ _ (by omega) hl2 rfl
      exact ⟨run_endRound (P := P) jump hl3, hl3, World.putObj_heap_same (Array.getElem?_eq_some_iff.1 hl3).1, (World.putObj_heap_other (by omega)).trans (hk3.same _ _ (Nat.le_refl _) hk2 rfl)⟩
    have out : ∀ (c : Code) (W3 : World), KeepsFrom w.heap.size W2 W3 → Ix c (pre ++ [x]) W3 → ∃ b W4, (Instr.endRound (w.heap.size + 1) (some c)).run P W3 = .ok (.bool b) W4 ∧ b = false ∧ Ix c (pre ++ [x]) W4 ∧ Bk (rec_ .done (some c)) W4 := fun c W3 hk3 hi3 => by
      obtain ⟨hr, hl3, hb3⟩ := fin (some c) W3 hk3
      exact ⟨_, _, hr, rfl, (hIx c).putObj _ hi3 (by omega) hl3 rfl, hb3⟩
    rintro e a3 W3 hp
    cases e with
    | normal =>
      obtain ⟨hk3, hkp3, hi3⟩ := hp
      obtain ⟨hr, hl3, hb3⟩ := fin none W3 hk3
      exact ⟨_, _, hr, .inl ⟨rfl, ⟨hI.putObj _ hi3 (by omega) hl3 rfl, hb3⟩, hKt (hKt hw2 hkp3) (hKb _ _ _ _ (by omega) hl3 rfl rfl)⟩⟩
    | ret =>
      obtain ⟨_, W4, hr, rfl, hi4, hb4⟩ := out .ret W3 hp.1 hp.2
      exact ⟨_, _, hr, .inr ⟨rfl, .ret, hi4, hb4⟩⟩
    | exit id =>
      obtain ⟨_, W4, hr, rfl, hi4, hb4⟩ := out (.exit id) W3 hp.1 hp.2
      exact ⟨_, _, hr, .inr ⟨rfl, .exit id, hi4, hb4⟩⟩
    | goto t =>
      obtain ⟨_, W4, hr, rfl, hi4, hb4⟩ := out (.goto t) W3 hp.1 hp.2
      exact ⟨_, _, hr, .inr ⟨rfl, .goto t, hi4, hb4⟩⟩
    | panic ch => exact hp.elim
    | outgrown => exact hp.elim
  case behind =>
    rintro e W2 ⟨⟨v, rfl⟩, h⟩
    rcases h with ⟨xs, hS, hi, hl, hk⟩ | ⟨pre, hSp, c, hi, hl, hk⟩
    · exact ⟨none, _, run_endLoop (P := P) hl (by simp [rec_]), hdone _ xs _ (Nat.le_refl _) hS (hI.putObj _ hi (by omega) hl rfl) ((World.putObj_heap_other (by omega)).trans hk)⟩
    · exact ⟨some c, _, run_endLoop (P := P) hl (by simp [rec_]), hstop _ c pre _ (Nat.le_refl _) hSp ((hIx c).putObj _ hi (by omega) hl rfl) ((World.putObj_heap_other (by omega)).trans hk)⟩
end Go.Fw
/-
  strings.SplitSeq at a sign of one byte: its iterator, and what it hands over. Conditions: texts of few bytes.
-/
namespace Go.Proofs
open Go.Shelf
def Tryz.lsidx_ren : Go.Shelf.Ren := ⟨fun | 143 => 65 | 219 => 77 | 217 => 92 | 225 => 93 | 224 => 94 | 267 => 95 | 266 => 104 | 314 => 105 | n => n, fun | 9 => 9 | 3 => 3 | 4 => 4 | 5 => 5 | 46 => 132 | 146 => 144 | 51 => 130 | n => n, fun | 1 => 0 | n => n⟩
theorem Tryz.lsidx : Go.Proofs.Lays.n143 Tryz.prog Tryz.lsidx_ren := {
  mixed := by kernel_rfl
  f143 := Tryz.func65.trans (congrArg some (by kernel_rfl))
  f217 := Tryz.func92.trans (congrArg some (by kernel_rfl))
  f219 := Tryz.func77.trans (congrArg some (by kernel_rfl))
  f224 := Tryz.func94.trans (congrArg some (by kernel_rfl))
  f225 := Tryz.func93.trans (congrArg some (by kernel_rfl))
  f266 := Tryz.func104.trans (congrArg some (by kernel_rfl))
  f267 := Tryz.func95.trans (congrArg some (by kernel_rfl))
  f314 := Tryz.func105.trans (congrArg some (by kernel_rfl))
  t3 := Tryz.underlying3
  a3 := Tryz.isAgg3
  z3 := Tryz.sizeOf3
  v3 := Tryz.zeroValue3
  t4 := Tryz.underlying4
  a4 := Tryz.isAgg4
  z4 := Tryz.sizeOf4
  v4 := Tryz.zeroValue4
  t5 := Tryz.underlying5
  a5 := Tryz.isAgg5
  z5 := Tryz.sizeOf5
  v5 := Tryz.zeroValue5
  t9 := Tryz.underlying9
  a9 := Tryz.isAgg9
  z9 := Tryz.sizeOf9
  v9 := Tryz.zeroValue9
  t46 := Tryz.underlying132
  a46 := Tryz.isAgg132
  z46 := Tryz.sizeOf132
  v46 := Tryz.zeroValue132
  t51 := Tryz.underlying130
  a51 := Tryz.isAgg130
  z51 := Tryz.sizeOf130
  v51 := Tryz.zeroValue130
  t146 := Tryz.underlying144
  a146 := Tryz.isAgg144
  z146 := Tryz.sizeOf144
  v146 := Tryz.zeroValue144
  g1 := by kernel_rfl }
end Go.Proofs
namespace Go.Fw
open Go.RowKit
set_option linter.unusedVariables false
def cellLen (w : World) (b : Nat) : Nat := match w.cell? ⟨b, 0, none⟩ with
  | some (.string s) => s.size
  | _ => 0
/-- some blocks lie as they lay -/
def SameS (S : Nat → Prop) (W W' : World) : Prop := ∀ k, S k → W'.heap[k]? = W.heap[k]?
theorem SameS.refl (S : Nat → Prop) (W : World) : SameS S W W := fun _ _ => rfl
theorem SameS.trans {S : Nat → Prop} {A B C : World} (h : SameS S A B) (k : SameS S B C) : SameS S A C := fun j hj => (k j hj).trans (h j hj)
theorem SameS.put {S : Nat → Prop} {n : Nat} (hS : ∀ k, S k → k < n) (W : World) (l : Nat) (o o' : Obj) (hl : n ≤ l) (_ : W.heap[l]? = some o) (_ : o.isCells = false) (_ : o.isWalk = false) : SameS S W (W.putObj l o') := fun k hk => World.putObj_heap_other (fun e => by have := hS k hk; omega)
/-- the iterator's own write -/
def TchAt (bs : Nat) (A B : World) : Prop := ∃ v, B = A.setCell ⟨bs, 0, none⟩ v
def In3 (a b c k : Nat) : Prop := k = a ∨ k = b ∨ k = c
end Go.Fw
namespace Go.Proofs.YteljecehppeamaaGreatDoor
open Go.RowKit Go.Shelf Go.Fw
set_option maxHeartbeats 2000000
set_option maxRecDepth 100000
set_option linter.unusedVariables false
set_option linter.unusedSimpArgs false
theorem sidx_any (s : ByteArray) (c : UInt8) (w : World) : Calls Tryz.prog 65 #[.string s, .string ⟨#[c]⟩] w fun e w' => e = .returned (.int .i64 (Lib.indexByte s.data.toList c)) ∧ w = w' := by
  have h := Any.strings_Index_one Tryz.lsidx s c w
  change Calls Tryz.prog 65 _ _ _ at h
  exact h.mono fun e w' ⟨h1, h2⟩ => ⟨h1, h2.symm⟩
theorem splitSeq_any (s sep : ByteArray) (w : World) : Calls Tryz.prog 79 #[.string s, .string sep] w fun e w' =>
    e = .returned (.func (.func 106) #[] #[.pointer (some ⟨w.heap.size + 1, 0, none⟩), .pointer (some ⟨w.heap.size, 0, none⟩), .pointer (some ⟨w.heap.size + 2, 0, none⟩)]) ∧
    ((w.alloc (.cells #[.string s] 9)).alloc (.cells #[.string sep] 9)).alloc (.cells #[.int .i64 0] 3) = w' := by
  go_enter Tryz.func79, Tryz.ntmps79
  go_wp2
  go_ret
  exact ⟨rfl, rfl⟩
attribute [local go_sem] Oper.semAt_some
theorem splitSeq1_in (n : Nat) (hn : 1 ≤ n) (l bs bp bv : Nat) (c : UInt8) (s : ByteArray) (hsz : s.size ≤ 1000000) (h1 : bs ≠ bp) (h2 : bs ≠ bv) (J Jx : List ByteArray → World → Prop)
    (hJT : ∀ pre A B, J pre A → TchAt bs A B → J pre B)
    (hY : ∀ pre x W1, J pre W1 → pre ++ [x] <+: wordsB c s → YieldAt Fence.wide (n - 1) Tryz.prog l #[.string x] W1 fun e W' =>
      (e = .returned (.bool true) ∧ J (pre ++ [x]) W' ∧ SameS (In3 bs bp bv) W1 W') ∨ (e = .returned (.bool false) ∧ Jx (pre ++ [x]) W'))
    (W : World) (hS : Blk W bs 9 #[.string s]) (hP : Blk W bp 9 #[.string ⟨#[c]⟩]) (hV : Blk W bv 3 #[.int .i64 0]) (h0 : J [] W) :
    CallsIn Fence.wide n Tryz.prog 106 #[.func (.yield l) #[] #[], .pointer (some ⟨bp, 0, none⟩), .pointer (some ⟨bs, 0, none⟩), .pointer (some ⟨bv, 0, none⟩)] W fun e W' => (∃ v, e = .returned v) ∧
      ((∃ ys, ys = wordsB c s ∧ J ys W') ∨ (∃ pre, pre <+: wordsB c s ∧ pre ≠ [] ∧ Jx pre W')) := by
  refine callsIn_of_wp Tryz.func106 rfl trivial ?_ rfl
  simp only [Tryz.ntmps106, List.size_toArray, List.length_cons, List.length_nil, Nat.reduceAdd, Nat.reduceSub, Array.replicate_succ, Array.replicate_zero, List.push_toArray, List.append_toArray, List.nil_append, List.cons_append]
  have p0 := hP.cell 0
  simp at p0
  obtain ⟨sep, hsep⟩ : ∃ sep : ByteArray, sep = ⟨#[c]⟩ := ⟨_, rfl⟩
  have hsl : sep.size = 1 := by rw [hsep]; rfl
  rw [← hsep] at p0 hP
  have HIX := Lib.hid (fun (x : ByteArray) (w : World) => (by rw [hsep]; exact sidx_any x c w : Calls Tryz.prog 65 #[.string x, .string sep] w fun e w' => e = .returned (.int .i64 (Lib.indexByte x.data.toList c)) ∧ w = w'))
  have HSL := Lib.hid hsl
  clear hsep
  gi_wp2
  clear hsl
  gi_loopw [] (fun wr => ∃ pre s', wordsB c s = pre ++ wordsB c s' ∧ s'.size ≤ s.size ∧ Blk wr bs 9 #[.string s'] ∧ Blk wr bp 9 #[.string sep] ∧ Blk wr bv 3 #[.int .i64 0] ∧ J pre wr) (fun wr => cellLen wr bs)
  case atStart => exact ⟨[], s, rfl, Nat.le_refl _, hS, hP, hV, h0⟩
  case round =>
    obtain ⟨pre, s', hw, hle, hS', hP', hV', hJ⟩ := hrel
    have hs0 := hS'.cell 0
    have hp0 := hP'.cell 0
    have hv0 := hV'.cell 0
    have hf0 := hS'.frozen 0
    simp at hs0 hp0 hv0
    have hwl := wordsB_len c s
    clear hS hP hV p0
    by_cases hmiss : Lib.indexByte s'.data.toList c = -1
    · have hpc := wordsB_miss hmiss
      rw [hpc] at hw
      obtain ⟨fn, tmps, assign, body, hy, hRd⟩ := hY pre s' wr hJ (by rw [hw]; exact List.prefix_refl _)
      have hix := HIX.out s' wr
      rw [hmiss] at hix
      have HIX2 := Lib.hid hix
      have HW := Lib.hid hw
      clear hix hmiss hw hpc
      gi_wp2
      refine ⟨trivial, (callsIn_wide.2 HIX2.out).mono ?_⟩
      rintro e w' ⟨rfl, rfl⟩
      gi_wp2
      refine hRd.mono ?_
      rintro e W3 (⟨rfl, hJ3, hk3⟩ | ⟨rfl, hJx3⟩)
      · gi_wp2
        go_end0
        exact ⟨⟨_, rfl⟩, .inl ⟨_, rfl, by rw [HW.out]; exact hJ3⟩⟩
      · gi_wp2
        go_end0
        exact ⟨⟨_, rfl⟩, .inr ⟨_, by rw [HW.out]; exact List.prefix_refl _, by simp, hJx3⟩⟩
    · obtain ⟨i, hi⟩ : ∃ i : Nat, Lib.indexByte s'.data.toList c = (i : Int) := by
        rcases indexByte_cases c s'.data.toList with ⟨h, _⟩ | ⟨i, h, _, _⟩
        · exact absurd h hmiss
        · exact ⟨i, h⟩
      obtain ⟨hlt, hpc⟩ := wordsB_hit hi
      rw [hpc] at hw
      obtain ⟨fn, tmps, assign, body, hy, hRd⟩ := hY pre (s'.extract 0 i) wr hJ (by rw [hw]; exact ⟨wordsB c (s'.extract (i + 1) s'.size), by simp⟩)
      have hix := HIX.out s' wr
      rw [hi] at hix
      have HIX2 := Lib.hid hix
      have HW := Lib.hid hw
      have hi0 : ¬ (i : Int) < 0 := by omega
      have his : (i : Int) ≤ (s'.size : Int) := by omega
      have hi1 : (i : Int) + 1 ≤ (s'.size : Int) := by omega
      have hw1 : IntKind.i64.wrap ((i : Int) + 1) = (i : Int) + 1 := IntWalk.i64_in _ ⟨by omega, by omega⟩
      have hn1 : ((i : Int) + 1).toNat = i + 1 := by omega
      have hn2 : 0 ≤ (i : Int) + 1 := by omega
      have hib : i ≤ 1000000 := by omega
      clear hix hmiss hw hpc
      gi_wp2
      refine ⟨trivial, (callsIn_wide.2 HIX2.out).mono ?_⟩
      rintro e w' ⟨rfl, rfl⟩
      gi_wp2
      refine hRd.mono ?_
      rintro e W3 (⟨rfl, hJ3, hk3⟩ | ⟨rfl, hJx3⟩)
      · have hS3 : Blk W3 bs 9 #[.string s'] := (hk3 bs (.inl rfl)).trans hS'
        have hP3 : Blk W3 bp 9 #[.string sep] := (hk3 bp (.inr (.inl rfl))).trans hP'
        have hV3 : Blk W3 bv 3 #[.int .i64 0] := (hk3 bv (.inr (.inr rfl))).trans hV'
        have hs3 := hS3.cell 0
        have hp3 := hP3.cell 0
        have hf3 := hS3.frozen 0
        simp at hs3 hp3
        have hS4 := hS3.set_ 0 (.string (s'.extract (i + 1) s'.size))
        have hP4 := hP3.far (p := ⟨bs, 0, none⟩) (Ne.symm h1) (.string (s'.extract (i + 1) s'.size))
        have hV4 := hV3.far (p := ⟨bs, 0, none⟩) (Ne.symm h2) (.string (s'.extract (i + 1) s'.size))
        have hJ4 := hJT _ _ _ hJ3 ⟨.string (s'.extract (i + 1) s'.size), rfl⟩
        have hz4 : (s'.extract (i + 1) s'.size).size = s'.size - (i + 1) := by simp [ByteArray.size_extract]
        have H4 := Lib.hid (And.intro hS4 (And.intro hP4 (And.intro hV4 (And.intro hJ4 hz4))))
        have hm0 : cellLen wr bs = s'.size := by unfold cellLen; rw [hs0]
        have HM0 := Lib.hid hm0
        have hsl := HSL.out
        clear hS4 hP4 hV4 hJ4 hz4 hm0 hS' hP' hV' hs0 hp0 hv0 hf0 hJ hJ3 hS3 hP3 hV3
        gi_wp2
        go_roundw
        case rel => exact ⟨pre ++ [s'.extract 0 i], s'.extract (i + 1) s'.size, by rw [HW.out]; simp, by rw [H4.out.2.2.2.2]; omega, by simpa using H4.out.1, H4.out.2.1, H4.out.2.2.1, H4.out.2.2.2.1⟩
        case measure =>
          rw [HM0.out]
          have h5 : cellLen (W3.setCell ⟨bs, 0, none⟩ (.string (s'.extract (i + 1) s'.size))) bs = s'.size - (i + 1) := by
            unfold cellLen
            rw [H4.out.1.cell]
            simp only [Array.setIfInBounds, List.size_toArray, List.length_cons, List.length_nil]
            exact H4.out.2.2.2.2
          rw [h5]
          omega
      · gi_wp2
        refine bodyPost_ret (results_none rfl _ _ _) rfl ?_
        exact ⟨⟨_, rfl⟩, .inr ⟨_, by rw [HW.out]; exact ⟨wordsB c (s'.extract (i + 1) s'.size), by simp⟩, by simp, hJx3⟩⟩
theorem splitSeq1_stops (n : Nat) (hn : 1 ≤ n) (bs bp bv : Nat) (c : UInt8) (s : ByteArray) (hsz : s.size ≤ 1000000) (h1 : bs ≠ bp) (h2 : bs ≠ bv) (w : World)
    (hS : Blk w bs 9 #[.string s]) (hP : Blk w bp 9 #[.string ⟨#[c]⟩]) (hV : Blk w bv 3 #[.int .i64 0]) :
    SeqV Fence.wide n Tryz.prog 106 #[.pointer (some ⟨bp, 0, none⟩), .pointer (some ⟨bs, 0, none⟩), .pointer (some ⟨bv, 0, none⟩)] (fun x : ByteArray => #[.string x]) (SameS (In3 bs bp bv)) (TchAt bs) (fun ys => ys = wordsB c s) (fun pre => pre <+: wordsB c s ∧ pre ≠ []) (fun pre => pre <+: wordsB c s) w :=
  fun l J Jx W hW _ _ hJT _ hY h0 => (splitSeq1_in n hn l bs bp bv c s hsz h1 h2 J Jx hJT hY W (hS.later hW) (hP.later hW) (hV.later hW) h0).mono
    fun e W' ⟨he, h⟩ => ⟨he, h.imp id fun ⟨pre, q1, q2, q3⟩ => ⟨pre, ⟨q1, q2⟩, q3⟩⟩
end Go.Proofs.YteljecehppeamaaGreatDoor
