/-
  Chapter 54's example, walked. Conditions: strconv's table and errors lie in memory, and a number in internal/bytealg.MaxLen.
-/
import Derived.Test.YtcmnlnnhebdblaaDoorShAt
import Derived.Test.YtcmnlnnhebdblaaDoorShParse
namespace Go.Proofs.YtcmnlnnhebdblaaDoor
open Go.RowKit Go.Fw
set_option maxHeartbeats 1000000
set_option maxRecDepth 100000
set_option linter.unusedVariables false
set_option linter.unusedSimpArgs false
theorem at_saw : atN 2 0 10 5 0 7 = 4 := by decide +kernel
theorem at_peak1 : atN 5 0 10 4 0 1 = 5 := by decide +kernel
theorem at_peak2 : atN 5 0 10 4 0 2 = 10 := by decide +kernel
theorem in64_small {n : Int} (h : 0 ≤ n ∧ n < 1000) : In64 n := ⟨by omega, by omega⟩
theorem noShape_short {s : ByteArray} (h : (cutW 32 s.data.toList).getD 3 [] = [48]) : NoShape s := by
  intro k lo hi p ph h5 he hs
  have e : cutW 32 s.data.toList = shWords k lo hi p ph := by rw [← hs, shB_list, cut_shT]
  rw [e] at h
  have hp : Lib.itoa p = [48] := h
  have h1 := errS_ok he
  have h0 : Lib.itoa 0 = [48] := by
    unfold Lib.itoa
    rw [if_neg (by decide), show (0 : Int).toNat = 0 from rfl, Lib.decDigits_one (by decide)]
    rfl
  have := itoa_inj h5.2.2.2.1.1 h5.2.2.2.1.2 (by decide) (by decide) (hp.trans h0.symm)
  omega
theorem sh_awake (w : World) (hR : Ready w) : Calls Tryd.prog 5 #[] w fun x w' => x = .returned (.bool true) ∧ Below w.heap.size w w' := by
  have HB0 := Lib.hid (fun o => sub_alloc (Below.refl _ w) o)
  have HR := Lib.hid hR
  clear hR
  go_enter Tryd.func5, Tryd.ntmps5
  go_wp2_with fail
  have gA := (Blk.new_at w 28 #[.int .i64 2, .int .i64 0, .int .i64 10, .int .i64 5, .int .i64 0] (g := w.heap.size) rfl).alloc (.cells #[.int .i64 5, .int .i64 0, .int .i64 10, .int .i64 4, .int .i64 0] 28)
  have gB := Blk.new_at (w.alloc (.cells #[.int .i64 2, .int .i64 0, .int .i64 10, .int .i64 5, .int .i64 0] 28)) 28 #[.int .i64 5, .int .i64 0, .int .i64 10, .int .i64 4, .int .i64 0] (g := w.heap.size + 1) (by simp)
  have hA := sub_alloc (HB0.out (.cells #[.int .i64 2, .int .i64 0, .int .i64 10, .int .i64 5, .int .i64 0] 28)) (.cells #[.int .i64 5, .int .i64 0, .int .i64 10, .int .i64 4, .int .i64 0] 28)
  generalize (w.alloc (.cells #[.int .i64 2, .int .i64 0, .int .i64 10, .int .i64 5, .int .i64 0] 28)).alloc (.cells #[.int .i64 5, .int .i64 0, .int .i64 10, .int .i64 4, .int .i64 0] 28) = WA at *
  clear HB0
  refine (shparse_any _ (by decide) WA (HR.out.up hA)).mono ?_
  rintro x w1 ⟨hb1, ⟨k, lo, hi, p, ph, h5, he, hs, -⟩ | ⟨-, rfl⟩⟩
  · exact absurd hs (noShape_short (by decide) k lo hi p ph h5 he)
  have h1 := sub_trans hA hb1
  have gA1 := gA.later hb1
  have gB1 := gB.later hb1
  have h2 := sub_alloc h1 (.cells #[.int .i64 0, .int .i64 0, .int .i64 0, .int .i64 0, .int .i64 0] 28)
  have gA2 := gA1.alloc (.cells #[.int .i64 0, .int .i64 0, .int .i64 0, .int .i64 0, .int .i64 0] 28)
  have gB2 := gB1.alloc (.cells #[.int .i64 0, .int .i64 0, .int .i64 0, .int .i64 0, .int .i64 0] 28)
  have H2 := Lib.hid (And.intro h2 (And.intro gA2 gB2))
  have c0 := gA2.cell 0
  have c1 := gA2.cell 1
  have c2 := gA2.cell 2
  have c3 := gA2.cell 3
  have c4 := gA2.cell 4
  clear gA gB hA hb1 gA1 gB1 gA2 gB2 h1 h2
  simp at c0 c1 c2 c3 c4
  go_wp2_with fail
  refine (at_any 2 0 10 5 0 7 (by unfold In5 In64; omega) _ (in64_small (by decide))).mono ?_
  rintro x w3 ⟨rfl, hb3⟩
  rw [at_saw]
  have h3 := sub_trans H2.out.1 hb3
  have gB3 := H2.out.2.2.later hb3
  have c0 := gB3.cell 0
  have c1 := gB3.cell 1
  have c2 := gB3.cell 2
  have c3 := gB3.cell 3
  have c4 := gB3.cell 4
  clear hb3 H2
  simp at c0 c1 c2 c3 c4
  go_wp2_with fail
  refine (at_any 5 0 10 4 0 1 (by unfold In5 In64; omega) _ (in64_small (by decide))).mono ?_
  rintro x w4 ⟨rfl, hb4⟩
  rw [at_peak1]
  have h4 := sub_trans h3 hb4
  have gB4 := gB3.later hb4
  have c0 := gB4.cell 0
  have c1 := gB4.cell 1
  have c2 := gB4.cell 2
  have c3 := gB4.cell 3
  have c4 := gB4.cell 4
  clear hb4 h3 gB3
  simp at c0 c1 c2 c3 c4
  go_wp2_with fail
  refine (at_any 5 0 10 4 0 2 (by unfold In5 In64; omega) _ (in64_small (by decide))).mono ?_
  rintro x w5 ⟨rfl, hb5⟩
  rw [at_peak2]
  have h5 := sub_trans h4 hb5
  clear hb5 h4 gB4
  go_wp2
  go_ret
  exact ⟨by first | rfl | simp, h5⟩
end Go.Proofs.YtcmnlnnhebdblaaDoor
