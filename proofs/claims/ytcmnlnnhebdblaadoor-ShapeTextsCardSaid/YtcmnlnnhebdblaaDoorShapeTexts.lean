/-
  ShapeTexts walked (chapter 54). Conditions: strconv's table and errors lie in memory, and a number in internal/bytealg.MaxLen.
-/
import Derived.Test.YtcmnlnnhebdblaaDoorShAwake
import Derived.Test.YtcmnlnnhebdblaaDoorShText
namespace Go.Proofs.YtcmnlnnhebdblaaDoor
open Go.RowKit Go.Fw
set_option maxHeartbeats 2000000
set_option maxRecDepth 100000
set_option linter.unusedVariables false
set_option linter.unusedSimpArgs false
theorem sh_eql (x1 x2 x3 x4 x5 y1 y2 y3 y4 y5 : Int) (w : World) : (binOp .eql 28 (.agg #[.int .i64 x1, .int .i64 x2, .int .i64 x3, .int .i64 x4, .int .i64 x5]) (.agg #[.int .i64 y1, .int .i64 y2, .int .i64 y3, .int .i64 y4, .int .i64 y5])).run Tryd.prog w = .ok (.bool (x1 == y1 && (x2 == y2 && (x3 == y3 && (x4 == y4 && x5 == y5))))) w := by
  have hp : Tryd.prog.stoodInHeld 28 = false := by kernel_rfl
  rw [run_eql_struct, run_equalIn_agg w 9999 28 _ _ (by simp only [Program.fieldsOf, Tryd.underlying28]) hp]
  simp only [Program.fieldsOf, Tryd.underlying28]
  simp [Op.eqFields, go_sem, Tryd.underlying3, Tryd.underlying2]
  by_cases h1 : x1 = y1 <;> by_cases h2 : x2 = y2 <;> by_cases h3 : x3 = y3 <;> by_cases h4 : x4 = y4 <;> by_cases h5 : x5 = y5 <;> simp [h1, h2, h3, h4, h5]
theorem sh_neq (x1 x2 x3 x4 x5 : Int) (w : World) : (binOp .neq 28 (.agg #[.int .i64 x1, .int .i64 x2, .int .i64 x3, .int .i64 x4, .int .i64 x5]) (.agg #[.int .i64 x1, .int .i64 x2, .int .i64 x3, .int .i64 x4, .int .i64 x5])).run Tryd.prog w = .ok (.bool false) w := by
  have hp : Tryd.prog.stoodInHeld 28 = false := by kernel_rfl
  rw [run_neq_struct, run_equalIn_agg w 9999 28 _ _ (by simp only [Program.fieldsOf, Tryd.underlying28]) hp]
  simp only [Program.fieldsOf, Tryd.underlying28]
  simp [Op.eqFields, go_sem, Tryd.underlying3, Tryd.underlying2]
theorem shtexts_long (k lo hi p ph : Int) (s : ByteArray) (w : World) (hR : Ready w) (hs : s.size ≤ maxLen) (h : 200 < s.size) :
    Calls Tryd.prog 3 #[.agg #[.int .i64 k, .int .i64 lo, .int .i64 hi, .int .i64 p, .int .i64 ph], .string s] w fun x w' => x = .returned (.bool true) ∧ Below w.heap.size w w' := by
  unfold maxLen at hs
  have hI : (200 : Int) < (s.size : Int) := by omega
  have HR := Lib.hid hR
  clear hR
  have HB0 := Lib.hid (sub_alloc (Below.refl _ w) (.cells #[.int .i64 k, .int .i64 lo, .int .i64 hi, .int .i64 p, .int .i64 ph] 23))
  go_enter Tryd.func3, Tryd.ntmps3
  go_wp2_with fail
  refine (sh_awake _ (HR.out.up HB0.out)).mono ?_
  rintro x w1 ⟨rfl, hb⟩
  have h1 := sub_trans HB0.out hb
  clear hb
  go_wp2
  go_ret
  exact ⟨rfl, h1⟩
theorem shtexts_ok (k lo hi p ph : Int) (h5 : In5 k lo hi p ph) (s : ByteArray) (w : World) (hR : Ready w) (h : s.size ≤ 200) (he : errS k lo hi p = 0) :
    Calls Tryd.prog 3 #[.agg #[.int .i64 k, .int .i64 lo, .int .i64 hi, .int .i64 p, .int .i64 ph], .string s] w fun x w' => x = .returned (.bool true) ∧ Below w.heap.size w w' := by
  have hI : ¬ (200 : Int) < (s.size : Int) := by omega
  have hG0 := Blk.new_at w 23 #[.int .i64 k, .int .i64 lo, .int .i64 hi, .int .i64 p, .int .i64 ph] (g := w.heap.size) rfl
  have hB0 := sub_alloc (Below.refl _ w) (.cells #[.int .i64 k, .int .i64 lo, .int .i64 hi, .int .i64 p, .int .i64 ph] 23)
  have HZ0 := Lib.hid (fun W => sh_eql 0 0 0 0 0 0 0 0 0 0 W)
  have HN0 := Lib.hid (fun W => sh_neq k lo hi p ph W)
  have HT := Lib.hid (fun W hT => shtext_ok k lo hi p ph h5 W hT he)
  have HU := Lib.hid (fun W => rshtext_ok k lo hi p ph h5 W he)
  have HSZ := Lib.hid (show (shB k lo hi p ph).size ≤ 1000 from by have := shB_size h5; omega)
  have HR := Lib.hid hR
  have HI := Lib.hid (And.intro h (And.intro h5 he))
  have HG0 := Lib.hid (And.intro hB0 hG0)
  clear hR hB0 hG0 h h5 he
  go_enter Tryd.func3, Tryd.ntmps3
  go_wp2_with fail
  refine (sh_awake _ (HR.out.up HG0.out.1)).mono ?_
  rintro x w1 ⟨rfl, hb⟩
  have h1 := sub_trans HG0.out.1 hb
  have g1 := HG0.out.2.later hb
  have c0 := g1.cell 0
  have c1 := g1.cell 1
  have c2 := g1.cell 2
  have c3 := g1.cell 3
  have c4 := g1.cell 4
  simp at c0 c1 c2 c3 c4
  clear hb HG0
  go_wp2_with fail
  refine (HT.out w1 (HR.out.up h1).tabs.pow).mono ?_
  rintro x w2 ⟨rfl, hb⟩
  have h2 := sub_trans h1 hb
  have g2 := g1.later hb
  have c0 := g2.cell 0
  have c1 := g2.cell 1
  have c2 := g2.cell 2
  have c3 := g2.cell 3
  have c4 := g2.cell 4
  simp at c0 c1 c2 c3 c4
  clear hb h1 g1
  go_wp2_with fail
  refine (HU.out w2).mono ?_
  rintro x w3 ⟨rfl, hb⟩
  have h3 := sub_trans h2 hb
  have g3 := g2.later hb
  have c0 := g3.cell 0
  have c1 := g3.cell 1
  have c2 := g3.cell 2
  have c3 := g3.cell 3
  have c4 := g3.cell 4
  simp at c0 c1 c2 c3 c4
  clear hb h2 g2
  have hss : ((shB k lo hi p ph).toList != (shB k lo hi p ph).toList) = false := by simp
  go_wp2_with fail
  refine (shparse_any _ HSZ.out w3 (HR.out.up h3)).mono ?_
  rintro x w4 ⟨hb, hor⟩
  have h4 := sub_trans h3 hb
  have g4 := g3.later hb
  clear hb h3 g3
  rcases hor with ⟨k', lo', hi', p', ph', h5', he', hs', rfl⟩ | ⟨hno, rfl⟩
  case inr => exact absurd rfl (hno k lo hi p ph HI.out.2.1 HI.out.2.2)
  obtain ⟨rfl, rfl, rfl, rfl, rfl⟩ := shB_inj HI.out.2.1 h5' HI.out.2.2 he' hs'.symm
  have h5 := sub_alloc h4 (.cells #[.int .i64 k, .int .i64 lo, .int .i64 hi, .int .i64 p, .int .i64 ph] 28)
  have g5 := g4.alloc (.cells #[.int .i64 k, .int .i64 lo, .int .i64 hi, .int .i64 p, .int .i64 ph] 28)
  have c0 := g5.cell 0
  have c1 := g5.cell 1
  have c2 := g5.cell 2
  have c3 := g5.cell 3
  have c4 := g5.cell 4
  simp at c0 c1 c2 c3 c4
  clear hs' h5' he' h4 g4
  have hn0 := HN0.out
  go_wp2_with fail
  refine (shparse_any s (by have := HI.out.1; omega) _ (HR.out.up h5)).mono ?_
  rintro x w6 ⟨hb, hor⟩
  have h6 := sub_trans h5 hb
  clear hb h5 g5
  rcases hor with ⟨k', lo', hi', p', ph', h5', he', hs', rfl⟩ | ⟨hno, rfl⟩
  · have h7 := sub_alloc h6 (.cells #[.int .i64 k', .int .i64 lo', .int .i64 hi', .int .i64 p', .int .i64 ph'] 28)
    have HV := Lib.hid (fun W => rshtext_ok k' lo' hi' p' ph' h5' W he')
    have HS := Lib.hid hs'
    clear h5' he' hs' h6
    have hxx : (s.toList == s.toList) = true := by simp
    go_wp2_with fail
    refine (HV.out _).mono ?_
    rintro x w8 ⟨rfl, hb⟩
    rw [HS.out]
    have h8 := sub_trans h7 hb
    clear hb h7
    go_wp2
    go_ret
    exact ⟨by first | rfl | simp, h8⟩
  · have h7 := sub_alloc h6 (.cells #[.int .i64 0, .int .i64 0, .int .i64 0, .int .i64 0, .int .i64 0] 28)
    have hz0 := HZ0.out
    clear hno h6
    go_wp2
    go_ret
    exact ⟨by first | rfl | simp, h7⟩
theorem shtexts_bad (k lo hi p ph : Int) (h5 : In5 k lo hi p ph) (s : ByteArray) (w : World) (hR : Ready w) (h : s.size ≤ 200) (he : errS k lo hi p ≠ 0) :
    Calls Tryd.prog 3 #[.agg #[.int .i64 k, .int .i64 lo, .int .i64 hi, .int .i64 p, .int .i64 ph], .string s] w fun x w' => x = .returned (.bool true) ∧ Below w.heap.size w w' := by
  have hI : ¬ (200 : Int) < (s.size : Int) := by omega
  have hG0 := Blk.new_at w 23 #[.int .i64 k, .int .i64 lo, .int .i64 hi, .int .i64 p, .int .i64 ph] (g := w.heap.size) rfl
  have hB0 := sub_alloc (Below.refl _ w) (.cells #[.int .i64 k, .int .i64 lo, .int .i64 hi, .int .i64 p, .int .i64 ph] 23)
  have HZ0 := Lib.hid (fun W => sh_eql 0 0 0 0 0 0 0 0 0 0 W)
  have HN0 := Lib.hid (fun W => sh_neq k lo hi p ph W)
  have HT := Lib.hid (fun W => shtext_bad k lo hi p ph W he)
  have HU := Lib.hid (fun W => rshtext_bad k lo hi p ph W he)
  have HR := Lib.hid hR
  have HI := Lib.hid (And.intro h (And.intro h5 he))
  have HG0 := Lib.hid (And.intro hB0 hG0)
  clear hR hB0 hG0 h h5 he
  have he := HI.out.2.2
  generalize errS k lo hi p = er at *
  go_enter Tryd.func3, Tryd.ntmps3
  go_wp2_with fail
  refine (sh_awake _ (HR.out.up HG0.out.1)).mono ?_
  rintro x w1 ⟨rfl, hb⟩
  have h1 := sub_trans HG0.out.1 hb
  have g1 := HG0.out.2.later hb
  have c0 := g1.cell 0
  have c1 := g1.cell 1
  have c2 := g1.cell 2
  have c3 := g1.cell 3
  have c4 := g1.cell 4
  simp at c0 c1 c2 c3 c4
  clear hb HG0
  go_wp2_with fail
  refine (HT.out w1 ).mono ?_
  rintro x w2 ⟨rfl, hb⟩
  have h2 := sub_trans h1 hb
  have g2 := g1.later hb
  have c0 := g2.cell 0
  have c1 := g2.cell 1
  have c2 := g2.cell 2
  have c3 := g2.cell 3
  have c4 := g2.cell 4
  simp at c0 c1 c2 c3 c4
  clear hb h1 g1
  go_wp2_with fail
  refine (HU.out w2).mono ?_
  rintro x w3 ⟨rfl, hb⟩
  have h3 := sub_trans h2 hb
  have g3 := g2.later hb
  have c0 := g3.cell 0
  have c1 := g3.cell 1
  have c2 := g3.cell 2
  have c3 := g3.cell 3
  have c4 := g3.cell 4
  simp at c0 c1 c2 c3 c4
  clear hb h2 g2
  have hss : (ByteArray.empty.toList != ByteArray.empty.toList) = false := by simp
  go_wp2_with fail
  refine (shparse_any s (by have := HI.out.1; omega) _ (HR.out.up h3)).mono ?_
  rintro x w6 ⟨hb, hor⟩
  have h6 := sub_trans h3 hb
  clear hb h3 g3
  rcases hor with ⟨k', lo', hi', p', ph', h5', he', hs', rfl⟩ | ⟨hno, rfl⟩
  · have h7 := sub_alloc h6 (.cells #[.int .i64 k', .int .i64 lo', .int .i64 hi', .int .i64 p', .int .i64 ph'] 28)
    have HV := Lib.hid (fun W => rshtext_ok k' lo' hi' p' ph' h5' W he')
    have HS := Lib.hid hs'
    clear h5' he' hs' h6
    have hxx : (s.toList == s.toList) = true := by simp
    go_wp2_with fail
    refine (HV.out _).mono ?_
    rintro x w8 ⟨rfl, hb⟩
    rw [HS.out]
    have h8 := sub_trans h7 hb
    clear hb h7
    go_wp2
    go_ret
    exact ⟨by first | rfl | simp, h8⟩
  · have h7 := sub_alloc h6 (.cells #[.int .i64 0, .int .i64 0, .int .i64 0, .int .i64 0, .int .i64 0] 28)
    have hz0 := HZ0.out
    clear hno h6
    go_wp2
    go_ret
    exact ⟨by first | rfl | simp, h7⟩
theorem shapeTexts_walk (k lo hi p ph : Int) (s : ByteArray) (w : World) (hR : Ready w) (h5 : In5 k lo hi p ph) (hs : s.size ≤ maxLen) :
    Calls Tryd.prog 3 #[.agg #[.int .i64 k, .int .i64 lo, .int .i64 hi, .int .i64 p, .int .i64 ph], .string s] w fun x w' => x = .returned (.bool true) ∧ Below w.heap.size w w' := by
  by_cases h : 200 < s.size
  · exact shtexts_long k lo hi p ph s w hR hs h
  · by_cases he : errS k lo hi p = 0
    · exact shtexts_ok k lo hi p ph h5 s w hR (by omega) he
    · exact shtexts_bad k lo hi p ph h5 s w hR (by omega) he
end Go.Proofs.YtcmnlnnhebdblaaDoor
