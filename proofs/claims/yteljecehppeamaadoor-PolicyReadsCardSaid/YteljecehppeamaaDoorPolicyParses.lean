/-
  PolicyParses walked (chapter 12). Conditions: strconv's table and errors lie in memory, and a number in internal/bytealg.MaxLen.
-/
import Derived.Test.YteljecehppeamaaDoorPolParse
import Derived.Test.YteljecehppeamaaDoorPolTextR
import Derived.Test.YteljecehppeamaaDoorPolicyTells
import Derived.Test.YteljecehppeamaaDoorArgStr
namespace Go.Proofs.YteljecehppeamaaDoor
open Go.RowKit Go.Fw Go.Shelf
set_option maxHeartbeats 2000000
set_option maxRecDepth 100000
set_option linter.unusedVariables false
set_option linter.unusedSimpArgs false
theorem pol_eql (x1 x2 x3 x4 x5 x6 y1 y2 y3 y4 y5 y6 : Int) (w : World) : (binOp .eql 23 (.agg #[.int .i64 x1, .int .i64 x2, .int .i64 x3, .int .i64 x4, .int .i64 x5, .int .i64 x6]) (.agg #[.int .i64 y1, .int .i64 y2, .int .i64 y3, .int .i64 y4, .int .i64 y5, .int .i64 y6])).run Tryd.prog w = .ok (.bool (x1 == y1 && (x2 == y2 && (x3 == y3 && (x4 == y4 && (x5 == y5 && x6 == y6)))))) w := by
  have hp : Tryd.prog.stoodInHeld 23 = false := by kernel_rfl
  rw [run_eql_struct, run_equalIn_agg w 9999 23 _ _ (by simp only [Program.fieldsOf, Tryd.underlying23]) hp]
  simp only [Program.fieldsOf, Tryd.underlying23]
  simp [Op.eqFields, go_sem, Tryd.underlying3, Tryd.underlying2]
  by_cases h1 : x1 = y1 <;> by_cases h2 : x2 = y2 <;> by_cases h3 : x3 = y3 <;> by_cases h4 : x4 = y4 <;> by_cases h5 : x5 = y5 <;> by_cases h6 : x6 = y6 <;> simp [h1, h2, h3, h4, h5, h6]
theorem pparses_long (s : ByteArray) (w : World) (hR : Ready w) (hs : s.size ≤ maxLen) (h : 400 < s.size) :
    Calls Tryd.prog 5 #[.string s] w fun x w' => x = .returned (.bool true) ∧ Below w.heap.size w w' := by
  unfold maxLen at hs
  have hI : (400 : Int) < (s.size : Int) := by omega
  have HR := Lib.hid hR
  clear hR
  go_enter Tryd.func5, Tryd.ntmps5
  go_wp2_with fail
  refine (pol_awake w HR.out.tabs.pow).mono ?_
  rintro x w1 ⟨rfl, hb⟩
  go_wp2
  go_ret
  exact ⟨rfl, hb⟩
theorem pparses_short (s : ByteArray) (w : World) (hR : Ready w) (h : s.size ≤ 400) :
    Calls Tryd.prog 5 #[.string s] w fun x w' => x = .returned (.bool true) ∧ Below w.heap.size w w' := by
  have hI : ¬ (400 : Int) < (s.size : Int) := by omega
  have HR := Lib.hid hR
  have hz0 : ∀ W, (binOp .eql 23 (.agg #[.int .i64 0, .int .i64 0, .int .i64 0, .int .i64 0, .int .i64 0, .int .i64 0]) (.agg #[.int .i64 0, .int .i64 0, .int .i64 0, .int .i64 0, .int .i64 0, .int .i64 0])).run Tryd.prog W = .ok (.bool true) W := fun W => pol_eql 0 0 0 0 0 0 0 0 0 0 0 0 W
  have HZ0 := Lib.hid hz0
  clear hR hz0
  go_enter Tryd.func5, Tryd.ntmps5
  go_wp2_with fail
  refine (pol_awake w HR.out.tabs.pow).mono ?_
  rintro x w1 ⟨rfl, h1⟩
  go_wp2_with fail
  refine (polParse_any s (by omega) w1 (HR.out.up h1)).mono ?_
  rintro x w2 ⟨hb2, hor⟩
  have h2 := sub_trans h1 hb2
  clear h1 hb2
  rcases hor with ⟨a, b, c, d, e, f, h6, ht, ⟨hP, rfl⟩ | ⟨hP, rfl⟩⟩ | ⟨hno, rfl⟩
  · have HH := Lib.hid (And.intro h6 (And.intro ht hP))
    clear h6 ht hP
    have h3 := sub_alloc h2 (.cells #[.int .i64 a, .int .i64 b, .int .i64 c, .int .i64 d, .int .i64 e, .int .i64 f] 23)
    have H3 := Lib.hid (And.intro h3 (fun W => pol_cells (w := w2) (W := W) (a := a) (b := b) (c := c) (d := d) (e := e) (f := f) (t := 23)))
    clear h3
    go_wp2_with fail
    refine (right_ok a b c d e f _ HH.out.2.2).mono ?_
    rintro x w3 ⟨rfl, hb3⟩
    obtain ⟨c0, c1, c2, c3, c4, c5⟩ := H3.out.2 w3 (hb3.mono (by simp))
    have h4 := sub_trans H3.out.1 hb3
    clear hb3
    have HT := Lib.hid (poltextr_any a b c d e f HH.out.1 w3)
    have hxx : (s.toList == s.toList) = true := by simp
    go_wp2_with fail
    refine HT.out.mono ?_
    rintro x w4 ⟨rfl, hb4⟩
    rw [HH.out.2.1]
    have h5 := sub_trans h4 hb4
    go_wp2
    go_ret
    exact ⟨by first | rfl | simp, h5⟩
  · have h3 := sub_alloc h2 (.cells #[.int .i64 0, .int .i64 0, .int .i64 0, .int .i64 0, .int .i64 0, .int .i64 0] 23)
    have hz0 := HZ0.out
    clear hP ht h6
    go_wp2
    go_ret
    exact ⟨by first | rfl | simp, h3⟩
  · have h3 := sub_alloc h2 (.cells #[.int .i64 0, .int .i64 0, .int .i64 0, .int .i64 0, .int .i64 0, .int .i64 0] 23)
    have hz0 := HZ0.out
    clear hno
    go_wp2
    go_ret
    exact ⟨by first | rfl | simp, h3⟩
theorem policyParses_walk (s : ByteArray) (w : World) (hR : Ready w) (hs : s.size ≤ maxLen) :
    Calls Tryd.prog 5 #[.string s] w fun x w' => x = .returned (.bool true) ∧ Below w.heap.size w w' := by
  by_cases h : 400 < s.size
  · exact pparses_long s w hR hs h
  · exact pparses_short s w hR (by omega)
end Go.Proofs.YteljecehppeamaaDoor
