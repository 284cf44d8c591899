/-
  A policy's text, walked (chapter 12). Condition: strconv's table lies in memory.
-/
import Derived.Test.YteljecehppeamaaDoorPolPlain
import Derived.Test.YteljecehppeamaaDoorStrconvF
import Derived.Test.YteljecehppeamaaDoorBuilder
import Derived.Test.YteljecehppeamaaDoorDec
import Derived.Test.YteljecehppeamaaDoorRegion
namespace Go.Proofs.YteljecehppeamaaDoor
open Go.RowKit Go.Fw Go.Shelf
set_option maxHeartbeats 2000000
set_option maxRecDepth 100000
set_option linter.unusedVariables false
set_option linter.unusedSimpArgs false
theorem usual_any (w : World) : Calls Tryd.prog 24 #[] w fun x w' => x = .returned (.agg #[.int .i64 1, .int .i64 10, .int .i64 100, .int .i64 100, .int .i64 5, .int .i64 3]) ∧ Below w.heap.size w w' := by
  go_enter Tryd.func24, Tryd.ntmps24
  go_wp2
  exact bodyPost_ret (v := .agg #[.int .i64 1, .int .i64 10, .int .i64 100, .int .i64 100, .int .i64 5, .int .i64 3]) (by simp [results, Tryd.results24, go_sem]) rfl ⟨rfl, by simpa using sub_alloc (Below.refl _ w) _⟩
theorem names_any (w : World) : Calls Tryd.prog 28 #[] w fun x w' => x = .returned (.agg #[.string ⟨#[109, 105, 110]⟩, .string ⟨#[109, 97, 120]⟩, .string ⟨#[116, 97, 114, 103, 101, 116]⟩, .string ⟨#[116, 111, 108, 101, 114, 97, 110, 99, 101]⟩, .string ⟨#[119, 105, 110, 100, 111, 119]⟩, .string ⟨#[104, 111, 108, 100]⟩]) ∧ Below w.heap.size w w' := by
  go_enter Tryd.func28, Tryd.ntmps28
  go_wp2
  exact bodyPost_ret (v := .agg #[.string ⟨#[109, 105, 110]⟩, .string ⟨#[109, 97, 120]⟩, .string ⟨#[116, 97, 114, 103, 101, 116]⟩, .string ⟨#[116, 111, 108, 101, 114, 97, 110, 99, 101]⟩, .string ⟨#[119, 105, 110, 100, 111, 119]⟩, .string ⟨#[104, 111, 108, 100]⟩]) (by simp [results, Tryd.results28, go_sem]) rfl ⟨rfl, by simpa using sub_alloc (Below.refl _ w) _⟩
theorem numbers_any (a b c d e f : Int) (w : World) : Calls Tryd.prog 25 #[.agg #[.int .i64 a, .int .i64 b, .int .i64 c, .int .i64 d, .int .i64 e, .int .i64 f]] w fun x w' => x = .returned (.agg #[.int .i64 a, .int .i64 b, .int .i64 c, .int .i64 d, .int .i64 e, .int .i64 f]) ∧ Below w.heap.size w w' := by
  go_enter Tryd.func25, Tryd.ntmps25
  go_wp2
  exact bodyPost_ret (v := .agg #[.int .i64 a, .int .i64 b, .int .i64 c, .int .i64 d, .int .i64 e, .int .i64 f]) (by simp [results, Tryd.results25, go_sem]) rfl ⟨rfl, by simpa using sub_alloc (sub_alloc (Below.refl _ w) _) _⟩
end Go.Proofs.YteljecehppeamaaDoor
