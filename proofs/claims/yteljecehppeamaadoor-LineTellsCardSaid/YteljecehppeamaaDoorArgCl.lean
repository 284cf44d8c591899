/-
  An argument that is a call. Condition: none.
-/
import Derived.Test.YteljecehppeamaaDoorLineTells
import Derived.Test.YteljecehppeamaaDoorRow
namespace Go.Fw
open Go.RowKit Go.WideShapes Go.ChangeShapes Go.Deep Go.Joins
set_option linter.unusedVariables false
section
variable {H : Type} {enc : TypeId × Value → H} {P : Program} {W : World} {base : Nat} {sp : Nat → Bool} {held : Bool}
theorem leaf_str {m : Nat} {t : TypeId} {i : Nat} {e : TypeId} (hl : leafT P m t i = some e) (he : P.underlying e = some .string) (hk : P.keyTypeAt 1 e = true) {n : Nat} {cs : List Value} {x : DataW H × List MemPlace} (hx : DataW.trod enc P W base sp held n t cs = some x) :
    ∃ s : ByteArray, cs[i]? = some (.string s) ∧ s.size ≤ maxLen := by
  obtain ⟨u, n', y, hu, hy⟩ := leaf_of m t i e hl n cs x hx
  have h2 := (keyLits_of_trod 1 e hk n' [u] y hy).1
  obtain ⟨z, hz, _⟩ := DataW.trod_string he hy
  simp at hz
  subst hz
  refine ⟨z, hu, ?_⟩
  simp only [Program.keyLits, he] at h2
  split at h2
  · assumption
  · cases h2
end
end Go.Fw
namespace Go.Proofs.YteljecehppeamaaDoor
open Go.RowKit Go.Fw Go.WideShapes Go.ChangeShapes Go.Deep
set_option maxHeartbeats 1000000
set_option maxRecDepth 4000
set_option linter.unusedVariables false
section
variable {H : Type} {enc : TypeId × Value → H} {W : World}
theorem in64_wf {n : Int} (h : (Lit.int .i64 n).wf = true) : In64 n := by simpa [In64, Lit.wf, IntKind.min, IntKind.max, IntKind.signed, IntKind.bits] using h
theorem cl_of {base : Nat} {sp : Nat → Bool} {held : Bool} {n : Nat} {cs : List Value} {x : DataW H × List MemPlace} (hl : cs.length = 11) (h : DataW.trod enc Tryd.prog W base sp held n 35 cs = some x) : ∃ c : Cl, c.arr.toList = cs ∧ c.okN := by
  obtain ⟨z0, h0, w0⟩ := leaf_int (m := 5) (i := 0) (e := 3) (k := .i64) (by kernel_rfl) Tryd.underlying3 h
  obtain ⟨s1, h1, w1⟩ := leaf_str (m := 5) (i := 1) (e := 9) (by kernel_rfl) Tryd.underlying9 (by kernel_rfl) h
  obtain ⟨z2, h2, w2⟩ := leaf_int (m := 5) (i := 2) (e := 2) (k := .i64) (by kernel_rfl) Tryd.underlying2 h
  obtain ⟨z3, h3, w3⟩ := leaf_int (m := 5) (i := 3) (e := 2) (k := .i64) (by kernel_rfl) Tryd.underlying2 h
  obtain ⟨z4, h4, w4⟩ := leaf_int (m := 5) (i := 4) (e := 3) (k := .i64) (by kernel_rfl) Tryd.underlying3 h
  obtain ⟨z5, h5, w5⟩ := leaf_int (m := 5) (i := 5) (e := 2) (k := .i64) (by kernel_rfl) Tryd.underlying2 h
  obtain ⟨z6, h6, w6⟩ := leaf_int (m := 5) (i := 6) (e := 2) (k := .i64) (by kernel_rfl) Tryd.underlying2 h
  obtain ⟨z7, h7, w7⟩ := leaf_int (m := 5) (i := 7) (e := 2) (k := .i64) (by kernel_rfl) Tryd.underlying2 h
  obtain ⟨z8, h8, w8⟩ := leaf_int (m := 5) (i := 8) (e := 2) (k := .i64) (by kernel_rfl) Tryd.underlying2 h
  obtain ⟨z9, h9, w9⟩ := leaf_int (m := 5) (i := 9) (e := 2) (k := .i64) (by kernel_rfl) Tryd.underlying2 h
  obtain ⟨z10, h10, w10⟩ := leaf_int (m := 5) (i := 10) (e := 2) (k := .i64) (by kernel_rfl) Tryd.underlying2 h
  refine ⟨⟨z0, s1, z2, z3, z4, z5, z6, z7, z8, z9, z10⟩, ?_, ⟨in64_wf w0, in64_wf w2, in64_wf w3, in64_wf w4, ⟨in64_wf w5, in64_wf w6, in64_wf w7, in64_wf w8, in64_wf w9, in64_wf w10⟩, w1⟩⟩
  match cs, hl with
  | [a0, a1, a2, a3, a4, a5, a6, a7, a8, a9, a10], _ =>
    simp at h0 h1 h2 h3 h4 h5 h6 h7 h8 h9 h10
    simp [Cl.arr, h0, h1, h2, h3, h4, h5, h6, h7, h8, h9, h10]
theorem arg_cl {base : Nat} {v : Value} {d : DataW H} {p : List MemPlace} (hv : Value.okWide Tryd.prog W .any base 35 v) (h : DataW.Trod enc Tryd.prog W 0 (fun _ => true) true 35 v d p) : ∃ x : Cl, v = x.val ∧ x.okN := by
  obtain ⟨cs, rfl, hsz⟩ := okWide_struct Tryd.underlying35 hv
  obtain ⟨fuel, hf⟩ := h
  have hC : Tryd.prog.cellsOf 35 = 11 := by kernel_rfl
  obtain ⟨c, hc, hok⟩ := cl_of (cs := cs.toList) (by rw [Array.length_toList]; exact hsz.trans hC) (by simpa [Value.cells] using hf)
  refine ⟨c, ?_, hok⟩
  unfold Cl.val
  congr 1
  exact (Array.toList_inj.1 hc).symm
end
end Go.Proofs.YteljecehppeamaaDoor
