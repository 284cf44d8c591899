/-
  Rows of strings, and an argument that is one. Condition: none.
-/
import Derived.Test.YteljecehppeamaaDoorArgs
import Derived.Test.YteljecehppeamaaDoorOwnN
import Derived.SliceStrings
namespace Go.Fw
open Go.RowKit Go.WideShapes Go.ChangeShapes
set_option linter.unusedVariables false
def strs (l : List ByteArray) : List Value := l.map .string
@[simp] theorem strs_length (l : List ByteArray) : (strs l).length = l.length := by simp [strs]
theorem strs_one (l : List ByteArray) : ∀ u ∈ strs l, u.oneCell' = true := by
  intro u hu
  obtain ⟨x, _, rfl⟩ := List.mem_map.1 hu
  rfl
theorem strs_get {l : List ByteArray} {k : Nat} {u : Value} (h : (strs l)[k]? = some u) (hk : k < l.length) : .string l[k] = u := by
  unfold strs at h
  rw [List.getElem?_map, List.getElem?_eq_getElem hk] at h
  exact Option.some.inj h
theorem strs_set (l : List ByteArray) (k : Nat) (x : ByteArray) : (strs l).set k (.string x) = strs (l.set k x) := by simp [strs, List.map_set]
theorem strs_getD {l : List ByteArray} {j : Nat} (h : j < l.length) : (strs l)[j]? = some (.string (l.getD j ByteArray.empty)) := by simp [strs, h]
section
variable {H : Type} {enc : TypeId × Value → H} {P : Program} {W : World}
theorem arg_strs {base : Nat} {t e : TypeId} {v : Value} {d : DataW H} {p : List MemPlace} (ht : P.underlying t = some (.slice e)) (he : P.underlying e = some .string) (hc : P.cellsOf e = 1)
    (hv : Value.okWide P W .any base t v) (h : DataW.Trod enc P W 0 (fun _ => true) true t v d p) :
    ∃ (A : Option Addr) (c : Nat) (l : List ByteArray), v = .slice A l.length c ∧ (l.length ≤ maxLen ∧ l.length ≤ c) ∧ (∀ s ∈ l, s.size ≤ maxLen) ∧ Reads W W.heap.size 1 A l.length (strs l) := by
  obtain ⟨a0, len0, cap0, rfl⟩ := okWide_slice ht hv
  obtain ⟨fuel, hf⟩ := h
  rcases open_strings ht he hc hf with ⟨hcs, _⟩ | ⟨x, len, cap, zs, hcs, _, hl, hm, hz, _, hcell, hwz⟩
  · simp [Value.cells] at hcs
    obtain ⟨rfl, rfl, rfl⟩ := hcs
    exact ⟨none, 0, [], rfl, by simp [maxLen], by simp, Reads.none_⟩
  · simp [Value.cells] at hcs
    obtain ⟨rfl, rfl, rfl⟩ := hcs
    have hzc : zs.length = cap0 := by simpa using hz
    have hzl : (zs.take len0).length = len0 := by rw [List.length_take]; omega
    refine ⟨some x, cap0, zs.take len0, by rw [hzl], ⟨by omega, by omega⟩, fun n hn => hwz n (List.mem_of_mem_take hn), ?_⟩
    rw [hzl]
    refine ⟨by rw [strs_length, hzl]; omega, fun hpos => ⟨x, rfl, ?_, fun j u hu => ?_⟩⟩
    · have := World.block_lt_of_cell? W _ (hcell 0 (by omega))
      rwa [block_of_add] at this
    · have hj : j < len0 := by
        have := (List.getElem?_eq_some_iff.1 hu).1
        rwa [strs_length, hzl] at this
      have hj2 : j < zs.length := by omega
      rw [hcell j hj2]
      have hu2 := strs_get hu (by omega)
      rw [← hu2]
      simp [hj2]
end
end Go.Fw
