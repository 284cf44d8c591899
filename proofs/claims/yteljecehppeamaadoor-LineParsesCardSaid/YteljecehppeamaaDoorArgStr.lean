/-
  An argument that is a string. Condition: none.
-/
import Derived.Test.YteljecehppeamaaDoorBase
import Derived.ChangeMaps5
namespace Go.Fw
open Go.RowKit Go.WideShapes Go.ChangeShapes
theorem arg_str {H : Type} {enc : TypeId × Value → H} {P : Program} {W : World} {base : Nat} {t : TypeId} {v : Value} {d : DataW H} {p : List MemPlace} (ht : P.underlying t = some .string)
    (hv : Value.okWide P W .any base t v) (h : DataW.Trod enc P W 0 (fun _ => true) true t v d p) : ∃ s : ByteArray, v = .string s ∧ s.size ≤ maxLen := by
  obtain ⟨s, rfl, _, _, hs⟩ := Go.ChangeMaps.open_string ht hv h
  exact ⟨s, rfl, hs⟩
end Go.Fw
