/-
  What lies in memory ahead of a call of strconv: its table of powers, its two errors. Condition: none.
-/
import Derived.Test.YteljecehppeamaaDoorNums
import Derived.Lib.LaidTab
import Derived.Lib.SmallJoins
import Derived.Lib.ConvBytes
import Derived.Sort.Grow
import Derived.Lib.AtoiErrMem
import Derived.Test.YteljecehppeamaaDoorStruct
namespace Go.Fw
open Go.RowKit Go.Sort Go.Joins
set_option linter.unusedVariables false
/-- the table and the two errors -/
structure Tabs (P : Program) (w : World) : Prop where
  pow : Lib.TabIs P w "internal/strconv.uint64pow10" .u64 Lib.pow10Tab
  syn : ∃ tp p, w.var? P "strconv.ErrSyntax" = some #[.iface tp p]
  ran : ∃ tp p, w.var? P "strconv.ErrRange" = some #[.iface tp p]
theorem var_up {P : Program} {w w' : World} {n : String} {cs : Array Value} (h : w.var? P n = some cs) (hb : Below w.heap.size w w') : w'.var? P n = some cs := by
  have h2 := h
  unfold World.var? at h2
  cases hg : P.globalNamed n with
  | none => rw [hg] at h2; cases h2
  | some g => exact var_stays hg h hb (Nat.le_refl _)
theorem Tabs.up {P : Program} {w w' : World} (h : Tabs P w) (hb : Below w.heap.size w w') : Tabs P w' := by
  obtain ⟨h1, ⟨t2, p2, h2⟩, ⟨t3, p3, h3⟩⟩ := h
  exact ⟨var_up h1 hb, ⟨t2, p2, var_up h2 hb⟩, ⟨t3, p3, var_up h3 hb⟩⟩
theorem below_grow {w w' : World} {k : Nat} {os : Array Obj} (h : w' = grow (w.drewN k) os) : Below w.heap.size w w' := by
  subst h
  refine ⟨rfl, rfl, rfl, ?_, fun i hi => ?_⟩
  · show w.heap.size ≤ (w.heap ++ os).size
    simp
  · show (w.heap ++ os)[i]? = w.heap[i]?
    rw [Array.getElem?_append_left hi]
theorem below_bytes {w w' : World} {e : TypeId} (h : w' = w ∨ ∃ t, w' = Lib.bytesWorld w e t) : Below w.heap.size w w' := by
  rcases h with rfl | ⟨t, rfl⟩
  · exact Below.refl _ _
  · exact Lib.bytesWorld_below w e t
/-- how a numeral is read: the number, or none -/
def readsAs (s : ByteArray) (n : Int) (ok : Bool) : Prop := In64 n ∧ (ok = true → Lib.atoiAll s.data.toList = .ok n) ∧ (ok = false → ∀ v, Lib.atoiAll s.data.toList ≠ .ok v)
end Go.Fw
