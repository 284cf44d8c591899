/-
  Samples as they read in memory. Condition: none.
-/
import Derived.Test.YtcmnlnnhebdblaaDoorStruct
namespace Go.Fw
open Go.RowKit
set_option linter.unusedVariables false
structure Smp where
  tick : Int
  value : Int
  deriving DecidableEq
def Smp.cells (a : Smp) : List Value := [.int .i64 a.tick, .int .i64 a.value]
def smps (l : List Smp) : List Value := l.flatMap Smp.cells
structure Smp.ok (a : Smp) : Prop where
  tick : In64 a.tick
  value : In64 a.value
theorem Smp.cells_length (a : Smp) : a.cells.length = 2 := rfl
theorem smps_length (l : List Smp) : (smps l).length = l.length * 2 := flat_length _ 2 Smp.cells_length l
theorem smp_len {w : World} {B n : Nat} {A : Option Addr} {l : List Smp} (h : Reads w B 2 A n (smps l)) : n = l.length := by
  have := h.1
  rw [smps_length] at this
  omega
theorem smp_at {w : World} {B n k : Nat} {A : Option Addr} {l : List Smp} (h : Reads w B 2 A n (smps l)) (hk : k < l.length) :
    ∃ b o, A = some ⟨b, o, none⟩ ∧ b < B ∧ w.cell? ⟨b, o + k * 2, none⟩ = some (.int .i64 l[k].tick) ∧ w.cell? ⟨b, o + k * 2 + 1, none⟩ = some (.int .i64 l[k].value) := by
  obtain ⟨b, o, rfl, hb, hc⟩ := h.elem Smp.cells_length (by decide) (smp_len h) hk
  exact ⟨b, o, rfl, hb, hc 0 _ rfl, hc 1 _ rfl⟩
theorem smps_snoc (l : List Smp) (a : Smp) : smps l ++ a.cells = smps (l ++ [a]) := by simp [smps]
end Go.Fw
