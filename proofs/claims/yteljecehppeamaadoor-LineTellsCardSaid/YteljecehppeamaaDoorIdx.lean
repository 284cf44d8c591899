/-
  An element of an array that is a value. Condition: elements of one cell.
-/
import Derived.Test.YteljecehppeamaaDoorBase
import Derived.ChangeKeysEq
namespace Go.Fw
open Go.RowKit
theorem run_index_arr {P : Program} {t e : TypeId} {n : Nat} {cs : Array Value} {v : Value} {k : IntKind} {i : Nat} (w : World) (h : P.underlying t = some (.array n e)) {inf : TypeInfo} (hi : P.info? e = some inf) (hc : P.cellsOf e = 1)
    (he : P.plainKey e = true) (hlt : i < n) (hv : cs[i]? = some v) : (Instr.index t (.agg cs) (.int k (i : Int))).run P w = .ok v w := by
  have h1 : (0 : Int) ≤ (i : Int) ∧ (i : Int) < (n : Int) := by omega
  have hsz := run_sizeOf (P := P) w hi
  rw [hc] at hsz
  have hp := run_part_plain (P := P) w he hv
  simp [Instr.index, run_underlying h, asIntOf, h1, hsz, hp, Result.andThen]
  intro hx
  omega
end Go.Fw
namespace Go.Proofs.YteljecehppeamaaDoor
open Go.RowKit Go.Fw
theorem idx_num (cs : Array Value) (v : Value) (i : Nat) (w : World) (hlt : i < 6) (hv : cs[i]? = some v) : (Instr.index 52 (.agg cs) (.int .i64 (i : Int))).run Tryd.prog w = .ok v w :=
  run_index_arr w Tryd.underlying52 (inf := (Tryd.prog.info? 2).getD default) (by kernel_rfl) (by kernel_rfl) (by kernel_rfl) hlt hv
theorem idx_name (cs : Array Value) (v : Value) (i : Nat) (w : World) (hlt : i < 6) (hv : cs[i]? = some v) : (Instr.index 59 (.agg cs) (.int .i64 (i : Int))).run Tryd.prog w = .ok v w :=
  run_index_arr w Tryd.underlying59 (inf := (Tryd.prog.info? 9).getD default) (by kernel_rfl) (by kernel_rfl) (by kernel_rfl) hlt hv
end Go.Proofs.YteljecehppeamaaDoor
