/-
  strings.Join with a space, as the walks want it; rows of strings of the call's own. Condition: few bytes.
-/
import Derived.Test.YteljecehppeamaaDoorJoins
import Derived.Test.YteljecehppeamaaDoorOwn
import Derived.Test.YteljecehppeamaaDoorArgStrs
import Derived.Shelf.Strings.OnBuilder
namespace Go.Proofs
open Go.Shelf
def Tryd.ljoin_ren : Go.Shelf.Ren := ⟨fun | 156 => 48 | 165 => 62 | 166 => 27 | 169 => 30 | 240 => 50 | 241 => 76 | 276 => 63 | 277 => 91 | n => n, fun | 31 => 64 | 9 => 9 | 3 => 3 | 4 => 4 | 0 => 0 | 20 => 20 | 72 => 51 | 76 => 57 | 70 => 48 | 37 => 49 | 75 => 55 | 127 => 90 | 164 => 105 | 5 => 5 | 80 => 62 | n => n, fun | n => n⟩
theorem Tryd.ljoin : Go.Proofs.Lays.n156 Tryd.prog Tryd.ljoin_ren := {
  mixed := by kernel_rfl
  f156 := Tryd.func48.trans (congrArg some (by kernel_rfl))
  f165 := Tryd.func62.trans (congrArg some (by kernel_rfl))
  f166 := Tryd.func27.trans (congrArg some (by kernel_rfl))
  f169 := Tryd.func30.trans (congrArg some (by kernel_rfl))
  f240 := Tryd.func50.trans (congrArg some (by kernel_rfl))
  f241 := Tryd.func76.trans (congrArg some (by kernel_rfl))
  f276 := Tryd.func63.trans (congrArg some (by kernel_rfl))
  f277 := Tryd.func91.trans (congrArg some (by kernel_rfl))
  t0 := Tryd.underlying0
  a0 := Tryd.isAgg0
  z0 := Tryd.sizeOf0
  v0 := Tryd.zeroValue0
  t3 := Tryd.underlying3
  a3 := Tryd.isAgg3
  z3 := Tryd.sizeOf3
  v3 := Tryd.zeroValue3
  t4 := Tryd.underlying4
  a4 := Tryd.isAgg4
  z4 := Tryd.sizeOf4
  v4 := Tryd.zeroValue4
  t9 := Tryd.underlying9
  a9 := Tryd.isAgg9
  z9 := Tryd.sizeOf9
  v9 := Tryd.zeroValue9
  t20 := Tryd.underlying20
  a20 := Tryd.isAgg20
  z20 := Tryd.sizeOf20
  v20 := Tryd.zeroValue20
  t31 := Tryd.underlying64
  a31 := Tryd.isAgg64
  z31 := Tryd.sizeOf64
  v31 := Tryd.zeroValue64
  t37 := Tryd.underlying49
  a37 := Tryd.isAgg49
  z37 := Tryd.sizeOf49
  v37 := Tryd.zeroValue49
  t70 := Tryd.underlying48
  a70 := Tryd.isAgg48
  z70 := Tryd.sizeOf48
  v70 := Tryd.zeroValue48
  t72 := Tryd.underlying51
  a72 := Tryd.isAgg51
  z72 := Tryd.sizeOf51
  v72 := Tryd.zeroValue51
  t75 := Tryd.underlying55
  a75 := Tryd.isAgg55
  z75 := Tryd.sizeOf55
  v75 := Tryd.zeroValue55
  t76 := Tryd.underlying57
  a76 := Tryd.isAgg57
  z76 := Tryd.sizeOf57
  v76 := Tryd.zeroValue57
  t127 := Tryd.underlying90
  a127 := Tryd.isAgg90
  z127 := Tryd.sizeOf90
  v127 := Tryd.zeroValue90
  t164 := Tryd.underlying105
  a164 := Tryd.isAgg105
  z164 := Tryd.sizeOf105
  v164 := Tryd.zeroValue105 }
theorem Tryd.xjoin : Builder.Extra Tryd.prog Tryd.ljoin_ren := ⟨⟨by kernel_rfl, by kernel_rfl⟩, Tryd.underlying5, Tryd.isAgg5, Tryd.sizeOf5, Tryd.zeroValue5, by kernel_rfl, by kernel_rfl, by kernel_rfl, by decide⟩
end Go.Proofs
namespace Go.Fw
open Go.RowKit
set_option linter.unusedVariables false
theorem join_joinS (c : UInt8) (l : List (List UInt8)) : Lib.join l [c] = joinS c l := by
  cases l with
  | nil => rfl
  | cons x r =>
    rw [Lib.join_cons]
    show x ++ (List.map (fun x => [c] ++ x) r).flatten = x ++ r.flatMap fun x => c :: x
    rw [List.flatMap_def]
    rfl
/-- a row of strings of the call's own: its block and cells -/
theorem own_strs {w : World} {B : Nat} {e : TypeId} {n : Nat} {v : Value} {l : List ByteArray} (h : w.ownsRow B e 1 v n (strs l)) (h0 : 0 < n) :
    ∃ g c, v = .slice (some ⟨g, 0, none⟩) n c ∧ g < w.heap.size ∧ n ≤ c ∧ ∀ (j : Nat) x, l[j]? = some x → w.cell? ⟨g, 0 + j, none⟩ = some (.string x) := by
  obtain ⟨hl, h⟩ := h
  rcases h with ⟨_, rfl⟩ | ⟨g, cap, cur, rfl, hB, hh, hnc, hc, hs, ht⟩
  · omega
  · have hb' : Blk w g e cur := hh
    refine ⟨g, cap, rfl, hb'.lt, hnc, fun j x hj => ?_⟩
    have hj2 : j < n := by
      have := (List.getElem?_eq_some_iff.1 hj).1
      simp at hl
      omega
    have e1 : (strs l)[j]? = some (.string x) := by unfold strs; rw [List.getElem?_map, hj]; rfl
    rw [Nat.zero_add, hb'.cell, ← Array.getElem?_toList, ← e1, ← ht, List.getElem?_take_of_lt (by omega)]
end Go.Fw
namespace Go.Proofs.YteljecehppeamaaDoor
open Go.RowKit Go.Fw Go.Shelf
set_option linter.unusedVariables false
theorem elemS : ElemS Tryd.prog 64 9 (.string ByteArray.empty) 1 16 := ⟨Tryd.underlying64, by kernel_rfl, rfl⟩
theorem join_any (v : Value) (l : List ByteArray) (n : Nat) (w0 w : World) (h : MineS 1 w0 w 9 v n (strs l)) (hn : n = l.length) (h0 : 0 < n) (hl : (joinS 32 (l.map (·.data.toList))).length ≤ 100000) (hn2 : n ≤ 100000) :
    Calls Tryd.prog 48 #[v, .string ⟨#[32]⟩] w fun e w' => e = .returned (.string ⟨(joinS 32 (l.map (·.data.toList))).toArray⟩) ∧ Below w.heap.size w w' := by
  obtain ⟨g, c, rfl, hg, hnc, hc⟩ := own_strs h.own h0
  subst hn
  have e : Lib.join (l.map (·.data.toList)) (⟨#[32]⟩ : ByteArray).data.toList = joinS 32 (l.map (·.data.toList)) := join_joinS 32 _
  have h1 := Any.strings_Join Tryd.ljoin Tryd.xjoin g 0 c l ⟨#[32]⟩ w hc hg (by omega) hnc (by rw [e]; omega)
  change Calls Tryd.prog 48 _ _ _ at h1
  rw [e] at h1
  exact h1
end Go.Proofs.YteljecehppeamaaDoor
