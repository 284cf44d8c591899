/-
  strings.Builder as the walks want it: WriteByte, WriteString, String. Condition: few bytes.
-/
import Derived.Test.YteljecehppeamaaDoorBase
import Derived.Test.YteljecehppeamaaDoorKeep
import Derived.Shelf.Strings.BuilderK
namespace Go.Proofs
open Go.Shelf
def Tryd.lbws_ren : Go.Shelf.Ren := ⟨fun | 166 => 27 | 240 => 50 | 276 => 63 | n => n, fun | 70 => 48 | 9 => 9 | 3 => 3 | 75 => 55 | 0 => 0 | 72 => 51 | 37 => 49 | 4 => 4 | 164 => 105 | 80 => 62 | 5 => 5 | 20 => 20 | n => n, fun | n => n⟩
theorem Tryd.lbws : Go.Proofs.Lays.n166 Tryd.prog Tryd.lbws_ren := {
  mixed := by kernel_rfl
  f166 := Tryd.func27.trans (congrArg some (by kernel_rfl))
  f240 := Tryd.func50.trans (congrArg some (by kernel_rfl))
  f276 := Tryd.func63.trans (congrArg some (by kernel_rfl))
  t0 := Tryd.underlying0
  a0 := Tryd.isAgg0
  z0 := Tryd.sizeOf0
  v0 := Tryd.zeroValue0
  t3 := Tryd.underlying3
  a3 := Tryd.isAgg3
  z3 := Tryd.sizeOf3
  v3 := Tryd.zeroValue3
  t4 := Tryd.underlying4
  a4 := Tryd.isAgg4
  z4 := Tryd.sizeOf4
  v4 := Tryd.zeroValue4
  t9 := Tryd.underlying9
  a9 := Tryd.isAgg9
  z9 := Tryd.sizeOf9
  v9 := Tryd.zeroValue9
  t20 := Tryd.underlying20
  a20 := Tryd.isAgg20
  z20 := Tryd.sizeOf20
  v20 := Tryd.zeroValue20
  t37 := Tryd.underlying49
  a37 := Tryd.isAgg49
  z37 := Tryd.sizeOf49
  v37 := Tryd.zeroValue49
  t70 := Tryd.underlying48
  a70 := Tryd.isAgg48
  z70 := Tryd.sizeOf48
  v70 := Tryd.zeroValue48
  t72 := Tryd.underlying51
  a72 := Tryd.isAgg51
  z72 := Tryd.sizeOf51
  v72 := Tryd.zeroValue51
  t75 := Tryd.underlying55
  a75 := Tryd.isAgg55
  z75 := Tryd.sizeOf55
  v75 := Tryd.zeroValue55
  t164 := Tryd.underlying105
  a164 := Tryd.isAgg105
  z164 := Tryd.sizeOf105
  v164 := Tryd.zeroValue105 }
def Tryd.lbwb_ren : Go.Shelf.Ren := ⟨fun | 167 => 26 | 240 => 50 | 276 => 63 | n => n, fun | 70 => 48 | 5 => 5 | 75 => 55 | 0 => 0 | 72 => 51 | 37 => 49 | 4 => 4 | 164 => 105 | 80 => 62 | 9 => 9 | 20 => 20 | n => n, fun | n => n⟩
theorem Tryd.lbwb : Go.Proofs.Lays.n167 Tryd.prog Tryd.lbwb_ren := {
  mixed := by kernel_rfl
  f167 := Tryd.func26.trans (congrArg some (by kernel_rfl))
  f240 := Tryd.func50.trans (congrArg some (by kernel_rfl))
  f276 := Tryd.func63.trans (congrArg some (by kernel_rfl))
  t0 := Tryd.underlying0
  a0 := Tryd.isAgg0
  z0 := Tryd.sizeOf0
  v0 := Tryd.zeroValue0
  t4 := Tryd.underlying4
  a4 := Tryd.isAgg4
  z4 := Tryd.sizeOf4
  v4 := Tryd.zeroValue4
  t5 := Tryd.underlying5
  a5 := Tryd.isAgg5
  z5 := Tryd.sizeOf5
  v5 := Tryd.zeroValue5
  t9 := Tryd.underlying9
  a9 := Tryd.isAgg9
  z9 := Tryd.sizeOf9
  v9 := Tryd.zeroValue9
  t20 := Tryd.underlying20
  a20 := Tryd.isAgg20
  z20 := Tryd.sizeOf20
  v20 := Tryd.zeroValue20
  t37 := Tryd.underlying49
  a37 := Tryd.isAgg49
  z37 := Tryd.sizeOf49
  v37 := Tryd.zeroValue49
  t70 := Tryd.underlying48
  a70 := Tryd.isAgg48
  z70 := Tryd.sizeOf48
  v70 := Tryd.zeroValue48
  t72 := Tryd.underlying51
  a72 := Tryd.isAgg51
  z72 := Tryd.sizeOf51
  v72 := Tryd.zeroValue51
  t75 := Tryd.underlying55
  a75 := Tryd.isAgg55
  z75 := Tryd.sizeOf55
  v75 := Tryd.zeroValue55
  t164 := Tryd.underlying105
  a164 := Tryd.isAgg105
  z164 := Tryd.sizeOf105
  v164 := Tryd.zeroValue105 }
def Tryd.lbst_ren : Go.Shelf.Ren := ⟨fun | 169 => 30 | n => n, fun | 70 => 48 | 9 => 9 | 0 => 0 | 72 => 51 | 37 => 49 | 127 => 90 | 3 => 3 | 5 => 5 | 20 => 20 | n => n, fun | n => n⟩
theorem Tryd.lbst : Go.Proofs.Lays.n169 Tryd.prog Tryd.lbst_ren := {
  mixed := by kernel_rfl
  f169 := Tryd.func30.trans (congrArg some (by kernel_rfl))
  t0 := Tryd.underlying0
  a0 := Tryd.isAgg0
  z0 := Tryd.sizeOf0
  v0 := Tryd.zeroValue0
  t3 := Tryd.underlying3
  a3 := Tryd.isAgg3
  z3 := Tryd.sizeOf3
  v3 := Tryd.zeroValue3
  t9 := Tryd.underlying9
  a9 := Tryd.isAgg9
  z9 := Tryd.sizeOf9
  v9 := Tryd.zeroValue9
  t37 := Tryd.underlying49
  a37 := Tryd.isAgg49
  z37 := Tryd.sizeOf49
  v37 := Tryd.zeroValue49
  t70 := Tryd.underlying48
  a70 := Tryd.isAgg48
  z70 := Tryd.sizeOf48
  v70 := Tryd.zeroValue48
  t72 := Tryd.underlying51
  a72 := Tryd.isAgg51
  z72 := Tryd.sizeOf51
  v72 := Tryd.zeroValue51
  t127 := Tryd.underlying90
  a127 := Tryd.isAgg90
  z127 := Tryd.sizeOf90
  v127 := Tryd.zeroValue90 }
theorem Tryd.xbws : Builder.Extra Tryd.prog Tryd.lbws_ren := ⟨⟨by kernel_rfl, by kernel_rfl⟩, Tryd.underlying5, Tryd.isAgg5, Tryd.sizeOf5, Tryd.zeroValue5, by kernel_rfl, by kernel_rfl, by kernel_rfl, by decide⟩
theorem Tryd.xbwb : Builder.Extra Tryd.prog Tryd.lbwb_ren := ⟨⟨by kernel_rfl, by kernel_rfl⟩, Tryd.underlying5, Tryd.isAgg5, Tryd.sizeOf5, Tryd.zeroValue5, by kernel_rfl, by kernel_rfl, by kernel_rfl, by decide⟩
theorem Tryd.xbst : Builder.Extra Tryd.prog Tryd.lbst_ren := ⟨⟨by kernel_rfl, by kernel_rfl⟩, Tryd.underlying5, Tryd.isAgg5, Tryd.sizeOf5, Tryd.zeroValue5, by kernel_rfl, by kernel_rfl, by kernel_rfl, by decide⟩
end Go.Proofs
namespace Go.Fw
open Go.RowKit
set_option linter.unusedVariables false
/-- block b is a builder that holds the bytes l; it was made where the heap ended at b -/
def BAt (T e : TypeId) (w : World) (b : Nat) (l : List UInt8) : Prop := Lib.IsBuilderF T e b b (Lib.byteCells l) w
theorem BAt.new_ (T e : TypeId) (w : World) {b : Nat} (hb : b = w.heap.size) : BAt T e (w.alloc (.cells #[.pointer none, .slice none 0 0] T)) b [] := by
  subst hb
  exact Lib.IsBuilderF.of (Lib.fresh_isBuilder T e w)
theorem BAt.later {T e : TypeId} {w w' : World} {b : Nat} {l : List UInt8} (h : BAt T e w b l) (hb : Below w.heap.size w w') : BAt T e w' b l := by
  have one : ∀ p, Lib.BuilderAtF T e b b p (Lib.byteCells l) w → Lib.BuilderAtF T e b b p (Lib.byteCells l) w' := fun p h => by
    have hlt := h.lt
    obtain ⟨h1, v, h2, h3, h4⟩ := h
    refine ⟨h1, v, (hb.block b hlt).trans h2, ⟨h3.1, ?_⟩, h4⟩
    rcases h3.2 with h5 | ⟨g, cap, cur, fz, e1, e2, e3, e4⟩
    · exact .inl h5
    · exact .inr ⟨g, cap, cur, fz, e1, e2, (hb.block g (Array.getElem?_eq_some_iff.1 e3).1).trans e3, e4⟩
  rcases h with h | h
  · exact .inl (one _ h)
  · exact .inr (one _ h)
theorem BAt.lt {T e : TypeId} {w : World} {b : Nat} {l : List UInt8} (h : BAt T e w b l) : b < w.heap.size := by
  rcases h with h | h <;> exact h.lt
end Go.Fw
namespace Go.Proofs.YteljecehppeamaaDoor
open Go.RowKit Go.Fw Go.Shelf
set_option linter.unusedVariables false
abbrev Bld (w : World) (b : Nat) (l : List UInt8) : Prop := BAt 51 5 w b l
theorem bwbyte_any (b : Nat) (l : List UInt8) (c : UInt8) (w : World) (h : Bld w b l) (hl : l.length ≤ 10000000) :
    Calls Tryd.prog 26 #[.pointer (some ⟨b, 0, none⟩), .int .u8 (c.toNat : Int)] w fun e w' => e = .returned .nilIface ∧ Bld w' b (l ++ [c]) ∧ Below b w w' := by
  have h1 := Any.Builder_WriteByte_k Tryd.lbwb Tryd.xbwb b b (Lib.byteCells l) (c.toNat : Int) w h (by simp [Lib.byteCells]; omega) (Nat.le_of_lt h.lt)
  change Calls Tryd.prog 26 _ _ _ at h1
  refine h1.mono fun e w' ⟨he, h2, h3, _⟩ => ⟨he, .inr ?_, h3⟩
  have e1 : Lib.byteCells (l ++ [c]) = Lib.byteCells l ++ [.int .u8 (c.toNat : Int)] := by simp [Lib.byteCells]
  rw [e1]
  exact h2
theorem bwstr_any (b : Nat) (l : List UInt8) (s : ByteArray) (w : World) (h : Bld w b l) (hl : l.length ≤ 10000000) (hs : s.size ≤ 10000000) :
    Calls Tryd.prog 27 #[.pointer (some ⟨b, 0, none⟩), .string s] w fun e w' => e = .returned (.tuple #[.int .i64 s.size, .nilIface]) ∧ Bld w' b (l ++ s.data.toList) ∧ Below b w w' := by
  have h1 := Any.Builder_WriteString_k Tryd.lbws Tryd.xbws b b (Lib.byteCells l) s w h (by simp [Lib.byteCells]; omega) (Nat.le_of_lt h.lt)
  change Calls Tryd.prog 27 _ _ _ at h1
  refine h1.mono fun e w' ⟨he, h2, h3, _⟩ => ⟨he, .inr ?_, h3⟩
  have e1 : Lib.byteCells (l ++ s.data.toList) = Lib.byteCells l ++ Lib.strCells s := by simp [Lib.byteCells, Lib.strCells]
  rw [e1]
  exact h2
theorem bstring_any (b : Nat) (l : List UInt8) (w : World) (h : Bld w b l) :
    Calls Tryd.prog 30 #[.pointer (some ⟨b, 0, none⟩)] w fun e w' => e = .returned (.string ⟨l.toArray⟩) ∧ Bld w' b l ∧ Below b w w' := by
  have h1 := Any.Builder_String_any_k Tryd.lbst Tryd.xbst b b l w h (Nat.le_of_lt h.lt)
  change Calls Tryd.prog 30 _ _ _ at h1
  exact h1.mono fun e w' ⟨he, h2, h3, _⟩ => ⟨he, h2, h3⟩
end Go.Proofs.YteljecehppeamaaDoor
