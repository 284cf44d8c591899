/-
  Rwlock's give; whether a number is in a list. Condition: none.
-/
import Derived.Test.YtlkappmielllcaaRwWalk
import Derived.Test.YtlkappmielllcaaOrder
namespace Go.Proofs.Ytlkappmielllcaa
open Go.RowKit Go.Fw
set_option maxHeartbeats 1000000
set_option maxRecDepth 4000
set_option linter.unusedVariables false
set_option linter.unusedSimpArgs false

theorem contains_any (l : List Int) (A : Option Addr) (c n : Nat) (t : Int) (w : World) (hr : Reads w w.heap.size 1 A n (i64s l)) (hn : n ≤ 100000) :
    Calls Try.prog 26 #[.slice A n c, .int .i64 t] w fun e w' => e = .returned (.bool (decide (t ∈ l))) ∧ w = w' := by
  have HX := Lib.hid (indexF_nonneg t l 0 (Int.le_refl 0))
  go_enter Try.func26, Try.ntmps26
  go_wp2_with fail
  refine (index_any l A c n t w hr hn).mono ?_
  rintro e w1 ⟨rfl, rfl⟩
  go_wp2
  go_ret
  exact ⟨ret_b HX.out, rfl⟩
theorem LockAt.turn {w w' : World} {p B : Nat} {t : TypeId} {rest : List Value} {sl : Value} {l : Lk} (h : LockAt w p B t rest sl l) (hne : 60 ≠ t) (r k : Nat)
    (hb : Blk w' p t (.int .u32 r :: .int .u32 k :: sl :: rest).toArray) (hK : Keep (fun j => j = p) w w') : LockAt w' p B t rest sl ⟨r, k, l.line⟩ :=
  ⟨hb, h.2.turn fun k hk => hK.block k (h.2.lt k hk).2 fun e => h.2.ne h.1 hne (by rw [hk, e])⟩
theorem give_any (p B : Nat) (ty : TypeId) (rest : List Value) (sl : Value) (l : Lk) (x : Int × Bool) (w : World) (h : LockAt w p B ty rest sl l) (hl : l.ok) (hne : 60 ≠ ty) (ht : -9223372036854775808 ≤ x.1 ∧ x.1 ≤ 9223372036854775807) :
    Calls Try.prog 28 #[.pointer (some ⟨p, 0, none⟩), .agg #[.int .i64 x.1, .bool x.2]] w fun e w' => e = .returned (.tuple #[]) ∧ LockAt w' p B ty rest sl (giveL l x) ∧ Keep (fun j => j = p) w w' := by
  obtain ⟨t, b⟩ := x
  have c0 := h.c0
  have c1 := h.c1
  have f0 := h.1.frozen 0
  have f1 := h.1.frozen 1
  have hbl := bitN_lt t
  have a1 := m32_or l.w (bitN t) hl.w hbl
  have a2 := m32_or l.r (bitN t) hl.r hbl
  simp only at ht ⊢
  have HT := Lib.hid ht
  clear ht hl
  have hp := h.1.lt
  cases b
  · go_enter Try.func28, Try.ntmps28
    go_wp2
    go_region_with ((go_at_call 25; refine (bit_any t _ HT.out).mono ?_; rintro e w1 ⟨rfl, rfl⟩))
    all_goals
      go_wp2
      go_end0
      have hK : Keep (fun j => j = p) w ((w.setCell { block := p, off := 0 } (Value.int IntKind.u32 ↑(l.r ||| bitN t))).alloc (Obj.cells #[Value.int IntKind.i64 t, Value.bool false] 60)).drew := (((Keep.refl (fun j => j = p) w).setCell (p := ⟨p, 0, none⟩) (.inl rfl) _).alloc _).drew
      exact ⟨rfl, h.turn hne _ _ (by have hb := (((h.1.set_ 0 (Value.int IntKind.u32 ↑(l.r ||| bitN t))).alloc (Obj.cells #[Value.int IntKind.i64 t, Value.bool false] 60)).drew); simpa using hb) hK, hK⟩
  · go_enter Try.func28, Try.ntmps28
    go_wp2
    go_region_with ((go_at_call 25; refine (bit_any t _ HT.out).mono ?_; rintro e w1 ⟨rfl, rfl⟩))
    all_goals
      go_wp2
      go_end0
      have hK : Keep (fun j => j = p) w ((w.setCell { block := p, off := 1 } (Value.int IntKind.u32 ↑(l.w ||| bitN t))).alloc (Obj.cells #[Value.int IntKind.i64 t, Value.bool true] 60)).drew := (((Keep.refl (fun j => j = p) w).setCell (p := ⟨p, 1, none⟩) (.inl rfl) _).alloc _).drew
      exact ⟨rfl, h.turn hne _ _ (by have hb := (((h.1.set_ 1 (Value.int IntKind.u32 ↑(l.w ||| bitN t))).alloc (Obj.cells #[Value.int IntKind.i64 t, Value.bool true] 60)).drew); simpa using hb) hK, hK⟩
end Go.Proofs.Ytlkappmielllcaa
