/-
  Rings in plain Lean. Condition: none.
-/
import Derived.Test.YtgmgddccdfmiiaaTail
import Derived.Test.YtgmgddccdfmiiaaKeep
namespace Go.Fw
open Go.RowKit
set_option linter.unusedVariables false
/-- a ring: what lies in its array, where the first one lies, and how much it has room for -/
structure Rg (α : Type) where
  items : List α
  from_ : Nat
  room : Nat
structure Rg.ok {α : Type} (r : Rg α) : Prop where
  pos : 1 ≤ r.room
  most : r.room ≤ 4096
  fits : r.items.length ≤ r.room
  lt : r.from_ < r.room
  front : r.items.length < r.room → r.from_ = 0
def Rg.list {α : Type} (r : Rg α) : List α := r.items.drop r.from_ ++ r.items.take r.from_
def Rg.push {α : Type} (r : Rg α) (x : α) : Rg α :=
  if r.items.length < r.room then { r with items := r.items ++ [x] } else ⟨r.items.set r.from_ x, (r.from_ + 1) % r.room, r.room⟩
section
variable {α : Type} {r : Rg α}
theorem Rg.length (r : Rg α) : r.list.length = r.items.length := by
  unfold Rg.list
  simp
  omega
theorem Rg.ok_new {n : Nat} (h1 : 1 ≤ n) (h2 : n ≤ 4096) : (Rg.mk ([] : List α) 0 n).ok := ⟨h1, h2, Nat.zero_le _, h1, fun _ => rfl⟩
theorem Rg.push_ok (h : r.ok) (x : α) : (r.push x).ok := by
  unfold Rg.push
  split
  · rename_i hlt
    exact ⟨h.pos, h.most, by simp; omega, h.lt, fun _ => h.front hlt⟩
  · rename_i hlt
    have hm := Nat.mod_lt (r.from_ + 1) (show 0 < r.room from h.pos)
    exact ⟨h.pos, h.most, by simp; exact h.fits, hm, fun hc => by simp at hc; omega⟩
theorem Rg.push_room (r : Rg α) (x : α) : (r.push x).room = r.room := by unfold Rg.push; split <;> rfl
theorem Rg.list_few (h : r.ok) (hlt : r.items.length < r.room) : r.list = r.items := by
  unfold Rg.list
  rw [h.front hlt]
  simp
theorem Rg.push_few (h : r.ok) (hlt : r.items.length < r.room) (x : α) : (r.push x).list = r.list ++ [x] := by
  rw [Rg.list_few h hlt]
  unfold Rg.push Rg.list
  rw [if_pos hlt, h.front hlt]
  simp
theorem Rg.push_full (h : r.ok) (hlt : ¬ r.items.length < r.room) (x : α) : (r.push x).list = r.list.tail ++ [x] := by
  have hl : r.items.length = r.room := by have := h.fits; omega
  have hf := h.lt
  have hfl : r.from_ < r.items.length := by omega
  unfold Rg.push Rg.list
  rw [if_neg hlt]
  simp only
  have hd : r.items.drop r.from_ = r.items[r.from_] :: r.items.drop (r.from_ + 1) := List.drop_eq_getElem_cons hfl
  rw [hd, List.cons_append, List.tail_cons]
  by_cases hw : r.from_ + 1 = r.room
  · rw [hw, Nat.mod_self, List.drop_zero, List.take_zero, List.append_nil]
    have e1 : r.items.drop r.room = [] := List.drop_eq_nil_of_le (by omega)
    rw [e1, List.nil_append]
    have e2 : r.from_ = r.items.length - 1 := by omega
    apply List.ext_getElem
    · simp; omega
    · intro i h1 h2
      simp at h1
      rw [List.getElem_set]
      by_cases hi : r.from_ = i
      · subst hi
        rw [if_pos rfl, List.getElem_append_right (by simp; omega)]
        simp
      · rw [if_neg hi, List.getElem_append_left (by simp; omega)]
        simp
  · rw [Nat.mod_eq_of_lt (by omega)]
    have e1 : (r.items.set r.from_ x).drop (r.from_ + 1) = r.items.drop (r.from_ + 1) := by
      rw [List.drop_set_of_lt (by omega)]
    have e2 : (r.items.set r.from_ x).take (r.from_ + 1) = r.items.take r.from_ ++ [x] := by
      rw [List.take_succ_eq_append_getElem (by simpa using hfl)]
      rw [List.take_set_of_le (Nat.le_refl _)]
      simp
    rw [e1, e2, List.append_assoc]
theorem Rg.get (h : r.ok) {i : Nat} (hi : i < r.list.length) : ∃ (hj : (r.from_ + i) % r.items.length < r.items.length), r.list[i] = r.items[(r.from_ + i) % r.items.length] := by
  have hl := Rg.length r
  have hf := h.lt
  have hfit := h.fits
  have hpos : 0 < r.items.length := by omega
  have hj := Nat.mod_lt (r.from_ + i) hpos
  refine ⟨hj, ?_⟩
  have hfl : r.from_ < r.items.length := by
    by_cases hlt : r.items.length < r.room
    · rw [h.front hlt]; exact hpos
    · omega
  have key : r.list[i]? = r.items[(r.from_ + i) % r.items.length]? := by
    unfold Rg.list
    by_cases hc : r.from_ + i < r.items.length
    · rw [Nat.mod_eq_of_lt hc, List.getElem?_append_left (by simp; omega), List.getElem?_drop]
    · have e : (r.from_ + i) % r.items.length = r.from_ + i - r.items.length := by
        rw [Nat.mod_eq_sub_mod (by omega), Nat.mod_eq_of_lt (by omega)]
      rw [e, List.getElem?_append_right (by simp; omega), List.length_drop, List.getElem?_take_of_lt (by omega)]
      congr 1
      omega
  rw [List.getElem?_eq_getElem hi, List.getElem?_eq_getElem hj] at key
  exact Option.some.inj key
theorem Rg.head (h : r.ok) (hlt : ¬ r.items.length < r.room) : ∃ (hj : r.from_ < r.items.length), r.list.head? = some r.items[r.from_] := by
  have hl : r.items.length = r.room := by have := h.fits; omega
  have hf := h.lt
  refine ⟨by omega, ?_⟩
  unfold Rg.list
  rw [List.drop_eq_getElem_cons (by omega)]
  rfl
/-- the last n of a list -/
def lastN (l : List α) (n : Nat) : List α := l.drop (l.length - n)
theorem lastN_push_few {l : List α} {n : Nat} (h : l.length < n) (x : α) : lastN (l ++ [x]) n = lastN l n ++ [x] := by
  unfold lastN
  rw [show (l ++ [x]).length - n = 0 by simp; omega, show l.length - n = 0 by omega]
  simp
theorem lastN_push_full {l : List α} {n : Nat} (h : n ≤ l.length) (hn : 1 ≤ n) (x : α) : lastN (l ++ [x]) n = (lastN l n).tail ++ [x] := by
  unfold lastN
  have e : (l ++ [x]).length - n = l.length - n + 1 := by simp; omega
  rw [e, List.drop_append_of_le_length (by omega), List.tail_drop]
theorem lastN_length (l : List α) (n : Nat) : (lastN l n).length = min l.length n := by unfold lastN; simp; omega
/-- whatever was pushed, the last ones are there -/
theorem Rg.push_last (h : r.ok) {l : List α} (hl : r.list = lastN l r.room) (x : α) : (r.push x).list = lastN (l ++ [x]) r.room := by
  have h1 := Rg.length r
  rw [hl, lastN_length] at h1
  by_cases hlt : r.items.length < r.room
  · rw [Rg.push_few h hlt, hl, lastN_push_few (by omega)]
  · rw [Rg.push_full h hlt, hl, lastN_push_full (by omega) h.pos]
end
end Go.Fw
