/-
  A text's words, between blanks, in plain Lean. Condition: none.
-/
import Derived.Test.YteljecehppeamaaDoorBase
import Derived.Lib.Bytealg
namespace Go.Fw
open Go.RowKit
set_option linter.unusedVariables false
set_option linter.unusedSimpArgs false
/-- a text's words, by a sign that parts them -/
def cutW (c : UInt8) : List UInt8 → List (List UInt8)
  | [] => [[]]
  | b :: l => if b = c then [] :: cutW c l else
    match cutW c l with
    | [] => [[b]]
    | w :: ws => (b :: w) :: ws
theorem cutW_ne (c : UInt8) : ∀ l, cutW c l ≠ []
  | [] => by simp [cutW]
  | b :: l => by
    unfold cutW
    split
    · simp
    · split <;> simp
theorem cutW_len (c : UInt8) : ∀ l, (cutW c l).length ≤ l.length + 1
  | [] => by simp [cutW]
  | b :: l => by
    have h := cutW_len c l
    have hne := cutW_ne c l
    unfold cutW
    split
    · simp; omega
    · split
      · rename_i e; exact absurd e hne
      · rename_i e; rw [e] at h; simp at h ⊢; omega
theorem indexByte_cases (c : UInt8) : ∀ l : List UInt8, (Lib.indexByte l c = -1 ∧ cutW c l = [l]) ∨ ∃ i : Nat, Lib.indexByte l c = (i : Int) ∧ i < l.length ∧ cutW c l = l.take i :: cutW c (l.drop (i + 1))
  | [] => .inl ⟨rfl, rfl⟩
  | b :: l => by
    by_cases h : b = c
    · exact .inr ⟨0, by simp [Lib.indexByte, h], by simp, by simp [cutW, h]⟩
    · have hb : (b == c) = false := by simpa using h
      rcases indexByte_cases c l with ⟨h1, h2⟩ | ⟨i, h1, h2, h3⟩
      · exact .inl ⟨by simp [Lib.indexByte, hb, h1], by simp [cutW, h, h2]⟩
      · have hn : ((i : Int) == -1) = false := by rw [beq_eq_false_iff_ne]; omega
        exact .inr ⟨i + 1, by simp [Lib.indexByte, hb, h1, hn], by simpa using h2, by simp [cutW, h, h3]⟩
/-- the words as texts -/
def wordsB (c : UInt8) (s : ByteArray) : List ByteArray := (cutW c s.data.toList).map fun l => ⟨l.toArray⟩
theorem bytes_ext {a b : ByteArray} (h : a.data.toList = b.data.toList) : a = b := by
  cases a; cases b
  congr
  exact Array.toList_inj.mp h
theorem wordsB_miss {c : UInt8} {s : ByteArray} (h : Lib.indexByte s.data.toList c = -1) : wordsB c s = [s] := by
  rcases indexByte_cases c s.data.toList with ⟨_, h2⟩ | ⟨i, h1, _, _⟩
  · unfold wordsB
    rw [h2]
    simp
  · rw [h] at h1
    omega
theorem extract_list (s : ByteArray) (a b : Nat) : (s.extract a b).data.toList = (s.data.toList.take b).drop a := by
  rw [ByteArray.data_extract]
  simp [Array.toList_extract, List.extract, List.drop_take]
theorem wordsB_hit {c : UInt8} {s : ByteArray} {i : Nat} (h : Lib.indexByte s.data.toList c = (i : Int)) : i < s.size ∧ wordsB c s = s.extract 0 i :: wordsB c (s.extract (i + 1) s.size) := by
  rcases indexByte_cases c s.data.toList with ⟨h1, _⟩ | ⟨j, h1, h2, h3⟩
  · rw [h] at h1
    omega
  · obtain rfl : j = i := by rw [h] at h1; omega
    refine ⟨by simpa using h2, ?_⟩
    unfold wordsB
    rw [h3, extract_list, List.map_cons]
    congr 1
    · refine bytes_ext ?_
      rw [extract_list]
      simp
    · congr 2
      rw [List.take_of_length_le (by simp)]
theorem wordsB_ne (c : UInt8) (s : ByteArray) : wordsB c s ≠ [] := by
  unfold wordsB
  intro h
  exact cutW_ne c _ (List.map_eq_nil_iff.1 h)
theorem wordsB_len (c : UInt8) (s : ByteArray) : (wordsB c s).length ≤ s.size + 1 := by
  have := cutW_len c s.data.toList
  unfold wordsB
  simpa using this
theorem cutW_sizes (c : UInt8) : ∀ l, ∀ w ∈ cutW c l, w.length ≤ l.length
  | [], w, h => by simp [cutW] at h; simp [h]
  | b :: l, w, h => by
    have ih := cutW_sizes c l
    unfold cutW at h
    split at h
    · rcases List.mem_cons.1 h with h | h
      · simp [h]
      · have := ih w h; simp; omega
    · split at h
      · simp at h; simp [h]
      · rename_i w0 ws e
        rw [e] at ih
        rcases List.mem_cons.1 h with h | h
        · have := ih w0 (by simp); rw [h]; simp; omega
        · have := ih w (by simp [h]); simp; omega
theorem wordsB_sizes {c : UInt8} {s x : ByteArray} (h : x ∈ wordsB c s) : x.size ≤ s.size := by
  obtain ⟨w, hw, rfl⟩ := List.mem_map.1 h
  have := cutW_sizes c _ w hw
  show w.toArray.size ≤ s.data.size
  simpa using this
end Go.Fw
