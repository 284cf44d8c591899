/-
  What picks' text is read as, in plain Lean. Condition: none.
-/
import Derived.Test.YteljecehppeamaaDoorWords
import Derived.Test.YteljecehppeamaaDoorNums
namespace Go.Fw
open Go.RowKit
set_option linter.unusedVariables false
set_option linter.unusedSimpArgs false
/-- the number of a word that is a number's numeral -/
def readW (x : ByteArray) : Option Int := match Lib.atoiAll x.data.toList with
  | .ok n => if decB n = x then some n else none
  | _ => none
theorem readW_some {x : ByteArray} {n : Int} (h : readW x = some n) : -9223372036854775808 ≤ n ∧ n ≤ 9223372036854775807 ∧ decB n = x := by
  unfold readW at h
  split at h
  · rename_i m hm
    split at h
    · injection h with h
      subst h
      have := Lib.atoiAll_bounds hm
      exact ⟨this.1, this.2, by assumption⟩
    · cases h
  · cases h
theorem readW_ok {x : ByteArray} {n : Int} (h : Lib.atoiAll x.data.toList = .ok n) (he : decB n = x) : readW x = some n := by
  unfold readW
  rw [h]
  simp only
  rw [if_pos he]
theorem readW_other {x : ByteArray} {n : Int} (h : Lib.atoiAll x.data.toList = .ok n) (he : decB n ≠ x) : readW x = none := by
  unfold readW
  rw [h]
  simp only
  rw [if_neg he]
theorem readW_bad {x : ByteArray} (h : ∀ v, Lib.atoiAll x.data.toList ≠ .ok v) : readW x = none := by
  unfold readW
  split
  · rename_i n hn
    exact absurd hn (h n)
  · rfl
theorem readW_dec {n : Int} (h0 : -9223372036854775808 ≤ n) (h1 : n ≤ 9223372036854775807) : readW (decB n) = some n :=
  readW_ok (by rw [decB_list]; exact atoi_itoa h0 h1) rfl
/-- the numbers of words -/
def numsW (l : List ByteArray) : List Int := l.filterMap readW
/-- all words are numbers' numerals -/
def GoodW (l : List ByteArray) : Prop := ∀ x ∈ l, readW x ≠ none
theorem numsW_snoc {l : List ByteArray} {x : ByteArray} {n : Int} (h : readW x = some n) : numsW (l ++ [x]) = numsW l ++ [n] := by
  unfold numsW
  rw [List.filterMap_append]
  simp [h]
theorem GoodW.snoc {l : List ByteArray} {x : ByteArray} {n : Int} (hl : GoodW l) (h : readW x = some n) : GoodW (l ++ [x]) := by
  intro y hy
  rcases List.mem_append.1 hy with h1 | h1
  · exact hl y h1
  · rw [List.mem_singleton.1 h1, h]
    simp
theorem numsW_len (l : List ByteArray) : (numsW l).length ≤ l.length := List.length_filterMap_le _ _
theorem numsW_in {l : List ByteArray} : ∀ n ∈ numsW l, -9223372036854775808 ≤ n ∧ n ≤ 9223372036854775807 := by
  intro n hn
  obtain ⟨x, _, hx⟩ := List.mem_filterMap.1 hn
  have := readW_some hx
  exact ⟨this.1, this.2.1⟩
/-- the words of what was read are the numbers' numerals -/
theorem goodW_back {l : List ByteArray} (h : GoodW l) : (numsW l).map decB = l := by
  induction l with
  | nil => rfl
  | cons x r ih =>
    have hr : GoodW r := fun y hy => h y (List.mem_cons_of_mem _ hy)
    have hx := h x (List.mem_cons_self)
    cases hw : readW x with
    | none => exact absurd hw hx
    | some n =>
      have h2 := (readW_some hw).2.2
      have h3 := ih hr
      unfold numsW at *
      rw [List.filterMap_cons_some hw, List.map_cons, h2, h3]
theorem goodW_of {ns : List Int} (h : ∀ n ∈ ns, -9223372036854775808 ≤ n ∧ n ≤ 9223372036854775807) : GoodW (ns.map decB) ∧ numsW (ns.map decB) = ns := by
  induction ns with
  | nil => exact ⟨(fun x hx => by cases hx), rfl⟩
  | cons n r ih =>
    have hr := ih fun m hm => h m (List.mem_cons_of_mem _ hm)
    have hn := h n (List.mem_cons_self)
    have hd := readW_dec hn.1 hn.2
    refine ⟨fun x hx => ?_, ?_⟩
    · rcases List.mem_cons.1 hx with h1 | h1
      · rw [h1, hd]; simp
      · exact hr.1 x h1
    · have h2 := hr.2
      unfold numsW at *
      rw [List.map_cons, List.filterMap_cons_some hd, h2]
end Go.Fw
