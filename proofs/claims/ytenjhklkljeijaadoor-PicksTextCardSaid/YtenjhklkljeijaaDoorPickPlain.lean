/-
  Chapter 28 in plain Lean: picks in turn and in rounds, how often a task is named, and how long it waits. Condition: none.
-/
import Derived.Test.YtenjhklkljeijaaDoorFirst
namespace Go.Fw
open Go.RowKit
set_option linter.unusedVariables false
set_option linter.unusedSimpArgs false
/-- picks one behind the other -/
def roundN (n : Int) (k : Nat) : List Int := (List.range k).map fun (i : Nat) => firstN (i : Int) n
theorem roundN_length (n : Int) (k : Nat) : (roundN n k).length = k := by simp [roundN]
theorem roundN_snoc (n : Int) (k : Nat) : roundN n k ++ [firstN (k : Int) n] = roundN n (k + 1) := by simp [roundN, List.range_succ]
theorem roundN_in {n : Int} (hn : In64 n) {k : Nat} (hk : k ≤ 1048576) : ∀ x ∈ roundN n k, In64 x := by
  intro x hx
  obtain ⟨i, hi, rfl⟩ := List.mem_map.1 hx
  have := List.mem_range.1 hi
  exact firstN_in (by unfold In64; omega) hn
theorem roundN_get {n k i : Nat} (hk : k = n) (hi : i < k) : (roundN (n : Int) k)[i]? = some (i : Int) := by
  simp [roundN, hi]
  rw [firstN_self (by omega) (by omega)]
/-- what is drawn for a pick -/
def drawN (raw : List Int) (i : Nat) : Int := if raw = [] then 0 else raw.getD (i % raw.length) 0
/-- what is left, filled if nothing is -/
def fillN (n : Nat) (left : List Int) : List Int := if left = [] then roundN (n : Int) n else left
/-- the place of the one that is picked -/
def placeN (n : Nat) (raw : List Int) (i : Nat) (left : List Int) : Nat := (firstN (drawN raw i) ((fillN n left).length : Int)).toNat
/-- picks in rounds: those so far, and who is left of the round -/
def weaveN (n : Nat) (raw : List Int) : Nat → List Int × List Int
  | 0 => ([], [])
  | i + 1 => ((weaveN n raw i).1 ++ [(fillN n (weaveN n raw i).2).getD (placeN n raw i (weaveN n raw i).2) 0],
      (fillN n (weaveN n raw i).2).take (placeN n raw i (weaveN n raw i).2) ++ (fillN n (weaveN n raw i).2).drop (placeN n raw i (weaveN n raw i).2 + 1))
theorem weaveN_length (n : Nat) (raw : List Int) : ∀ i, (weaveN n raw i).1.length = i
  | 0 => rfl
  | i + 1 => by simp [weaveN, weaveN_length n raw i]
theorem fillN_pos {n : Nat} (hn : 1 ≤ n) (left : List Int) : 0 < (fillN n left).length := by
  unfold fillN
  split
  · rw [roundN_length]; omega
  · rename_i h; exact List.length_pos_iff.2 h
theorem placeN_lt {n : Nat} (hn : 1 ≤ n) (raw : List Int) (i : Nat) (left : List Int) : placeN n raw i left < (fillN n left).length := by
  have h1 := fillN_pos hn left
  have h2 := firstN_at (p := drawN raw i) (n := ((fillN n left).length : Int)) (by omega)
  unfold placeN
  omega
theorem placeN_eq {n : Nat} (hn : 1 ≤ n) (raw : List Int) (i : Nat) (left : List Int) : ((placeN n raw i left : Nat) : Int) = firstN (drawN raw i) ((fillN n left).length : Int) := by
  have h1 := fillN_pos hn left
  have h2 := firstN_at (p := drawN raw i) (n := ((fillN n left).length : Int)) (by omega)
  unfold placeN
  omega
/-- who is left of a round is left once, and is a task -/
def Left (n : Nat) (left : List Int) : Prop := left.Nodup ∧ ∀ x ∈ left, 0 ≤ x ∧ x < (n : Int)
theorem roundN_left (n : Nat) : Left n (roundN (n : Int) n) := by
  have h : roundN (n : Int) n = (List.range n).map fun (i : Nat) => (i : Int) := by
    refine List.map_congr_left fun i hi => ?_
    have := List.mem_range.1 hi
    exact firstN_self (by omega) (by omega)
  rw [h]
  refine ⟨?_, fun x hx => ?_⟩
  · refine List.Pairwise.map _ ?_ (List.nodup_range (n := n))
    intro a b hab e
    exact hab (by omega)
  · obtain ⟨i, hi, rfl⟩ := List.mem_map.1 hx
    have := List.mem_range.1 hi
    omega
theorem fillN_left {n : Nat} {left : List Int} (h : Left n left) : Left n (fillN n left) := by
  unfold fillN
  split
  · exact roundN_left n
  · exact h
theorem left_cut {n k : Nat} {left : List Int} (h : Left n left) (hk : k < left.length) : Left n (left.take k ++ left.drop (k + 1)) := by
  have hs : (left.take k ++ left.drop (k + 1)).Sublist left := by
    conv => rhs; rw [← List.take_append_drop k left]
    exact List.Sublist.append (List.Sublist.refl _) (by rw [List.drop_eq_getElem_cons hk]; exact List.sublist_cons_self _ _)
  exact ⟨h.1.sublist hs, fun x hx => h.2 x (hs.subset hx)⟩
theorem weaveN_left (n : Nat) (hn : 1 ≤ n) (raw : List Int) : ∀ i, Left n (weaveN n raw i).2
  | 0 => ⟨List.nodup_nil, fun x hx => by cases hx⟩
  | i + 1 => left_cut (fillN_left (weaveN_left n hn raw i)) (placeN_lt hn raw i _)
theorem weaveN_in (n : Nat) (hn : 1 ≤ n) (raw : List Int) : ∀ i, ∀ x ∈ (weaveN n raw i).1, 0 ≤ x ∧ x < (n : Int)
  | 0 => fun x hx => by cases hx
  | i + 1 => fun x hx => by
    rcases List.mem_append.1 hx with h | h
    · exact weaveN_in n hn raw i x h
    · rw [List.mem_singleton.1 h]
      have hp := placeN_lt hn raw i (weaveN n raw i).2
      refine (fillN_left (weaveN_left n hn raw i)).2 _ ?_
      rw [List.getD_eq_getElem?_getD, List.getElem?_eq_getElem hp]
      exact List.getElem_mem hp
theorem fillN_len {n : Nat} {left : List Int} (h : left.length ≤ n) : (fillN n left).length ≤ n := by
  unfold fillN
  split
  · rw [roundN_length]; omega
  · exact h
theorem weaveN_few (n : Nat) (hn : 1 ≤ n) (raw : List Int) : ∀ i, (weaveN n raw i).2.length ≤ n
  | 0 => by simp [weaveN]
  | i + 1 => by
    have h1 := fillN_len (weaveN_few n hn raw i)
    have hp := placeN_lt hn raw i (weaveN n raw i).2
    simp only [weaveN, List.length_append, List.length_take, List.length_drop]
    omega
/-- each task is named once in a round -/
theorem weaveN_even (n : Nat) (hn : 1 ≤ n) (raw : List Int) : ∀ i, ∃ r : Nat, ∀ x : Int, 0 ≤ x → x < (n : Int) → (weaveN n raw i).1.count x + (weaveN n raw i).2.count x = r
  | 0 => ⟨0, fun x _ _ => by simp [weaveN]⟩
  | i + 1 => by
    obtain ⟨r, hr⟩ := weaveN_even n hn raw i
    have hp := placeN_lt hn raw i (weaveN n raw i).2
    have hone : ∀ x : Int, 0 ≤ x → x < (n : Int) → (fillN n (weaveN n raw i).2).count x = (weaveN n raw i).2.count x + (if (weaveN n raw i).2 = [] then 1 else 0) := by
      intro x h0 h1
      unfold fillN
      split
      · rename_i he
        rw [he]
        have hm : x ∈ roundN (n : Int) n := by
          refine List.mem_map.2 ⟨x.toNat, List.mem_range.2 (by omega), ?_⟩
          rw [show ((x.toNat : Nat) : Int) = x by omega]
          exact firstN_self h0 h1
        rw [(roundN_left n).1.count, if_pos hm]
        simp
      · simp
    refine ⟨r + (if (weaveN n raw i).2 = [] then 1 else 0), fun x h0 h1 => ?_⟩
    have e1 : fillN n (weaveN n raw i).2 = (fillN n (weaveN n raw i).2).take (placeN n raw i (weaveN n raw i).2) ++ (fillN n (weaveN n raw i).2).getD (placeN n raw i (weaveN n raw i).2) 0 :: (fillN n (weaveN n raw i).2).drop (placeN n raw i (weaveN n raw i).2 + 1) := by
      conv => lhs; rw [← List.take_append_drop (placeN n raw i (weaveN n raw i).2) (fillN n (weaveN n raw i).2), List.drop_eq_getElem_cons hp]
      rw [List.getD_eq_getElem?_getD, List.getElem?_eq_getElem hp]
      rfl
    have e2 := congrArg (List.count x) e1
    rw [List.count_append, List.count_cons] at e2
    have e3 := hone x h0 h1
    have e4 := hr x h0 h1
    simp only [weaveN, List.count_append, List.count_cons, List.count_nil]
    omega
theorem weaveN_most (n : Nat) (hn : 1 ≤ n) (raw : List Int) (i : Nat) : ∃ r : Nat, ∀ x : Int, 0 ≤ x → x < (n : Int) → (weaveN n raw i).1.count x ≤ r ∧ r ≤ (weaveN n raw i).1.count x + 1 := by
  obtain ⟨r, hr⟩ := weaveN_even n hn raw i
  refine ⟨r, fun x h0 h1 => ?_⟩
  have h2 := hr x h0 h1
  have h3 : (weaveN n raw i).2.count x ≤ 1 := by
    rw [(weaveN_left n hn raw i).1.count]
    split <;> omega
  omega
/-- how often a task is named -/
def namedN (l : List Int) (n t : Int) : Nat := (l.filter fun p => decide (firstN p n = t)).length
theorem namedN_le (l : List Int) (n t : Int) : namedN l n t ≤ l.length := List.length_filter_le _ _
theorem namedN_snoc (l : List Int) (n t x : Int) : namedN (l ++ [x]) n t = namedN l n t + (if firstN x n = t then 1 else 0) := by
  unfold namedN
  rw [List.filter_append]
  by_cases h : firstN x n = t <;> simp [h]
theorem namedN_count {l : List Int} {n : Nat} (h : ∀ x ∈ l, 0 ≤ x ∧ x < (n : Int)) (t : Int) : namedN l n t = l.count t := by
  unfold namedN
  rw [List.count_eq_countP, List.countP_eq_length_filter]
  congr 1
  refine List.filter_congr fun x hx => ?_
  obtain ⟨h0, h1⟩ := h x hx
  rw [firstN_self h0 h1, Bool.eq_iff_iff]
  simp
/-- all that is counted, task by task -/
def countsN (l : List Int) (n : Nat) : List Int := (List.range n).map fun (t : Nat) => (namedN l (n : Int) (t : Int) : Int)
theorem countsN_length (l : List Int) (n : Nat) : (countsN l n).length = n := by simp [countsN]
theorem countsN_nil (n : Nat) : countsN [] n = List.replicate n 0 := by
  unfold countsN namedN
  refine List.ext_getElem (by simp) fun i h1 h2 => by simp
theorem countsN_get {l : List Int} {n t : Nat} (ht : t < n) : (countsN l n)[t]'(by rw [countsN_length]; exact ht) = (namedN l (n : Int) (t : Int) : Int) := by simp [countsN]
theorem countsN_snoc (l : List Int) {n a : Nat} (x : Int) (ha : (a : Int) = firstN x n) (hn : a < n) : (countsN l n).set a ((namedN l (n : Int) (a : Int) : Int) + 1) = countsN (l ++ [x]) n := by
  refine List.ext_getElem (by simp [countsN]) fun i h1 h2 => ?_
  have hi : i < n := by rw [countsN_length] at h2; exact h2
  rw [List.getElem_set, countsN_get (l := l ++ [x]) hi, namedN_snoc]
  by_cases h : a = i
  · subst h
    rw [if_pos rfl, if_pos ha.symm]
    simp
  · rw [if_neg h, countsN_get hi, if_neg (by rw [← ha]; omega)]
    simp
/-- the row that has gone since a task was named, and the longest one up to a pick of it -/
def gapN (n t : Int) : List Int → Nat × Nat
  | [] => (0, 0)
  | l => l.foldl (fun s p => if firstN p n = t then (max s.1 (s.2 + 1), 0) else (s.1, s.2 + 1)) (0, 0)
theorem gapN_eq (n t : Int) (l : List Int) : gapN n t l = l.foldl (fun s p => if firstN p n = t then (max s.1 (s.2 + 1), 0) else (s.1, s.2 + 1)) (0, 0) := by
  cases l <;> rfl
theorem gapN_snoc (n t : Int) (l : List Int) (x : Int) : gapN n t (l ++ [x]) = if firstN x n = t then (max (gapN n t l).1 ((gapN n t l).2 + 1), 0) else ((gapN n t l).1, (gapN n t l).2 + 1) := by
  simp only [gapN_eq, List.foldl_append, List.foldl_cons, List.foldl_nil]
theorem gapN_le (n t : Int) (l : List Int) : (gapN n t l).1 ≤ l.length ∧ (gapN n t l).2 ≤ l.length := by
  suffices h : ∀ k, (gapN n t (l.take k)).1 ≤ k ∧ (gapN n t (l.take k)).2 ≤ k by
    have := h l.length
    rwa [List.take_of_length_le (Nat.le_refl _)] at this
  intro k
  induction k with
  | zero => simp [gapN]
  | succ k ih =>
    by_cases hk : k < l.length
    · rw [List.take_succ_eq_append_getElem hk, gapN_snoc]
      split <;> simp only <;> omega
    · rw [List.take_of_length_le (by omega)]
      rw [List.take_of_length_le (by omega)] at ih
      omega
end Go.Fw
