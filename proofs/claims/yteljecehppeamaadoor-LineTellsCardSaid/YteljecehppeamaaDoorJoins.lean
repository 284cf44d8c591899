/-
  Words joined by a sign, in plain Lean; the text of numbers. Condition: none.
-/
import Derived.Test.YteljecehppeamaaDoorPickRead
namespace Go.Fw
open Go.RowKit
set_option linter.unusedVariables false
set_option linter.unusedSimpArgs false
/-- words joined by a sign -/
def joinS (c : UInt8) : List (List UInt8) → List UInt8
  | [] => []
  | w :: r => w ++ r.flatMap fun x => c :: x
theorem joinS_snoc (c : UInt8) : ∀ (l : List (List UInt8)) (x : List UInt8), l ≠ [] → joinS c (l ++ [x]) = joinS c l ++ (c :: x)
  | [], x, h => absurd rfl h
  | w :: r, x, _ => by simp [joinS, List.flatMap_append]
theorem joinS_flat (c : UInt8) : ∀ l : List (List UInt8), l ≠ [] → (l.flatMap fun x => c :: x) = c :: joinS c l
  | [], h => absurd rfl h
  | w :: r, _ => by simp [joinS]
theorem join_cut (c : UInt8) : ∀ l, joinS c (cutW c l) = l
  | [] => by simp [cutW, joinS]
  | b :: l => by
    have ih := join_cut c l
    have hne := cutW_ne c l
    unfold cutW
    split
    · rename_i h
      simp only [joinS, List.nil_append]
      rw [joinS_flat c _ hne, ih, h]
    · split
      · rename_i e; exact absurd e hne
      · rename_i w ws e
        rw [e] at ih
        simp only [joinS, List.cons_append] at ih ⊢
        rw [ih]
theorem cut_word (c : UInt8) : ∀ w : List UInt8, c ∉ w → cutW c w = [w]
  | [], _ => rfl
  | b :: w, h => by
    have hb : b ≠ c := fun e => h (by simp [e])
    rw [cutW, if_neg hb, cut_word c w fun e => h (by simp [e])]
theorem cut_app (c : UInt8) : ∀ (w r : List UInt8), c ∉ w → cutW c (w ++ c :: r) = w :: cutW c r
  | [], r, _ => by simp [cutW]
  | b :: w, r, h => by
    have hb : b ≠ c := fun e => h (by simp [e])
    rw [List.cons_append, cutW, if_neg hb, cut_app c w r fun e => h (by simp [e])]
theorem cut_join (c : UInt8) : ∀ l : List (List UInt8), l ≠ [] → (∀ w ∈ l, c ∉ w) → cutW c (joinS c l) = l
  | [], h, _ => absurd rfl h
  | [w], _, h => by simp only [joinS, List.flatMap_nil, List.append_nil]; exact cut_word c w (h w (by simp))
  | w :: v :: r, _, h => by
    have e : joinS c (w :: v :: r) = w ++ (c :: joinS c (v :: r)) := by
      rw [← joinS_flat c (v :: r) (by simp)]
      rfl
    rw [e, cut_app c _ _ (h w (by simp)), cut_join c (v :: r) (by simp) fun x hx => h x (by simp [hx])]
theorem joinS_len (c : UInt8) (m : Nat) : ∀ l : List (List UInt8), (∀ w ∈ l, w.length ≤ m) → (joinS c l).length ≤ l.length * (m + 1)
  | [], _ => by simp [joinS]
  | w :: r, h => by
    have hw := h w (by simp)
    have hr : (r.flatMap fun x => c :: x).length ≤ r.length * (m + 1) := by
      have h2 : ∀ x ∈ r, x.length ≤ m := fun x hx => h x (by simp [hx])
      clear h hw
      induction r with
      | nil => simp
      | cons x r ih =>
        have h3 := ih fun y hy => h2 y (by simp [hy])
        have h4 := h2 x (by simp)
        rw [List.flatMap_cons, List.length_append, List.length_cons, List.length_cons, Nat.succ_mul]
        omega
    simp only [joinS, List.length_append, List.length_cons, Nat.succ_mul]
    omega
/-- the text of numbers -/
def textN (l : List Int) : List UInt8 := joinS 32 (l.map Lib.itoa)
def textB (l : List Int) : ByteArray := ⟨(textN l).toArray⟩
theorem textB_list (l : List Int) : (textB l).data.toList = textN l := by simp [textB]
/-- the text as it stands ahead of one more number -/
def preN (l : List Int) (k : Nat) : List UInt8 := if k = 0 then [] else textN (l.take k) ++ [32]
theorem textN_zero (l : List Int) : textN (l.take 0) = [] := by simp [textN, joinS]
theorem textN_succ {l : List Int} {k : Nat} (h : k < l.length) : textN (l.take (k + 1)) = preN l k ++ Lib.itoa l[k] := by
  rw [List.take_succ_eq_append_getElem h]
  unfold preN
  split
  · rename_i h0
    subst h0
    simp [textN, joinS]
  · rename_i h0
    unfold textN
    rw [List.map_append, List.map_cons, List.map_nil, joinS_snoc]
    · simp
    · intro e
      have := congrArg List.length e
      rw [List.length_map, List.length_take, List.length_nil] at this
      omega
theorem textN_len {l : List Int} (h : ∀ x ∈ l, -9223372036854775808 ≤ x ∧ x ≤ 9223372036854775807) : (textN l).length ≤ l.length * 22 := by
  have := joinS_len 32 21 (l.map Lib.itoa) fun w hw => by
    obtain ⟨x, hx, rfl⟩ := List.mem_map.1 hw
    have := Lib.itoa_length_le x (h x hx).1 (h x hx).2
    omega
  simpa [textN] using this
theorem itoa_no {n : Int} {c : UInt8} (h : c.toNat < 45) : c ∉ Lib.itoa n := fun hc => by
  rcases itoa_signs n c hc with h1 | h1
  · omega
  · subst h1
    exact absurd h (by decide)
theorem words_text {l : List Int} (h : l ≠ []) : wordsB 32 (textB l) = l.map decB := by
  unfold wordsB
  rw [textB_list, textN, cut_join 32 _ (by simpa using h) (by
    intro w hw
    obtain ⟨x, _, rfl⟩ := List.mem_map.1 hw
    exact itoa_no (by decide)), List.map_map]
  rfl
theorem text_ne {l : List Int} (h : l ≠ []) : (textB l).size ≠ 0 := by
  cases l with
  | nil => exact absurd rfl h
  | cons x r =>
    intro e
    have e2 : (textN (x :: r)).length = 0 := by
      have h3 : (textB (x :: r)).size = (textN (x :: r)).length := by
        show (textB (x :: r)).data.size = _
        simp [textB]
      omega
    have h2 := itoa_ne x
    simp [textN, joinS] at e2
    exact h2 e2.1
theorem text_nil : textB [] = ByteArray.empty := rfl
theorem text_words {s : ByteArray} (h : GoodW (wordsB 32 s)) : textB (numsW (wordsB 32 s)) = s := by
  have h1 := goodW_back h
  generalize hn : numsW (wordsB 32 s) = ns at *
  have h2 : ns.map Lib.itoa = cutW 32 s.data.toList := by
    have h3 := congrArg (List.map fun x : ByteArray => x.data.toList) h1
    unfold wordsB at h3
    rw [List.map_map, List.map_map] at h3
    have e1 : ((fun x : ByteArray => x.data.toList) ∘ decB) = Lib.itoa := by funext n; exact decB_list n
    have e2 : ((fun x : ByteArray => x.data.toList) ∘ fun l : List UInt8 => (⟨l.toArray⟩ : ByteArray)) = id := by funext n; simp
    rw [e1, e2, List.map_id] at h3
    exact h3
  refine bytes_ext ?_
  rw [textB_list, textN, h2, join_cut]
end Go.Fw
