/-
  Shapes and their texts, in plain Lean (chapter 54). Condition: none.
-/
import Derived.Test.YtcmnlnnhebdblaaDoorJoins
import Derived.Test.YtcmnlnnhebdblaaDoorNums
import Derived.Test.YtcmnlnnhebdblaaDoorStruct
namespace Go.Fw
open Go.RowKit
set_option linter.unusedVariables false
set_option linter.unusedSimpArgs false
/-- what is wrong with a shape -/
def errS (k lo hi p : Int) : Int := if k < 1 ∨ 5 < k then 14 else if lo < 0 ∨ hi < lo then 4 else if p < 1 ∨ 2147483648 < p then 1 else 0
theorem errS_cases (k lo hi p : Int) : (k < 1 ∧ errS k lo hi p = 14) ∨ (¬ k < 1 ∧ 5 < k ∧ errS k lo hi p = 14) ∨
    (¬ k < 1 ∧ ¬ 5 < k ∧ lo < 0 ∧ errS k lo hi p = 4) ∨ (¬ k < 1 ∧ ¬ 5 < k ∧ ¬ lo < 0 ∧ hi < lo ∧ errS k lo hi p = 4) ∨
    (¬ k < 1 ∧ ¬ 5 < k ∧ ¬ lo < 0 ∧ ¬ hi < lo ∧ p < 1 ∧ errS k lo hi p = 1) ∨ (¬ k < 1 ∧ ¬ 5 < k ∧ ¬ lo < 0 ∧ ¬ hi < lo ∧ ¬ p < 1 ∧ 2147483648 < p ∧ errS k lo hi p = 1) ∨
    (¬ k < 1 ∧ ¬ 5 < k ∧ ¬ lo < 0 ∧ ¬ hi < lo ∧ ¬ p < 1 ∧ ¬ 2147483648 < p ∧ errS k lo hi p = 0) := by
  unfold errS
  by_cases h1 : k < 1
  · exact .inl ⟨h1, if_pos (.inl h1)⟩
  refine .inr ?_
  by_cases h2 : 5 < k
  · exact .inl ⟨h1, h2, if_pos (.inr h2)⟩
  refine .inr ?_
  rw [if_neg (by omega)]
  by_cases h3 : lo < 0
  · exact .inl ⟨h1, h2, h3, if_pos (.inl h3)⟩
  refine .inr ?_
  by_cases h4 : hi < lo
  · exact .inl ⟨h1, h2, h3, h4, if_pos (.inr h4)⟩
  refine .inr ?_
  rw [if_neg (by omega)]
  by_cases h5 : p < 1
  · exact .inl ⟨h1, h2, h3, h4, h5, if_pos (.inl h5)⟩
  refine .inr ?_
  by_cases h6 : 2147483648 < p
  · exact .inl ⟨h1, h2, h3, h4, h5, h6, if_pos (.inr h6)⟩
  exact .inr ⟨h1, h2, h3, h4, h5, h6, if_neg (by omega)⟩
theorem errS_ok {k lo hi p : Int} (h : errS k lo hi p = 0) : ¬ k < 1 ∧ ¬ 5 < k ∧ ¬ lo < 0 ∧ ¬ hi < lo ∧ ¬ p < 1 ∧ ¬ 2147483648 < p := by
  have := errS_cases k lo hi p
  omega
/-- the kinds' words -/
def kwS : Nat → List UInt8
  | 1 => [102, 108, 97, 116]
  | 2 => [115, 97, 119]
  | 3 => [115, 116, 101, 112]
  | 4 => [112, 117, 108, 115, 101]
  | 5 => [112, 101, 97, 107]
  | _ => []
def kwB (k : Nat) : ByteArray := ⟨(kwS k).toArray⟩
/-- the last of the words ahead of one that is the given one -/
def kindUp (x : ByteArray) : Nat → Nat
  | 0 => 0
  | i + 1 => if 0 < i ∧ kwB i = x then i else kindUp x i
theorem kindUp_le (x : ByteArray) : ∀ i, i ≤ 6 → kindUp x i ≤ 5
  | 0, _ => by simp [kindUp]
  | i + 1, h => by
    unfold kindUp
    split
    · omega
    · exact kindUp_le x i (by omega)
theorem kindUp_kw {k : Nat} (h1 : 1 ≤ k) (h2 : k ≤ 5) : kindUp (kwB k) 6 = k := by
  have hor : k = 1 ∨ k = 2 ∨ k = 3 ∨ k = 4 ∨ k = 5 := by omega
  rcases hor with rfl | rfl | rfl | rfl | rfl <;> decide
theorem kwS_inj {k k' : Nat} (h1 : 1 ≤ k) (h2 : k ≤ 5) (h1' : 1 ≤ k') (h2' : k' ≤ 5) (h : kwS k = kwS k') : k = k' := by
  have e : kwB k = kwB k' := by unfold kwB; rw [h]
  rw [← kindUp_kw h1 h2, e, kindUp_kw h1' h2']
theorem kwS_no {c : UInt8} (hc : c = 32) (k : Nat) : c ∉ kwS k := by
  subst hc
  match k with
  | 0 => decide
  | 1 => decide
  | 2 => decide
  | 3 => decide
  | 4 => decide
  | 5 => decide
  | _ + 6 => simp [kwS]
theorem kwS_len (k : Nat) : (kwS k).length ≤ 5 := by
  match k with
  | 0 => decide
  | 1 => decide
  | 2 => decide
  | 3 => decide
  | 4 => decide
  | 5 => decide
  | _ + 6 => simp [kwS]
/-- the words of a shape's text -/
def shWords (k lo hi p ph : Int) : List (List UInt8) := [kwS k.toNat, Lib.itoa lo, Lib.itoa hi, Lib.itoa p, Lib.itoa ph]
def shT (k lo hi p ph : Int) : List UInt8 := joinS 32 (shWords k lo hi p ph)
def shB (k lo hi p ph : Int) : ByteArray := ⟨(shT k lo hi p ph).toArray⟩
theorem shB_list (k lo hi p ph : Int) : (shB k lo hi p ph).data.toList = shT k lo hi p ph := by simp [shB]
/-- the same words as texts -/
def shWB (k lo hi p ph : Int) : List ByteArray := [kwB k.toNat, decB lo, decB hi, decB p, decB ph]
/-- five numbers of 64 bits -/
def In5 (k lo hi p ph : Int) : Prop := In64 k ∧ In64 lo ∧ In64 hi ∧ In64 p ∧ In64 ph
theorem shWords_len {k lo hi p ph : Int} (h : In5 k lo hi p ph) : ∀ w ∈ shWords k lo hi p ph, w.length ≤ 21 := by
  obtain ⟨h1, h2, h3, h4, h5⟩ := h
  have g : ∀ {n : Int}, In64 n → (Lib.itoa n).length ≤ 21 := fun {n} h => by
    have := Lib.itoa_length_le n h.1 h.2
    omega
  intro w hw
  simp only [shWords, List.mem_cons, List.mem_nil_iff, or_false] at hw
  rcases hw with rfl | rfl | rfl | rfl | rfl
  · have := kwS_len k.toNat
    omega
  all_goals exact g (by assumption)
theorem shT_len {k lo hi p ph : Int} (h : In5 k lo hi p ph) : (shT k lo hi p ph).length ≤ 110 := by
  have := joinS_len 32 21 (shWords k lo hi p ph) (shWords_len h)
  have e : (shWords k lo hi p ph).length = 5 := rfl
  rw [e] at this
  unfold shT
  omega
theorem shB_size {k lo hi p ph : Int} (h : In5 k lo hi p ph) : (shB k lo hi p ph).size ≤ 110 := by
  have := shT_len h
  rw [← shB_list] at this
  exact this
theorem shB_of {k lo hi p ph : Int} {s : ByteArray} (h : s.data.toList = shT k lo hi p ph) : s = shB k lo hi p ph := bytes_ext (by rw [h, shB_list])
theorem cut_shT (k lo hi p ph : Int) : cutW 32 (shT k lo hi p ph) = shWords k lo hi p ph := by
  refine cut_join 32 _ (by simp [shWords]) ?_
  intro w hw
  simp only [shWords, List.mem_cons, List.mem_nil_iff, or_false] at hw
  rcases hw with rfl | rfl | rfl | rfl | rfl
  · exact kwS_no rfl _
  all_goals exact itoa_no (by decide)
theorem sh_words {k lo hi p ph : Int} {s : ByteArray} (h : shB k lo hi p ph = s) : wordsB 32 s = shWB k lo hi p ph := by
  unfold wordsB
  rw [← h, shB_list, cut_shT]
  rfl
/-- no shape that is right has this text -/
def NoShape (s : ByteArray) : Prop := ∀ k lo hi p ph, In5 k lo hi p ph → errS k lo hi p = 0 → shB k lo hi p ph ≠ s
theorem noShape_len {s : ByteArray} (h : (wordsB 32 s).length ≠ 5) : NoShape s := fun k lo hi p ph _ _ he => h (by rw [sh_words he]; rfl)
def sel4 (a b c d : Int) : Nat → Int
  | 0 => a
  | 1 => b
  | 2 => c
  | _ => d
theorem sh_get {k lo hi p ph : Int} {s : ByteArray} (h : shB k lo hi p ph = s) {j : Nat} (hj : j < 4) : (wordsB 32 s).getD (j + 1) ByteArray.empty = decB (sel4 lo hi p ph j) := by
  rw [sh_words h]
  have hor : j = 0 ∨ j = 1 ∨ j = 2 ∨ j = 3 := by omega
  rcases hor with rfl | rfl | rfl | rfl <;> rfl
theorem sel4_in {k lo hi p ph : Int} (h : In5 k lo hi p ph) : ∀ j, In64 (sel4 lo hi p ph j)
  | 0 => h.2.1
  | 1 => h.2.2.1
  | 2 => h.2.2.2.1
  | _ + 3 => h.2.2.2.2
theorem noShape_num {s : ByteArray} {j : Nat} (hj : j < 4) (h : ∀ v, Lib.atoiAll ((wordsB 32 s).getD (j + 1) ByteArray.empty).data.toList ≠ .ok v) : NoShape s := fun k lo hi p ph h5 _ he => by
  have h2 := sel4_in h5 j
  rw [sh_get he hj, decB_list] at h
  exact h _ (atoi_itoa h2.1 h2.2)
/-- the numbers that were read so far -/
def Read4 (s : ByteArray) (k : Nat) (vs : List Int) : Prop := vs.length = k ∧ ∀ j, j < k → Lib.atoiAll ((wordsB 32 s).getD (j + 1) ByteArray.empty).data.toList = .ok (vs.getD j 0)
theorem Read4.nil_ (s : ByteArray) : Read4 s 0 [] := ⟨rfl, fun j hj => by omega⟩
theorem Read4.snoc {s : ByteArray} {k : Nat} {vs : List Int} {v : Int} (h : Read4 s k vs) (hv : Lib.atoiAll ((wordsB 32 s).getD (k + 1) ByteArray.empty).data.toList = .ok v) : Read4 s (k + 1) (vs ++ [v]) := by
  refine ⟨by simp [h.1], fun j hj => ?_⟩
  by_cases hjk : j < k
  · have e : (vs ++ [v]).getD j 0 = vs.getD j 0 := by
      rw [List.getD_eq_getElem?_getD, List.getD_eq_getElem?_getD, List.getElem?_append_left (by rw [h.1]; exact hjk)]
    rw [e]
    exact h.2 j hjk
  · obtain rfl : j = k := by omega
    have e : (vs ++ [v]).getD j 0 = v := by
      rw [List.getD_eq_getElem?_getD, List.getElem?_append_right (by rw [h.1]; exact Nat.le_refl _), h.1]
      simp
    rw [e]
    exact hv
theorem Read4.four {s : ByteArray} {vs : List Int} (h : Read4 s 4 vs) : ∃ a b c d, vs = [a, b, c, d] ∧ In64 a ∧ In64 b ∧ In64 c ∧ In64 d ∧
    ((errS (kindUp ((wordsB 32 s).getD 0 ByteArray.empty) 6) a b c = 0 → shB (kindUp ((wordsB 32 s).getD 0 ByteArray.empty) 6) a b c d ≠ s) → NoShape s) := by
  obtain ⟨h1, h2⟩ := h
  match vs, h1 with
  | [a, b, c, d], _ =>
    have g0 := h2 0 (by decide)
    have g1 := h2 1 (by decide)
    have g2 := h2 2 (by decide)
    have g3 := h2 3 (by decide)
    refine ⟨a, b, c, d, rfl, Lib.atoiAll_bounds g0, Lib.atoiAll_bounds g1, Lib.atoiAll_bounds g2, Lib.atoiAll_bounds g3, fun hne k' a' b' c' d' h5 hok he => ?_⟩
    have key : ∀ j, j < 4 → sel4 a' b' c' d' j = [a, b, c, d].getD j 0 := fun j hj => by
      have k1 := h2 j hj
      have k2 := sel4_in h5 j
      rw [sh_get he hj, decB_list, atoi_itoa k2.1 k2.2] at k1
      injection k1
    have e0 : a' = a := key 0 (by decide)
    have e1 : b' = b := key 1 (by decide)
    have e2 : c' = c := key 2 (by decide)
    have e3 : d' = d := key 3 (by decide)
    subst e0 e1 e2 e3
    have hk := errS_ok hok
    have ek : ((kindUp ((wordsB 32 s).getD 0 ByteArray.empty) 6 : Nat) : Int) = k' := by
      have e0 : (wordsB 32 s).getD 0 ByteArray.empty = kwB k'.toNat := by rw [sh_words he]; rfl
      rw [e0, kindUp_kw (by omega) (by omega)]
      omega
    rw [ek] at hne
    exact hne hok he
/-- unlike shapes have unlike texts -/
theorem shB_inj {k lo hi p ph k' lo' hi' p' ph' : Int} (h : In5 k lo hi p ph) (h' : In5 k' lo' hi' p' ph') (hk : errS k lo hi p = 0) (hk' : errS k' lo' hi' p' = 0) (he : shB k lo hi p ph = shB k' lo' hi' p' ph') :
    k = k' ∧ lo = lo' ∧ hi = hi' ∧ p = p' ∧ ph = ph' := by
  have h1 : shT k lo hi p ph = shT k' lo' hi' p' ph' := by rw [← shB_list, he, shB_list]
  have h1 := congrArg (cutW 32) h1
  rw [cut_shT, cut_shT] at h1
  obtain ⟨g1, g2, g3, g4, g5⟩ := h
  obtain ⟨k1, k2, k3, k4, k5⟩ := h'
  simp only [shWords, List.cons.injEq, and_true] at h1
  obtain ⟨e1, e2, e3, e4, e5⟩ := h1
  have o1 := errS_ok hk
  have o2 := errS_ok hk'
  refine ⟨?_, itoa_inj g2.1 g2.2 k2.1 k2.2 e2, itoa_inj g3.1 g3.2 k3.1 k3.2 e3, itoa_inj g4.1 g4.2 k4.1 k4.2 e4, itoa_inj g5.1 g5.2 k5.1 k5.2 e5⟩
  have := kwS_inj (by omega) (by omega) (by omega) (by omega) e1
  omega
end Go.Fw
