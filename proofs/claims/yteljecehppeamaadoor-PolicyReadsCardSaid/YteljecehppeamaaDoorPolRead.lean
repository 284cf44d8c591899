/-
  What a policy's text is read as, in plain Lean (chapter 12). Condition: none.
-/
import Derived.Test.YteljecehppeamaaDoorPolPlain
namespace Go.Fw
open Go.RowKit
set_option linter.unusedVariables false
set_option linter.unusedSimpArgs false
def nmB (k : Nat) : ByteArray := ⟨(nmP k).toArray⟩
def sel6 (a b c d e f : Int) : Nat → Int
  | 0 => a
  | 1 => b
  | 2 => c
  | 3 => d
  | 4 => e
  | _ => f
theorem sel6_in {a b c d e f : Int} (h : In6 a b c d e f) : ∀ k, In64 (sel6 a b c d e f k)
  | 0 => h.1
  | 1 => h.2.1
  | 2 => h.2.2.1
  | 3 => h.2.2.2.1
  | 4 => h.2.2.2.2.1
  | _ + 5 => h.2.2.2.2.2
/-- no policy has this text -/
def NoPol (s : ByteArray) : Prop := ∀ a b c d e f, In6 a b c d e f → polB a b c d e f ≠ s
theorem pol_words {a b c d e f : Int} {s : ByteArray} (h : polB a b c d e f = s) :
    wordsB 32 s = [nmB 0, decB a, nmB 1, decB b, nmB 2, decB c, nmB 3, decB d, nmB 4, decB e, nmB 5, decB f] := by
  unfold wordsB
  rw [← h, polB_list, cut_polT]
  rfl
theorem pol_get {a b c d e f : Int} {s : ByteArray} (h : polB a b c d e f = s) {k : Nat} (hk : k < 6) :
    (wordsB 32 s).getD (2 * k) ByteArray.empty = nmB k ∧ (wordsB 32 s).getD (2 * k + 1) ByteArray.empty = decB (sel6 a b c d e f k) := by
  rw [pol_words h]
  have hor : k = 0 ∨ k = 1 ∨ k = 2 ∨ k = 3 ∨ k = 4 ∨ k = 5 := by omega
  rcases hor with rfl | rfl | rfl | rfl | rfl | rfl <;> exact ⟨rfl, rfl⟩
theorem noPol_len {s : ByteArray} (h : (wordsB 32 s).length ≠ 12) : NoPol s := fun a b c d e f _ he => h (by rw [pol_words he]; rfl)
theorem noPol_num {s : ByteArray} {k : Nat} (hk : k < 6) (h : ∀ v, Lib.atoiAll ((wordsB 32 s).getD (2 * k + 1) ByteArray.empty).data.toList ≠ .ok v) : NoPol s := fun a b c d e f h6 he => by
  have h1 := (pol_get he hk).2
  have h2 := sel6_in h6 k
  rw [h1, decB_list] at h
  exact h _ (atoi_itoa h2.1 h2.2)
theorem noPol_name {s : ByteArray} {k : Nat} (hk : k < 6) (h : (wordsB 32 s).getD (2 * k) ByteArray.empty ≠ nmB k) : NoPol s := fun a b c d e f h6 he => h (pol_get he hk).1
/-- the numbers that were read so far -/
def ReadK (s : ByteArray) (k : Nat) (vs : List Int) : Prop := vs.length = k ∧ ∀ j, j < k → Lib.atoiAll ((wordsB 32 s).getD (2 * j + 1) ByteArray.empty).data.toList = .ok (vs.getD j 0)
theorem ReadK.nil_ (s : ByteArray) : ReadK s 0 [] := ⟨rfl, fun j hj => by omega⟩
theorem ReadK.snoc {s : ByteArray} {k : Nat} {vs : List Int} {v : Int} (h : ReadK s k vs) (hv : Lib.atoiAll ((wordsB 32 s).getD (2 * k + 1) ByteArray.empty).data.toList = .ok v) : ReadK s (k + 1) (vs ++ [v]) := by
  refine ⟨by simp [h.1], fun j hj => ?_⟩
  by_cases hjk : j < k
  · have e : (vs ++ [v]).getD j 0 = vs.getD j 0 := by
      rw [List.getD_eq_getElem?_getD, List.getD_eq_getElem?_getD, List.getElem?_append_left (by rw [h.1]; exact hjk)]
    rw [e]
    exact h.2 j hjk
  · obtain rfl : j = k := by omega
    have e : (vs ++ [v]).getD j 0 = v := by
      rw [List.getD_eq_getElem?_getD, List.getElem?_append_right (by rw [h.1]; exact Nat.le_refl _), h.1]
      simp
    rw [e]
    exact hv
theorem ReadK.six {s : ByteArray} {vs : List Int} (h : ReadK s 6 vs) : ∃ a b c d e f, vs = [a, b, c, d, e, f] ∧ In6 a b c d e f ∧ (polB a b c d e f ≠ s → NoPol s) := by
  obtain ⟨h1, h2⟩ := h
  match vs, h1 with
  | [a, b, c, d, e, f], _ =>
    have g0 := h2 0 (by decide)
    have g1 := h2 1 (by decide)
    have g2 := h2 2 (by decide)
    have g3 := h2 3 (by decide)
    have g4 := h2 4 (by decide)
    have g5 := h2 5 (by decide)
    refine ⟨a, b, c, d, e, f, rfl, ⟨Lib.atoiAll_bounds g0, Lib.atoiAll_bounds g1, Lib.atoiAll_bounds g2, Lib.atoiAll_bounds g3, Lib.atoiAll_bounds g4, Lib.atoiAll_bounds g5⟩, fun hne a' b' c' d' e' f' h6 he => ?_⟩
    have key : ∀ k, k < 6 → sel6 a' b' c' d' e' f' k = [a, b, c, d, e, f].getD k 0 := fun k hk => by
      have k1 := h2 k hk
      have k2 := sel6_in h6 k
      rw [(pol_get he hk).2, decB_list, atoi_itoa k2.1 k2.2] at k1
      injection k1
    have e0 : a' = a := key 0 (by decide)
    have e1 : b' = b := key 1 (by decide)
    have e2 : c' = c := key 2 (by decide)
    have e3 : d' = d := key 3 (by decide)
    have e4 : e' = e := key 4 (by decide)
    have e5 : f' = f := key 5 (by decide)
    subst e0 e1 e2 e3 e4 e5
    exact hne he
end Go.Fw
