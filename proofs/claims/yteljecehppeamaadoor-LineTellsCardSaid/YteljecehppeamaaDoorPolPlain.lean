/-
  A policy's text, in plain Lean (chapter 12). Condition: none.
-/
import Derived.Test.YteljecehppeamaaDoorJoins
import Derived.Test.YteljecehppeamaaDoorPolCheck
namespace Go.Fw
open Go.RowKit
set_option linter.unusedVariables false
set_option linter.unusedSimpArgs false
/-- the words of a text, in order -/
def nmP : Nat → List UInt8
  | 0 => [109, 105, 110]
  | 1 => [109, 97, 120]
  | 2 => [116, 97, 114, 103, 101, 116]
  | 3 => [116, 111, 108, 101, 114, 97, 110, 99, 101]
  | 4 => [119, 105, 110, 100, 111, 119]
  | _ => [104, 111, 108, 100]
def polWords (a b c d e f : Int) : List (List UInt8) :=
  [nmP 0, Lib.itoa a, nmP 1, Lib.itoa b, nmP 2, Lib.itoa c, nmP 3, Lib.itoa d, nmP 4, Lib.itoa e, nmP 5, Lib.itoa f]
/-- the text of the first k numbers -/
def polK (a b c d e f : Int) (k : Nat) : List UInt8 := joinS 32 ((polWords a b c d e f).take (2 * k))
def polT (a b c d e f : Int) : List UInt8 := joinS 32 (polWords a b c d e f)
def polB (a b c d e f : Int) : ByteArray := ⟨(polT a b c d e f).toArray⟩
theorem polB_list (a b c d e f : Int) : (polB a b c d e f).data.toList = polT a b c d e f := by simp [polB]
theorem polK_0 (a b c d e f : Int) : polK a b c d e f 0 = [] := rfl
theorem polK_1 (a b c d e f : Int) : polK a b c d e f 1 = ([109, 105, 110] ++ [32]) ++ Lib.itoa a := by simp [polK, polWords, joinS, nmP]
theorem polK_2 (a b c d e f : Int) : polK a b c d e f 2 = (((polK a b c d e f 1 ++ [32]) ++ [109, 97, 120]) ++ [32]) ++ Lib.itoa b := by simp [polK, polWords, joinS, nmP]
theorem polK_3 (a b c d e f : Int) : polK a b c d e f 3 = (((polK a b c d e f 2 ++ [32]) ++ [116, 97, 114, 103, 101, 116]) ++ [32]) ++ Lib.itoa c := by simp [polK, polWords, joinS, nmP]
theorem polK_4 (a b c d e f : Int) : polK a b c d e f 4 = (((polK a b c d e f 3 ++ [32]) ++ [116, 111, 108, 101, 114, 97, 110, 99, 101]) ++ [32]) ++ Lib.itoa d := by simp [polK, polWords, joinS, nmP]
theorem polK_5 (a b c d e f : Int) : polK a b c d e f 5 = (((polK a b c d e f 4 ++ [32]) ++ [119, 105, 110, 100, 111, 119]) ++ [32]) ++ Lib.itoa e := by simp [polK, polWords, joinS, nmP]
theorem polK_6 (a b c d e f : Int) : polT a b c d e f = (((polK a b c d e f 5 ++ [32]) ++ [104, 111, 108, 100]) ++ [32]) ++ Lib.itoa f := by simp [polK, polT, polWords, joinS, nmP]
theorem polK_all (a b c d e f : Int) : polK a b c d e f 6 = polT a b c d e f := rfl
/-- the six numbers are 64-bit numbers -/
def In6 (a b c d e f : Int) : Prop := In64 a ∧ In64 b ∧ In64 c ∧ In64 d ∧ In64 e ∧ In64 f
theorem polWords_len {a b c d e f : Int} (h : In6 a b c d e f) : ∀ w ∈ polWords a b c d e f, w.length ≤ 21 := by
  obtain ⟨h1, h2, h3, h4, h5, h6⟩ := h
  have g : ∀ {n : Int}, In64 n → (Lib.itoa n).length ≤ 21 := fun {n} h => by
    have := Lib.itoa_length_le n h.1 h.2
    omega
  intro w hw
  simp only [polWords, List.mem_cons, List.mem_nil_iff, or_false] at hw
  rcases hw with rfl | rfl | rfl | rfl | rfl | rfl | rfl | rfl | rfl | rfl | rfl | rfl
  all_goals first | decide | exact g (by assumption)
theorem polK_len {a b c d e f : Int} (h : In6 a b c d e f) (k : Nat) : (polK a b c d e f k).length ≤ 300 := by
  have h1 := joinS_len 32 21 ((polWords a b c d e f).take (2 * k)) fun w hw => polWords_len h w (List.mem_of_mem_take hw)
  have h2 : ((polWords a b c d e f).take (2 * k)).length ≤ 12 := by
    rw [List.length_take]
    have : (polWords a b c d e f).length = 12 := rfl
    omega
  unfold polK
  omega
theorem polB_size {a b c d e f : Int} (h : In6 a b c d e f) : (polB a b c d e f).size ≤ 300 := by
  have h1 := polK_len h 6
  rw [polK_all, ← polB_list] at h1
  exact h1
theorem polB_of {a b c d e f : Int} {s : ByteArray} (h : s.data.toList = polT a b c d e f) : s = polB a b c d e f := bytes_ext (by rw [h, polB_list])
theorem polWords_signs (a b c d e f : Int) : ∀ w ∈ polWords a b c d e f, (32 : UInt8) ∉ w := by
  intro w hw
  simp only [polWords, List.mem_cons, List.mem_nil_iff, or_false] at hw
  rcases hw with rfl | rfl | rfl | rfl | rfl | rfl | rfl | rfl | rfl | rfl | rfl | rfl
  all_goals first | (exact itoa_no (by decide)) | decide
/-- the words of a policy's text -/
theorem cut_polT (a b c d e f : Int) : cutW 32 (polT a b c d e f) = polWords a b c d e f := cut_join 32 _ (by simp [polWords]) (polWords_signs a b c d e f)
/-- unlike policies have unlike texts -/
theorem polT_inj {a b c d e f a' b' c' d' e' f' : Int} (h : In6 a b c d e f) (h' : In6 a' b' c' d' e' f') (he : polT a b c d e f = polT a' b' c' d' e' f') :
    a = a' ∧ b = b' ∧ c = c' ∧ d = d' ∧ e = e' ∧ f = f' := by
  have h1 := congrArg (cutW 32) he
  rw [cut_polT, cut_polT] at h1
  obtain ⟨g1, g2, g3, g4, g5, g6⟩ := h
  obtain ⟨k1, k2, k3, k4, k5, k6⟩ := h'
  simp only [polWords, List.cons.injEq, true_and, and_true] at h1
  obtain ⟨e1, e2, e3, e4, e5, e6⟩ := h1
  exact ⟨itoa_inj g1.1 g1.2 k1.1 k1.2 e1, itoa_inj g2.1 g2.2 k2.1 k2.2 e2, itoa_inj g3.1 g3.2 k3.1 k3.2 e3, itoa_inj g4.1 g4.2 k4.1 k4.2 e4, itoa_inj g5.1 g5.2 k5.1 k5.2 e5, itoa_inj g6.1 g6.2 k6.1 k6.2 e6⟩
end Go.Fw
