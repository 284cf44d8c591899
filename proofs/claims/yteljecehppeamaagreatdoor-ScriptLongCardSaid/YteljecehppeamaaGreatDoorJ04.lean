/-
  5 texts of this claim, joined; each says itself what it proves. Condition: as each text says.
-/
import Derived.Test.YteljecehppeamaaGreatDoorJ03
import Derived.Test.YteljecehppeamaaGreatDoorJ02
import Derived.Lib.LaidTab
import Derived.Lib.SmallJoins
import Derived.Lib.ConvBytes
import Derived.Sort.Grow
import Derived.Lib.AtoiErrMem
import Derived.Test.YteljecehppeamaaGreatDoorJ01
import Derived.Shelf.Strconv.Itoa4
/-
  Calls and their lines, in plain Lean (chapter 41). Condition: none.
-/
namespace Go.Fw
open Go.RowKit
set_option linter.unusedVariables false
set_option linter.unusedSimpArgs false
/-- the kinds' words -/
def vbS : Nat → List UInt8
  | 1 => [105, 110, 103, 101, 115, 116]
  | 2 => [116, 114, 105, 109]
  | 3 => [115, 110, 97, 112]
  | 4 => [102, 114, 101, 101]
  | 5 => [108, 111, 111, 107]
  | 6 => [115, 101, 116]
  | 7 => [114, 101, 97, 100]
  | 8 => [115, 104, 117, 116]
  | _ => []
def vbB (k : Nat) : ByteArray := ⟨(vbS k).toArray⟩
theorem vbB_list (k : Nat) : (vbB k).data.toList = vbS k := by simp [vbB]
theorem vbS_no (k : Nat) : (32 : UInt8) ∉ vbS k := by
  match k with
  | 0 => decide
  | 1 => decide
  | 2 => decide
  | 3 => decide
  | 4 => decide
  | 5 => decide
  | 6 => decide
  | 7 => decide
  | 8 => decide
  | _ + 9 => simp [vbS]
theorem vbS_len (k : Nat) : (vbS k).length ≤ 6 := by
  match k with
  | 0 => decide
  | 1 => decide
  | 2 => decide
  | 3 => decide
  | 4 => decide
  | 5 => decide
  | 6 => decide
  | 7 => decide
  | 8 => decide
  | _ + 9 => simp [vbS]
/-- the kind of a word; 0: it is none -/
def kindW (x : ByteArray) : Nat := if vbB 1 = x then 1 else if vbB 2 = x then 2 else if vbB 3 = x then 3 else if vbB 4 = x then 4 else if vbB 5 = x then 5 else if vbB 6 = x then 6 else if vbB 7 = x then 7 else if vbB 8 = x then 8 else 0
theorem kindW_le (x : ByteArray) : kindW x ≤ 8 := by
  unfold kindW
  repeat' split
  all_goals omega
theorem kindW_vb : ∀ k, 1 ≤ k → k ≤ 8 → kindW (vbB k) = k := by
  intro k h1 h2
  have hor : k = 1 ∨ k = 2 ∨ k = 3 ∨ k = 4 ∨ k = 5 ∨ k = 6 ∨ k = 7 ∨ k = 8 := by omega
  rcases hor with rfl | rfl | rfl | rfl | rfl | rfl | rfl | rfl <;> decide
theorem kindW_none {x : ByteArray} (h : ∀ k, 1 ≤ k → k ≤ 8 → vbB k ≠ x) : kindW x = 0 := by
  unfold kindW
  rw [if_neg (h 1 (by omega) (by omega)), if_neg (h 2 (by omega) (by omega)), if_neg (h 3 (by omega) (by omega)), if_neg (h 4 (by omega) (by omega)), if_neg (h 5 (by omega) (by omega)), if_neg (h 6 (by omega) (by omega)), if_neg (h 7 (by omega) (by omega)), if_neg (h 8 (by omega) (by omega))]
theorem kindW_some {x : ByteArray} (h : kindW x ≠ 0) : vbB (kindW x) = x := by
  unfold kindW at h ⊢
  repeat' split
  all_goals first | assumption | (exfalso; apply h; simp [*])
/-- kinds that have an id -/
def namedK (k : Int) : Bool := k == 1 || (k == 5 || (k == 6 || k == 7))
/-- a call -/
structure Cl where
  k : Int
  id : ByteArray
  tick : Int
  value : Int
  handle : Int
  a : Int
  b : Int
  c : Int
  d : Int
  e : Int
  f : Int
  deriving DecidableEq
def Cl.arr (x : Cl) : Array Value := #[.int .i64 x.k, .string x.id, .int .i64 x.tick, .int .i64 x.value, .int .i64 x.handle, .int .i64 x.a, .int .i64 x.b, .int .i64 x.c, .int .i64 x.d, .int .i64 x.e, .int .i64 x.f]
def Cl.val (x : Cl) : Value := .agg x.arr
def Cl.zero : Cl := ⟨0, ⟨#[]⟩, 0, 0, 0, 0, 0, 0, 0, 0, 0⟩
structure Cl.ok (x : Cl) : Prop where
  k : In64 x.k
  tick : In64 x.tick
  value : In64 x.value
  handle : In64 x.handle
  pol : In6 x.a x.b x.c x.d x.e x.f
  id : x.id.size ≤ 100000
theorem zero_in : In64 0 := ⟨by decide, by decide⟩
theorem Cl.ok.idm {x : Cl} (h : x.ok) : x.id.size ≤ maxLen := by have := h.id; unfold maxLen; omega
theorem Cl.zero_ok : Cl.zero.ok := ⟨zero_in, zero_in, zero_in, zero_in, ⟨zero_in, zero_in, zero_in, zero_in, zero_in, zero_in⟩, Nat.zero_le _⟩
/-- a call's words -/
def lineWs (x : Cl) : List (List UInt8) :=
  if x.k = 1 then [vbS 1, x.id.data.toList, Lib.itoa x.tick, Lib.itoa x.value]
  else if x.k = 2 then [vbS 2, Lib.itoa x.tick]
  else if x.k = 4 then [vbS 4, Lib.itoa x.handle]
  else if x.k = 5 then [vbS 5, Lib.itoa x.handle, x.id.data.toList, Lib.itoa x.tick, Lib.itoa x.value]
  else if x.k = 6 then vbS 6 :: x.id.data.toList :: polWords x.a x.b x.c x.d x.e x.f
  else if x.k = 7 then [vbS 7, x.id.data.toList]
  else [vbS x.k.toNat]
def lineB (x : Cl) : ByteArray := ⟨(joinS 32 (lineWs x)).toArray⟩
theorem lineB_list (x : Cl) : (lineB x).data.toList = joinS 32 (lineWs x) := by simp [lineB]
/-- what is wrong with a call -/
def textE (x : Cl) : Int := if x.k < 1 ∨ 8 < x.k then 14 else if namedK x.k = true ∧ idOk x.id = false then 2 else 0
/-- a call without what its line does not have -/
def bareC (x : Cl) : Cl :=
  if x.k = 1 then ⟨1, x.id, x.tick, x.value, 0, 0, 0, 0, 0, 0, 0⟩
  else if x.k = 2 then ⟨2, ByteArray.empty, x.tick, 0, 0, 0, 0, 0, 0, 0, 0⟩
  else if x.k = 4 then ⟨4, ByteArray.empty, 0, 0, x.handle, 0, 0, 0, 0, 0, 0⟩
  else if x.k = 5 then ⟨5, x.id, x.tick, x.value, x.handle, 0, 0, 0, 0, 0, 0⟩
  else if x.k = 6 then ⟨6, x.id, 0, 0, 0, x.a, x.b, x.c, x.d, x.e, x.f⟩
  else if x.k = 7 then ⟨7, x.id, 0, 0, 0, 0, 0, 0, 0, 0, 0⟩
  else ⟨x.k, ByteArray.empty, 0, 0, 0, 0, 0, 0, 0, 0, 0⟩
/-- two numbers of words -/
def num2 (x y : ByteArray) : Option (Int × Int) := match readW x, readW y with
  | some a, some b => some (a, b)
  | _, _ => none
/-- the call of words of a kind; none: they have not its form -/
def readC : Nat → List ByteArray → Option Cl
  | 1, [_, i, t, v] => match readW t, readW v with
    | some t, some v => some ⟨1, i, t, v, 0, 0, 0, 0, 0, 0, 0⟩
    | _, _ => none
  | 2, [_, t] => match readW t with
    | some t => some ⟨2, ByteArray.empty, t, 0, 0, 0, 0, 0, 0, 0, 0⟩
    | none => none
  | 4, [_, t] => match readW t with
    | some t => some ⟨4, ByteArray.empty, 0, 0, t, 0, 0, 0, 0, 0, 0⟩
    | none => none
  | 5, [_, h, i, t, v] => match readW h, readW t, readW v with
    | some h, some t, some v => some ⟨5, i, t, v, h, 0, 0, 0, 0, 0, 0⟩
    | _, _, _ => none
  | 6, [_, i, _, a, _, b, _, c, _, d, _, e, _, f] => match readW a, readW b, readW c, readW d, readW e, readW f with
    | some a, some b, some c, some d, some e, some f => some ⟨6, i, 0, 0, 0, a, b, c, d, e, f⟩
    | _, _, _, _, _, _ => none
  | 7, [_, i] => some ⟨7, i, 0, 0, 0, 0, 0, 0, 0, 0, 0⟩
  | 3, [_] => some ⟨3, ByteArray.empty, 0, 0, 0, 0, 0, 0, 0, 0, 0⟩
  | 8, [_] => some ⟨8, ByteArray.empty, 0, 0, 0, 0, 0, 0, 0, 0, 0⟩
  | _, _ => none
def headW (l : List ByteArray) : ByteArray := l.headD ByteArray.empty
/-- what a call that was read in form comes to -/
def toldC (x : Cl) (s : ByteArray) : Cl × Int := if lineB x = s then (if namedK x.k = true ∧ idOk x.id = false then (Cl.zero, 2) else (x, 0)) else (Cl.zero, 10)
/-- a text's call, and an error -/
def parseC (s : ByteArray) : Cl × Int :=
  if kindW (headW (wordsB 32 s)) = 0 then (Cl.zero, 14) else
  match readC (kindW (headW (wordsB 32 s))) (wordsB 32 s) with
  | none => (Cl.zero, 10)
  | some x => toldC x s
theorem parseC_none {s : ByteArray} (h : kindW (headW (wordsB 32 s)) = 0) : parseC s = (Cl.zero, 14) := by unfold parseC; rw [if_pos h]
theorem parseC_form {s : ByteArray} (h : kindW (headW (wordsB 32 s)) ≠ 0) (h2 : readC (kindW (headW (wordsB 32 s))) (wordsB 32 s) = none) : parseC s = (Cl.zero, 10) := by unfold parseC; rw [if_neg h, h2]
theorem parseC_told {s : ByteArray} {x : Cl} (h : kindW (headW (wordsB 32 s)) ≠ 0) (h2 : readC (kindW (headW (wordsB 32 s))) (wordsB 32 s) = some x) : parseC s = toldC x s := by unfold parseC; rw [if_neg h, h2]
theorem letter_no {s : ByteArray} (h : idOk s = true) : (32 : UInt8) ∉ s.data.toList := by
  intro hc
  obtain ⟨k, hk, he⟩ := List.getElem_of_mem hc
  have hk2 : k < s.size := by simpa using hk
  have h2 := (idOk_at h).2.2 k hk2
  have e : s[k]'hk2 = 32 := he
  rw [e] at h2
  exact h2 (by decide)
/-- the words of a line are its call's -/
theorem lineWs_no {x : Cl} (h : namedK x.k = true → (32 : UInt8) ∉ x.id.data.toList) : ∀ w ∈ lineWs x, (32 : UInt8) ∉ w := by
  have hi : ∀ n, (32 : UInt8) ∉ Lib.itoa n := fun n => itoa_no (by decide)
  have hv := vbS_no
  unfold lineWs
  by_cases h1 : x.k = 1
  · rw [if_pos h1]
    have h2 := h (by rw [h1]; rfl)
    simp only [List.mem_cons, List.mem_nil_iff, or_false]
    rintro w (rfl | rfl | rfl | rfl)
    all_goals first | exact hv _ | exact hi _ | exact h2
  rw [if_neg h1]
  by_cases h1 : x.k = 2
  · rw [if_pos h1]
    simp only [List.mem_cons, List.mem_nil_iff, or_false]
    rintro w (rfl | rfl)
    all_goals first | exact hv _ | exact hi _
  rw [if_neg h1]
  by_cases h1 : x.k = 4
  · rw [if_pos h1]
    simp only [List.mem_cons, List.mem_nil_iff, or_false]
    rintro w (rfl | rfl)
    all_goals first | exact hv _ | exact hi _
  rw [if_neg h1]
  by_cases h1 : x.k = 5
  · rw [if_pos h1]
    have h2 := h (by rw [h1]; rfl)
    simp only [List.mem_cons, List.mem_nil_iff, or_false]
    rintro w (rfl | rfl | rfl | rfl | rfl)
    all_goals first | exact hv _ | exact hi _ | exact h2
  rw [if_neg h1]
  by_cases h1 : x.k = 6
  · rw [if_pos h1]
    have h2 := h (by rw [h1]; rfl)
    intro w hw
    rcases List.mem_cons.1 hw with rfl | hw
    · exact hv _
    rcases List.mem_cons.1 hw with rfl | hw
    · exact h2
    exact polWords_signs _ _ _ _ _ _ w hw
  rw [if_neg h1]
  by_cases h1 : x.k = 7
  · rw [if_pos h1]
    have h2 := h (by rw [h1]; rfl)
    simp only [List.mem_cons, List.mem_nil_iff, or_false]
    rintro w (rfl | rfl)
    all_goals first | exact hv _ | exact h2
  rw [if_neg h1]
  simp only [List.mem_cons, List.mem_nil_iff, or_false]
  rintro w rfl
  exact hv _
theorem lineWs_ne (x : Cl) : lineWs x ≠ [] := by
  unfold lineWs
  repeat' split
  all_goals simp
theorem cut_line {x : Cl} (h : namedK x.k = true → (32 : UInt8) ∉ x.id.data.toList) : cutW 32 (joinS 32 (lineWs x)) = lineWs x := cut_join 32 _ (lineWs_ne x) (lineWs_no h)
theorem words_line {x : Cl} (h : namedK x.k = true → (32 : UInt8) ∉ x.id.data.toList) : wordsB 32 (lineB x) = (lineWs x).map fun l => (⟨l.toArray⟩ : ByteArray) := by
  unfold wordsB
  rw [lineB_list, cut_line h]
theorem bytes_back (s : ByteArray) : (⟨s.data.toList.toArray⟩ : ByteArray) = s := by cases s; simp
theorem kind_of {x : Cl} (he : textE x = 0) : x.k = 1 ∨ x.k = 2 ∨ x.k = 3 ∨ x.k = 4 ∨ x.k = 5 ∨ x.k = 6 ∨ x.k = 7 ∨ x.k = 8 := by
  unfold textE at he
  split at he
  · omega
  · omega
theorem named_ok {x : Cl} (he : textE x = 0) (h : namedK x.k = true) : idOk x.id = true := by
  unfold textE at he
  split at he
  · omega
  · split at he
    · omega
    · rename_i h2
      cases hi : idOk x.id
      · exact absurd ⟨h, hi⟩ h2
      · rfl
theorem line_bare (x : Cl) : lineB (bareC x) = lineB x := by
  unfold lineB
  congr 2
  unfold bareC
  by_cases h1 : x.k = 1
  · rw [if_pos h1]; simp [lineWs, h1]
  by_cases h2 : x.k = 2
  · rw [if_neg h1, if_pos h2]; simp [lineWs, h2]
  by_cases h4 : x.k = 4
  · rw [if_neg h1, if_neg h2, if_pos h4]; simp [lineWs, h4]
  by_cases h5 : x.k = 5
  · rw [if_neg h1, if_neg h2, if_neg h4, if_pos h5]; simp [lineWs, h5]
  by_cases h6 : x.k = 6
  · rw [if_neg h1, if_neg h2, if_neg h4, if_neg h5, if_pos h6]; simp [lineWs, h6]
  by_cases h7 : x.k = 7
  · rw [if_neg h1, if_neg h2, if_neg h4, if_neg h5, if_neg h6, if_pos h7]; simp [lineWs, h7]
  rw [if_neg h1, if_neg h2, if_neg h4, if_neg h5, if_neg h6, if_neg h7]
  simp [lineWs, h1, h2, h4, h5, h6, h7]
theorem bare_k (x : Cl) : (bareC x).k = x.k := by
  unfold bareC
  repeat' split
  all_goals first | rfl | (simp only; omega)
theorem bare_id {x : Cl} (h : namedK x.k = true) : (bareC x).id = x.id := by
  unfold bareC
  have hor : x.k = 1 ∨ x.k = 5 ∨ x.k = 6 ∨ x.k = 7 := by
    unfold namedK at h
    simpa using h
  rcases hor with h1 | h1 | h1 | h1 <;> simp [h1]
theorem told_bare {x : Cl} (he : textE x = 0) : toldC (bareC x) (lineB x) = (bareC x, 0) := by
  unfold toldC
  rw [if_pos (line_bare x), if_neg]
  rw [bare_k]
  rintro ⟨h1, h2⟩
  rw [bare_id h1, named_ok he h1] at h2
  cases h2
theorem decB_mk (n : Int) : (⟨(Lib.itoa n).toArray⟩ : ByteArray) = decB n := rfl
theorem vbB_mk (k : Nat) : (⟨(vbS k).toArray⟩ : ByteArray) = vbB k := rfl
theorem readW_in {n : Int} (h : In64 n) : readW (decB n) = some n := readW_dec h.1 h.2
theorem parse_line {x : Cl} (hx : x.ok) (he : textE x = 0) : parseC (lineB x) = (bareC x, 0) := by
  have hw := words_line (x := x) fun h => letter_no (named_ok he h)
  obtain ⟨g1, g2, g3, g4, ⟨p1, p2, p3, p4, p5, p6⟩, _⟩ := hx
  rw [← told_bare he]
  have key : ∀ k : Nat, 1 ≤ k → k ≤ 8 → ∀ r : List ByteArray, wordsB 32 (lineB x) = vbB k :: r → readC k (vbB k :: r) = some (bareC x) → parseC (lineB x) = toldC (bareC x) (lineB x) := by
    intro k h1 h8 r hr hc
    have hk : kindW (headW (wordsB 32 (lineB x))) = k := by rw [hr]; exact kindW_vb k h1 h8
    exact parseC_told (by omega) (by rw [hk, hr]; exact hc)
  rcases kind_of he with h1 | h1 | h1 | h1 | h1 | h1 | h1 | h1
  · refine key 1 (by omega) (by omega) [x.id, decB x.tick, decB x.value] (by rw [hw]; simp [lineWs, h1, vbB_mk, decB_mk, bytes_back]) ?_
    simp [readC, readW_in g2, readW_in g3, bareC, h1]
  · refine key 2 (by omega) (by omega) [decB x.tick] (by rw [hw]; simp [lineWs, h1, vbB_mk, decB_mk, bytes_back]) ?_
    simp [readC, readW_in g2, bareC, h1]
  · refine key 3 (by omega) (by omega) [] (by rw [hw]; simp [lineWs, h1, vbB_mk, decB_mk, bytes_back]) ?_
    simp [readC, bareC, h1]
  · refine key 4 (by omega) (by omega) [decB x.handle] (by rw [hw]; simp [lineWs, h1, vbB_mk, decB_mk, bytes_back]) ?_
    simp [readC, readW_in g4, bareC, h1]
  · refine key 5 (by omega) (by omega) [decB x.handle, x.id, decB x.tick, decB x.value] (by rw [hw]; simp [lineWs, h1, vbB_mk, decB_mk, bytes_back]) ?_
    simp [readC, readW_in g2, readW_in g3, readW_in g4, bareC, h1]
  · refine key 6 (by omega) (by omega) [x.id, ⟨(nmP 0).toArray⟩, decB x.a, ⟨(nmP 1).toArray⟩, decB x.b, ⟨(nmP 2).toArray⟩, decB x.c, ⟨(nmP 3).toArray⟩, decB x.d, ⟨(nmP 4).toArray⟩, decB x.e, ⟨(nmP 5).toArray⟩, decB x.f] (by rw [hw]; simp [lineWs, h1, vbB_mk, decB_mk, bytes_back, polWords]) ?_
    simp [readC, readW_in p1, readW_in p2, readW_in p3, readW_in p4, readW_in p5, readW_in p6, bareC, h1]
  · refine key 7 (by omega) (by omega) [x.id] (by rw [hw]; simp [lineWs, h1, vbB_mk, decB_mk, bytes_back]) ?_
    simp [readC, bareC, h1]
  · refine key 8 (by omega) (by omega) [] (by rw [hw]; simp [lineWs, h1, vbB_mk, decB_mk, bytes_back]) ?_
    simp [readC, bareC, h1]
/-- what was read in form, told -/
theorem told_text {s : ByteArray} {x y : Cl} {k : Nat} (hc : readC k (wordsB 32 s) = some x) (h : toldC x s = (y, 0)) : y = x ∧ lineB x = s := by
  unfold toldC at h
  split at h
  · rename_i h1
    split at h
    · cases h
    · injection h with h2 _
      exact ⟨h2.symm, h1⟩
  · cases h
end Go.Fw
/-
  Programs of calls, as they lie in memory; calls.Check and the reference's, walked (chapter 29). Condition: none.
-/
namespace Go.Fw
open Go.RowKit
set_option linter.unusedVariables false
set_option linter.unusedSimpArgs false
def Cl.cells (x : Cl) : List Value := x.arr.toList
def cls (l : List Cl) : List Value := l.flatMap Cl.cells
theorem Cl.cells_length (x : Cl) : x.cells.length = 11 := rfl
theorem cls_length (l : List Cl) : (cls l).length = l.length * 11 := flat_length _ 11 Cl.cells_length l
theorem cls_len {w : World} {B n : Nat} {A : Option Addr} {l : List Cl} (h : Reads w B 11 A n (cls l)) : n = l.length := by
  have := h.1
  rw [cls_length] at this
  omega
theorem cls_snoc (l : List Cl) (x : Cl) : cls l ++ x.cells = cls (l ++ [x]) := by simp [cls]
theorem cl_at {w : World} {B n k : Nat} {A : Option Addr} {l : List Cl} (h : Reads w B 11 A n (cls l)) (hk : k < l.length) :
    ∃ b o, A = some ⟨b, o, none⟩ ∧ b < B ∧ w.cell? ⟨b, o + k * 11, none⟩ = some (.int .i64 l[k].k) ∧ w.cell? ⟨b, o + k * 11 + 1, none⟩ = some (.string l[k].id) ∧ w.cell? ⟨b, o + k * 11 + 2, none⟩ = some (.int .i64 l[k].tick) ∧ w.cell? ⟨b, o + k * 11 + 3, none⟩ = some (.int .i64 l[k].value) ∧ w.cell? ⟨b, o + k * 11 + 4, none⟩ = some (.int .i64 l[k].handle) ∧ w.cell? ⟨b, o + k * 11 + 5, none⟩ = some (.int .i64 l[k].a) ∧ w.cell? ⟨b, o + k * 11 + 6, none⟩ = some (.int .i64 l[k].b) ∧ w.cell? ⟨b, o + k * 11 + 7, none⟩ = some (.int .i64 l[k].c) ∧ w.cell? ⟨b, o + k * 11 + 8, none⟩ = some (.int .i64 l[k].d) ∧ w.cell? ⟨b, o + k * 11 + 9, none⟩ = some (.int .i64 l[k].e) ∧ w.cell? ⟨b, o + k * 11 + 10, none⟩ = some (.int .i64 l[k].f) := by
  obtain ⟨b, o, rfl, hb, hc⟩ := h.elem Cl.cells_length (by decide) (cls_len h) hk
  exact ⟨b, o, rfl, hb, hc 0 _ rfl, hc 1 _ rfl, hc 2 _ rfl, hc 3 _ rfl, hc 4 _ rfl, hc 5 _ rfl, hc 6 _ rfl, hc 7 _ rfl, hc 8 _ rfl, hc 9 _ rfl, hc 10 _ rfl⟩
/-- programs as they lie: a row of slices, each of calls -/
def PrgAt (w : World) (A : Option Addr) (n : Nat) (ps : List (List Cl)) : Prop :=
  ∃ vs : List Value, Reads w w.heap.size 1 A n vs ∧ n = ps.length ∧ ∀ (i : Nat) (h : i < ps.length), ∃ A' c, vs[i]? = some (.slice A' ps[i].length c) ∧ ps[i].length ≤ c ∧ c ≤ maxLen ∧ Reads w w.heap.size 11 A' ps[i].length (cls ps[i])
theorem PrgAt.up {w w' : World} {A : Option Addr} {n : Nat} {ps : List (List Cl)} (h : PrgAt w A n ps) (hb : Below w.heap.size w w') : PrgAt w' A n ps := by
  obtain ⟨vs, h1, h2, h3⟩ := h
  refine ⟨vs, h1.up hb, h2, fun i hi => ?_⟩
  obtain ⟨A', c, g1, g2, g3, g4⟩ := h3 i hi
  exact ⟨A', c, g1, g2, g3, g4.up hb⟩
theorem PrgAt.len {w : World} {A : Option Addr} {n : Nat} {ps : List (List Cl)} (h : PrgAt w A n ps) : n = ps.length := by
  obtain ⟨vs, h1, h2, h3⟩ := h
  exact h2
theorem PrgAt.at_ {w : World} {A : Option Addr} {n : Nat} {ps : List (List Cl)} (h : PrgAt w A n ps) {i : Nat} (hi : i < ps.length) :
    ∃ ad A' c, A = some ad ∧ ad.block < w.heap.size ∧ w.cell? (ad.add i) = some (.slice A' ps[i].length c) ∧ ps[i].length ≤ c ∧ c ≤ maxLen ∧ Reads w w.heap.size 11 A' ps[i].length (cls ps[i]) := by
  obtain ⟨vs, h1, h2, h3⟩ := h
  obtain ⟨A', c, g1, g2, g3, g4⟩ := h3 i hi
  obtain ⟨ad, u, hA, hb, hu, hc⟩ := h1.at_ (k := i) (by omega)
  rw [g1] at hu
  injection hu with hu
  subst hu
  exact ⟨ad, A', c, hA, hb, hc, g2, g3, g4⟩
/-- what is wrong with programs and workers -/
def callsE (st sa lo hi : Int) (ps : List (List Cl)) (wk : Int) : Int :=
  if cfgOk st sa lo hi = false ∨ wk < 0 ∨ 32 < wk ∨ (ps.length : Int) + wk < 1 ∨ 32 < (ps.length : Int) + wk then 1 else if ps.all (fun p => decide (p.length ≤ 256)) = true then 0 else 12
end Go.Fw
namespace Go.Proofs.YteljecehppeamaaGreatDoor
open Go.RowKit Go.Fw
set_option maxHeartbeats 1000000
set_option maxRecDepth 4000
set_option linter.unusedVariables false
set_option linter.unusedSimpArgs false
theorem calls_cases (st sa lo hi : Int) (ps : List (List Cl)) (wk : Int) : (cfgOk st sa lo hi = false ∧ callsE st sa lo hi ps wk = 1) ∨ (cfgOk st sa lo hi = true ∧ wk < 0 ∧ callsE st sa lo hi ps wk = 1) ∨
    (cfgOk st sa lo hi = true ∧ ¬ wk < 0 ∧ 32 < wk ∧ callsE st sa lo hi ps wk = 1) ∨ (cfgOk st sa lo hi = true ∧ ¬ wk < 0 ∧ ¬ 32 < wk ∧ (ps.length : Int) + wk < 1 ∧ callsE st sa lo hi ps wk = 1) ∨
    (cfgOk st sa lo hi = true ∧ ¬ wk < 0 ∧ ¬ 32 < wk ∧ ¬ (ps.length : Int) + wk < 1 ∧ 32 < (ps.length : Int) + wk ∧ callsE st sa lo hi ps wk = 1) ∨
    (cfgOk st sa lo hi = true ∧ ¬ wk < 0 ∧ ¬ 32 < wk ∧ ¬ (ps.length : Int) + wk < 1 ∧ ¬ 32 < (ps.length : Int) + wk ∧ callsE st sa lo hi ps wk = if ps.all (fun p => decide (p.length ≤ 256)) = true then 0 else 12) := by
  unfold callsE
  cases h0 : cfgOk st sa lo hi with
  | false => exact .inl ⟨rfl, if_pos (.inl rfl)⟩
  | true =>
    refine .inr ?_
    by_cases h1 : wk < 0
    · exact .inl ⟨rfl, h1, if_pos (.inr (.inl h1))⟩
    refine .inr ?_
    by_cases h2 : 32 < wk
    · exact .inl ⟨rfl, h1, h2, if_pos (.inr (.inr (.inl h2)))⟩
    refine .inr ?_
    by_cases h3 : (ps.length : Int) + wk < 1
    · exact .inl ⟨rfl, h1, h2, h3, if_pos (.inr (.inr (.inr (.inl h3))))⟩
    refine .inr ?_
    by_cases h4 : 32 < (ps.length : Int) + wk
    · exact .inl ⟨rfl, h1, h2, h3, h4, if_pos (.inr (.inr (.inr (.inr h4))))⟩
    · refine .inr ⟨rfl, h1, h2, h3, h4, if_neg ?_⟩
      rintro (h | h | h | h | h)
      · cases h
      all_goals contradiction
theorem all_no {ps : List (List Cl)} {k : Nat} (hk : k < ps.length) (h : ¬ ps[k].length ≤ 256) : ps.all (fun p => decide (p.length ≤ 256)) = false := by
  cases h2 : ps.all (fun p => decide (p.length ≤ 256))
  · rfl
  · rw [List.all_eq_true] at h2
    have := h2 _ (List.getElem_mem hk)
    simp at this
    omega
theorem all_yes {ps : List (List Cl)} (h : ∀ (j : Nat) (hj : j < ps.length), ps[j].length ≤ 256) : ps.all (fun p => decide (p.length ≤ 256)) = true := by
  rw [List.all_eq_true]
  intro x hx
  obtain ⟨j, hj, rfl⟩ := List.getElem_of_mem hx
  exact decide_eq_true (h j hj)
theorem ccheck_any (st sa lo hi : Int) (ps : List (List Cl)) (A : Option Addr) (n c : Nat) (wk : Int) (w : World) (hP : PrgAt w A n ps) (hn : n ≤ 1000000) (hwk : In64 wk) :
    Calls Tryz.prog 26 #[.agg #[.int .i64 st, .int .i64 sa, .int .i64 lo, .int .i64 hi], .slice A n c, .int .i64 wk] w fun x w' => x = .returned (.int .i64 (callsE st sa lo hi ps wk)) ∧ Below w.heap.size w w' := by
  have HC := calls_cases st sa lo hi ps wk
  have hnl := hP.len
  rw [← hnl] at HC
  have HN := Lib.hid hnl
  clear hnl
  unfold In64 at hwk
  have HB := Lib.hid (sub_alloc (Below.refl _ w) (.cells #[.int .i64 st, .int .i64 sa, .int .i64 lo, .int .i64 hi] 23))
  have HR : Hid (∀ W, Calls Tryz.prog 43 #[.agg #[.int .i64 st, .int .i64 sa, .int .i64 lo, .int .i64 hi]] W fun x w' => x = .returned (.int .i64 (if cfgOk st sa lo hi = true then 0 else 1)) ∧ Below W.heap.size W w') := Lib.hid (fun W => nright_any st sa lo hi W)
  have HP := Lib.hid (hP.up HB.out)
  clear hP
  rcases HC with ⟨h0, hF⟩ | ⟨h0, h1, hF⟩ | ⟨h0, h1, h2, hF⟩ | ⟨h0, h1, h2, h3, hF⟩ | ⟨h0, h1, h2, h3, h4, hF⟩ | ⟨h0, h1, h2, h3, h4, hF⟩
  case inr.inr.inr.inr.inr =>
    rw [h0] at HR
    have HF := Lib.hid hF
    clear h0 hF
    have hnw1 : ¬ (n : Int) + wk < 1 := h3
    have hnw2 : ¬ 32 < (n : Int) + wk := h4
    go_enter Tryz.func26, Tryz.ntmps26
    go_wp2_with fail
    refine (HR.out _).mono ?_
    rintro y w1 ⟨rfl, hb⟩
    have hb1 := sub_trans HB.out hb
    have HP1 := Lib.hid (HP.out.up hb)
    clear hb
    simp only [if_true]
    go_wp2
    go_loop [37] (fun i => ∃ (k : Nat), k ≤ n ∧ i = .int .i64 k ∧ Hid (∀ (j : Nat) (hj : j < ps.length), j < k → ps[j].length ≤ 256)) (fun i => n - (intOf i).toNat)
    case atStart => exact ⟨0, by omega, rfl, Lib.hid (fun j _ h => by omega)⟩
    case round =>
      obtain ⟨k, hk, rfl, HK⟩ := hrel
      by_cases hlt : k < n
      · have hkl : k < ps.length := by have := HN.out; omega
        obtain ⟨ad, A', c', rfl, hadl, hc, hpc, hcm, hrd⟩ := HP1.out.at_ hkl
        unfold maxLen at hcm
        by_cases h256 : ps[k].length ≤ 256
        · have h256I : ¬ (256 : Int) < (ps[k].length : Int) := by omega
          have H2 := Lib.hid h256
          clear h256 hrd
          go_wp2
          go_round
          case rel =>
            refine ⟨k + 1, by omega, by go_num, Lib.hid fun j hj hjk => ?_⟩
            by_cases hje : j = k
            · subst hje
              exact H2.out
            · exact HK.out j hj (by omega)
          case measure => simp [intOf]; omega
        · have h256I : (256 : Int) < (ps[k].length : Int) := by omega
          have HE : Hid (callsE st sa lo hi ps wk = 12) := Lib.hid (by rw [HF.out, all_no hkl h256]; rfl)
          clear h256 hrd
          go_wp2
          go_ret
          exact ⟨ret_i HE.out.symm, hb1⟩
      · have HE : Hid (callsE st sa lo hi ps wk = 0) := Lib.hid (by rw [HF.out, all_yes fun j hj => HK.out j hj (by have := HN.out; omega)]; rfl)
        go_wp2
        go_ret
        exact ⟨ret_i HE.out.symm, hb1⟩
  all_goals
    rw [h0] at HR
    rw [hF]
    clear h0 hF
    go_enter Tryz.func26, Tryz.ntmps26
    go_wp2_with fail
    refine (HR.out _).mono ?_
    rintro y w1 ⟨rfl, hb⟩
    have hb1 := sub_trans HB.out hb
    clear hb
    try simp only [if_true, Bool.false_eq_true, if_false]
    go_wp2
    go_ret
    exact ⟨rfl, hb1⟩
theorem rccheck_any (st sa lo hi : Int) (ps : List (List Cl)) (A : Option Addr) (n c : Nat) (wk : Int) (w : World) (hP : PrgAt w A n ps) (hn : n ≤ 1000000) (hwk : In64 wk) :
    Calls Tryz.prog 27 #[.agg #[.int .i64 st, .int .i64 sa, .int .i64 lo, .int .i64 hi], .slice A n c, .int .i64 wk] w fun x w' => x = .returned (.int .i64 (callsE st sa lo hi ps wk)) ∧ Below w.heap.size w w' := by
  have HC := calls_cases st sa lo hi ps wk
  have hnl := hP.len
  rw [← hnl] at HC
  have HN := Lib.hid hnl
  clear hnl
  unfold In64 at hwk
  have HB := Lib.hid (sub_alloc (Below.refl _ w) (.cells #[.int .i64 st, .int .i64 sa, .int .i64 lo, .int .i64 hi] 23))
  have HR : Hid (∀ W, Calls Tryz.prog 44 #[.agg #[.int .i64 st, .int .i64 sa, .int .i64 lo, .int .i64 hi]] W fun x w' => x = .returned (.bool (cfgOk st sa lo hi)) ∧ Below W.heap.size W w') := Lib.hid (fun W => cright_any st sa lo hi W)
  have HP := Lib.hid (hP.up HB.out)
  clear hP
  rcases HC with ⟨h0, hF⟩ | ⟨h0, h1, hF⟩ | ⟨h0, h1, h2, hF⟩ | ⟨h0, h1, h2, h3, hF⟩ | ⟨h0, h1, h2, h3, h4, hF⟩ | ⟨h0, h1, h2, h3, h4, hF⟩
  case inr.inr.inr.inr.inr =>
    rw [h0] at HR
    have HF := Lib.hid hF
    clear h0 hF
    have hnw1 : ¬ (n : Int) + wk < 1 := h3
    have hnw2 : ¬ 32 < (n : Int) + wk := h4
    go_enter Tryz.func27, Tryz.ntmps27
    go_wp2_with fail
    refine (HR.out _).mono ?_
    rintro y w1 ⟨rfl, hb⟩
    have hb1 := sub_trans HB.out hb
    have HP1 := Lib.hid (HP.out.up hb)
    clear hb
    go_wp2
    go_loop [7] (fun i => ∃ (k : Nat), k ≤ n ∧ i = .int .i64 k ∧ Hid (∀ (j : Nat) (hj : j < ps.length), j < k → ps[j].length ≤ 256)) (fun i => n - (intOf i).toNat)
    case atStart => exact ⟨0, by omega, rfl, Lib.hid (fun j _ h => by omega)⟩
    case round =>
      obtain ⟨k, hk, rfl, HK⟩ := hrel
      by_cases hlt : k < n
      · have hkl : k < ps.length := by have := HN.out; omega
        obtain ⟨ad, A', c', rfl, hadl, hc, hpc, hcm, hrd⟩ := HP1.out.at_ hkl
        unfold maxLen at hcm
        by_cases h256 : ps[k].length ≤ 256
        · have h256I : ¬ (256 : Int) < (ps[k].length : Int) := by omega
          have H2 := Lib.hid h256
          clear h256 hrd
          go_wp2
          go_round
          case rel =>
            refine ⟨k + 1, by omega, by go_num, Lib.hid fun j hj hjk => ?_⟩
            by_cases hje : j = k
            · subst hje
              exact H2.out
            · exact HK.out j hj (by omega)
          case measure => simp [intOf]; omega
        · have h256I : (256 : Int) < (ps[k].length : Int) := by omega
          have HE : Hid (callsE st sa lo hi ps wk = 12) := Lib.hid (by rw [HF.out, all_no hkl h256]; rfl)
          clear h256 hrd
          go_wp2
          go_ret
          exact ⟨ret_i HE.out.symm, hb1⟩
      · have HE : Hid (callsE st sa lo hi ps wk = 0) := Lib.hid (by rw [HF.out, all_yes fun j hj => HK.out j hj (by have := HN.out; omega)]; rfl)
        go_wp2
        go_ret
        exact ⟨ret_i HE.out.symm, hb1⟩
  all_goals
    rw [h0] at HR
    rw [hF]
    clear h0 hF
    go_enter Tryz.func27, Tryz.ntmps27
    go_wp2_with fail
    refine (HR.out _).mono ?_
    rintro y w1 ⟨rfl, hb⟩
    have hb1 := sub_trans HB.out hb
    clear hb
    try simp only [if_true, Bool.false_eq_true, if_false]
    go_wp2
    go_ret
    exact ⟨rfl, hb1⟩
end Go.Proofs.YteljecehppeamaaGreatDoor
/-
  What lies in memory ahead of a call of strconv: its table of powers, its two errors. Condition: none.
-/
namespace Go.Fw
open Go.RowKit Go.Sort Go.Joins
set_option linter.unusedVariables false
/-- the table and the two errors -/
structure Tabs (P : Program) (w : World) : Prop where
  pow : Lib.TabIs P w "internal/strconv.uint64pow10" .u64 Lib.pow10Tab
  syn : ∃ tp p, w.var? P "strconv.ErrSyntax" = some #[.iface tp p]
  ran : ∃ tp p, w.var? P "strconv.ErrRange" = some #[.iface tp p]
theorem var_up {P : Program} {w w' : World} {n : String} {cs : Array Value} (h : w.var? P n = some cs) (hb : Below w.heap.size w w') : w'.var? P n = some cs := by
  have h2 := h
  unfold World.var? at h2
  cases hg : P.globalNamed n with
  | none => rw [hg] at h2; cases h2
  | some g => exact var_stays hg h hb (Nat.le_refl _)
theorem Tabs.up {P : Program} {w w' : World} (h : Tabs P w) (hb : Below w.heap.size w w') : Tabs P w' := by
  obtain ⟨h1, ⟨t2, p2, h2⟩, ⟨t3, p3, h3⟩⟩ := h
  exact ⟨var_up h1 hb, ⟨t2, p2, var_up h2 hb⟩, ⟨t3, p3, var_up h3 hb⟩⟩
theorem below_grow {w w' : World} {k : Nat} {os : Array Obj} (h : w' = grow (w.drewN k) os) : Below w.heap.size w w' := by
  subst h
  refine ⟨rfl, rfl, rfl, ?_, fun i hi => ?_⟩
  · show w.heap.size ≤ (w.heap ++ os).size
    simp
  · show (w.heap ++ os)[i]? = w.heap[i]?
    rw [Array.getElem?_append_left hi]
theorem below_bytes {w w' : World} {e : TypeId} (h : w' = w ∨ ∃ t, w' = Lib.bytesWorld w e t) : Below w.heap.size w w' := by
  rcases h with rfl | ⟨t, rfl⟩
  · exact Below.refl _ _
  · exact Lib.bytesWorld_below w e t
/-- how a numeral is read: the number, or none -/
def readsAs (s : ByteArray) (n : Int) (ok : Bool) : Prop := In64 n ∧ (ok = true → Lib.atoiAll s.data.toList = .ok n) ∧ (ok = false → ∀ v, Lib.atoiAll s.data.toList ≠ .ok v)
end Go.Fw
/-
  strconv.FormatInt to the base ten, as the walks want it. Condition: the table lies in memory.
-/
namespace Go.Proofs
open Go.Shelf
def Tryz.lfmt_ren : Go.Shelf.Ren := ⟨fun | 173 => 56 | 246 => 59 | 283 => 70 | 284 => 71 | 285 => 72 | 286 => 73 | 129 => 87 | 317 => 86 | 318 => 88 | 319 => 89 | 320 => 90 | 337 => 102 | 338 => 103 | n => n, fun | 2 => 2 | 3 => 3 | 9 => 9 | 4 => 4 | 171 => 110 | 0 => 0 | 53 => 93 | 37 => 52 | 5 => 5 | 173 => 113 | 212 => 129 | 51 => 130 | 20 => 20 | 213 => 131 | 46 => 132 | 232 => 150 | 233 => 151 | n => n, fun | 17 => 1 | 18 => 4 | 19 => 5 | n => n⟩
theorem Tryz.lfmt : Go.Proofs.LaysM.n173 Tryz.prog Tryz.lfmt_ren := {
  mixed := by kernel_rfl
  f129 := Tryz.func87.trans (congrArg some (by kernel_rfl))
  f173 := Tryz.func56.trans (congrArg some (by kernel_rfl))
  f246 := Tryz.func59.trans (congrArg some (by kernel_rfl))
  f283 := Tryz.func70.trans (congrArg some (by kernel_rfl))
  f284 := Tryz.func71.trans (congrArg some (by kernel_rfl))
  f285 := Tryz.func72.trans (congrArg some (by kernel_rfl))
  f286 := Tryz.func73.trans (congrArg some (by kernel_rfl))
  f317 := Tryz.func86.trans (congrArg some (by kernel_rfl))
  f318 := Tryz.func88.trans (congrArg some (by kernel_rfl))
  f319 := Tryz.func89.trans (congrArg some (by kernel_rfl))
  f320 := Tryz.func90.trans (congrArg some (by kernel_rfl))
  f337 := Tryz.func102.trans (congrArg some (by kernel_rfl))
  f338 := Tryz.func103.trans (congrArg some (by kernel_rfl))
  t0 := Tryz.underlying0
  a0 := Tryz.isAgg0
  z0 := Tryz.sizeOf0
  v0 := Tryz.zeroValue0
  t2 := Tryz.underlying2
  a2 := Tryz.isAgg2
  z2 := Tryz.sizeOf2
  v2 := Tryz.zeroValue2
  t3 := Tryz.underlying3
  a3 := Tryz.isAgg3
  z3 := Tryz.sizeOf3
  v3 := Tryz.zeroValue3
  t4 := Tryz.underlying4
  a4 := Tryz.isAgg4
  z4 := Tryz.sizeOf4
  v4 := Tryz.zeroValue4
  t5 := Tryz.underlying5
  a5 := Tryz.isAgg5
  z5 := Tryz.sizeOf5
  v5 := Tryz.zeroValue5
  t9 := Tryz.underlying9
  a9 := Tryz.isAgg9
  z9 := Tryz.sizeOf9
  v9 := Tryz.zeroValue9
  t20 := Tryz.underlying20
  a20 := Tryz.isAgg20
  z20 := Tryz.sizeOf20
  v20 := Tryz.zeroValue20
  t37 := Tryz.underlying52
  a37 := Tryz.isAgg52
  z37 := Tryz.sizeOf52
  v37 := Tryz.zeroValue52
  t46 := Tryz.underlying132
  a46 := Tryz.isAgg132
  z46 := Tryz.sizeOf132
  v46 := Tryz.zeroValue132
  t51 := Tryz.underlying130
  a51 := Tryz.isAgg130
  z51 := Tryz.sizeOf130
  v51 := Tryz.zeroValue130
  t53 := Tryz.underlying93
  a53 := Tryz.isAgg93
  z53 := Tryz.sizeOf93
  v53 := Tryz.zeroValue93
  t171 := Tryz.underlying110
  a171 := Tryz.isAgg110
  z171 := Tryz.sizeOf110
  v171 := Tryz.zeroValue110
  t173 := Tryz.underlying113
  a173 := Tryz.isAgg113
  z173 := Tryz.sizeOf113
  v173 := Tryz.zeroValue113
  t212 := Tryz.underlying129
  a212 := Tryz.isAgg129
  z212 := Tryz.sizeOf129
  v212 := Tryz.zeroValue129
  t213 := Tryz.underlying131
  a213 := Tryz.isAgg131
  z213 := Tryz.sizeOf131
  t232 := Tryz.underlying150
  a232 := Tryz.isAgg150
  z232 := Tryz.sizeOf150
  v232 := Tryz.zeroValue150
  t233 := Tryz.underlying151
  a233 := Tryz.isAgg151
  z233 := Tryz.sizeOf151
  v233 := Tryz.zeroValue151
  g17 := by kernel_rfl
  g18 := by kernel_rfl
  g19 := by kernel_rfl
  i0 := by kernel_rfl
  i2 := by kernel_rfl
  i3 := by kernel_rfl
  i4 := by kernel_rfl
  i5 := by kernel_rfl
  i9 := by kernel_rfl
  i20 := by kernel_rfl
  i37 := by kernel_rfl
  i46 := by kernel_rfl
  i51 := by kernel_rfl
  i53 := by kernel_rfl
  i171 := by kernel_rfl
  i173 := by kernel_rfl
  i212 := by kernel_rfl
  i232 := by kernel_rfl
  i233 := by kernel_rfl
  m17 := by kernel_rfl
  m18 := by kernel_rfl
  m19 := by kernel_rfl }
end Go.Proofs
namespace Go.Proofs.YteljecehppeamaaGreatDoor
open Go.RowKit Go.Shelf Go.Fw
set_option linter.unusedVariables false
/-- the table of powers lies in memory -/
abbrev Pow (w : World) : Prop := Lib.TabIs Tryz.prog w "internal/strconv.uint64pow10" .u64 Lib.pow10Tab
theorem pow_up {w w' : World} (h : Pow w) (hb : Below w.heap.size w w') : Pow w' := var_up h hb
theorem fmt_any (n : Int) (hn : In64 n) (w : World) (hT : Pow w) :
    Calls Tryz.prog 56 #[.int .i64 n, .int .i64 10] w fun e w' => e = .returned (.string (decB n)) ∧ Below w.heap.size w w' := by
  have h := Any.strconv_FormatInt_10 Tryz.lfmt n hn.1 hn.2 w hT
  change Calls Tryz.prog 56 _ _ _ at h
  exact h.mono fun e w' ⟨h1, k, os, h2⟩ => ⟨h1, below_grow h2⟩
end Go.Proofs.YteljecehppeamaaGreatDoor
/-
  What a call may have written: some blocks, and nothing else. Condition: none.
-/
namespace Go.Fw
open Go.RowKit
structure Keep (L : Nat → Prop) (w w' : World) : Prop where
  os : w'.os = w.os
  tape : w'.tape = w.tape
  output : w'.output = w.output
  size : w.heap.size ≤ w'.heap.size
  block : ∀ k, k < w.heap.size → ¬ L k → w'.heap[k]? = w.heap[k]?
theorem Keep.refl (L : Nat → Prop) (w : World) : Keep L w w := ⟨rfl, rfl, rfl, Nat.le_refl _, fun _ _ _ => rfl⟩
theorem Keep.trans {L : Nat → Prop} {w w' w'' : World} (h : Keep L w w') (k : Keep L w' w'') : Keep L w w'' :=
  ⟨k.os.trans h.os, k.tape.trans h.tape, k.output.trans h.output, Nat.le_trans h.size k.size, fun j hj hl => (k.block j (Nat.lt_of_lt_of_le hj h.size) hl).trans (h.block j hj hl)⟩
theorem Keep.of_below {L : Nat → Prop} {w w' : World} (h : Below w.heap.size w w') : Keep L w w' := ⟨h.os, h.tape, h.output, h.size, fun k hk _ => h.block k hk⟩
theorem Keep.below {L : Nat → Prop} {B : Nat} {w w' : World} (h : Keep L w w') (hB : B ≤ w.heap.size) (hL : ∀ k, L k → B ≤ k) : Below B w w' :=
  ⟨h.os, h.tape, h.output, h.size, fun k hk => h.block k (by omega) (fun e => by have := hL k e; omega)⟩
theorem Keep.setCell {L : Nat → Prop} {w w' : World} (h : Keep L w w') {p : Addr} (hp : L p.block ∨ w.heap.size ≤ p.block) (u : Value) : Keep L w (w'.setCell p u) :=
  ⟨h.os, h.tape, h.output, by simpa [World.setCell] using h.size, fun k hk hl => (Below.heap_setCell w' p u k (fun e => by rcases hp with hp | hp; exact hl (e ▸ hp); omega)).trans (h.block k hk hl)⟩
theorem Keep.alloc {L : Nat → Prop} {w w' : World} (h : Keep L w w') (o : Obj) : Keep L w (w'.alloc o) :=
  ⟨h.os, h.tape, h.output, Nat.le_trans h.size (by simp), fun k hk hl => (Below.heap_alloc w' o k (Nat.lt_of_lt_of_le hk h.size)).trans (h.block k hk hl)⟩
theorem Keep.drew {L : Nat → Prop} {w w' : World} (h : Keep L w w') : Keep L w w'.drew := ⟨h.os, h.tape, h.output, h.size, h.block⟩
theorem Keep.drewN {L : Nat → Prop} {w w' : World} (h : Keep L w w') (n : Nat) : Keep L w (w'.drewN n) := ⟨h.os, h.tape, h.output, h.size, h.block⟩
theorem Keep.blk {L : Nat → Prop} {w w' : World} (h : Keep L w w') {g : Nat} {t : TypeId} {cs : Array Value} (hb : Blk w g t cs) (hg : ¬ L g) : Blk w' g t cs := (h.block g hb.lt hg).trans hb
theorem Keep.reads {L : Nat → Prop} {w w' : World} (h : Keep L w w') {B s n : Nat} {A : Option Addr} {xs : List Value} (hr : Reads w B s A n xs) (hB : B ≤ w.heap.size) (hL : ∀ ad, A = some ad → 0 < n → ¬ L ad.block) : Reads w' B s A n xs :=
  ⟨hr.1, fun hn => by
    obtain ⟨ad, e, hb, hc⟩ := hr.2 hn
    refine ⟨ad, e, hb, fun j u hu => (World.cell?_of_block (h.block _ (by rw [block_of_add]; omega) (by rw [block_of_add]; exact hL ad e hn))).trans (hc j u hu)⟩⟩

theorem Keep.more2 {L L' : Nat → Prop} {w w' : World} (h : Keep L w w') (hl : ∀ k, L k → L' k) : Keep L' w w' := ⟨h.os, h.tape, h.output, h.size, fun k hk hn => h.block k hk fun e => hn (hl k e)⟩
theorem grownK {L L' : Nat → Prop} {w w1 w' : World} {row : Option Nat} (h : Keep L w w1) (g : w1.grownBy w' row) (hl : ∀ k, L k → L' k) (hr : ∀ k, row = some k → L' k) : Keep L' w w' :=
  ⟨g.os.trans h.os, g.tape.trans h.tape, g.output.trans h.output, Nat.le_trans h.size g.size, fun k hk hn => (g.block k (Nat.lt_of_lt_of_le hk h.size) fun e => hn (hr k e.symm)).trans (h.block k hk fun e => hn (hl k e))⟩
end Go.Fw
