/-
  Calls and their lines, in plain Lean (chapter 41). Condition: none.
-/
import Derived.Test.YteljecehppeamaaDoorPolPlain
import Derived.Test.YteljecehppeamaaDoorIdent
namespace Go.Fw
open Go.RowKit
set_option linter.unusedVariables false
set_option linter.unusedSimpArgs false
/-- the kinds' words -/
def vbS : Nat → List UInt8
  | 1 => [105, 110, 103, 101, 115, 116]
  | 2 => [116, 114, 105, 109]
  | 3 => [115, 110, 97, 112]
  | 4 => [102, 114, 101, 101]
  | 5 => [108, 111, 111, 107]
  | 6 => [115, 101, 116]
  | 7 => [114, 101, 97, 100]
  | 8 => [115, 104, 117, 116]
  | _ => []
def vbB (k : Nat) : ByteArray := ⟨(vbS k).toArray⟩
theorem vbB_list (k : Nat) : (vbB k).data.toList = vbS k := by simp [vbB]
theorem vbS_no (k : Nat) : (32 : UInt8) ∉ vbS k := by
  match k with
  | 0 => decide
  | 1 => decide
  | 2 => decide
  | 3 => decide
  | 4 => decide
  | 5 => decide
  | 6 => decide
  | 7 => decide
  | 8 => decide
  | _ + 9 => simp [vbS]
theorem vbS_len (k : Nat) : (vbS k).length ≤ 6 := by
  match k with
  | 0 => decide
  | 1 => decide
  | 2 => decide
  | 3 => decide
  | 4 => decide
  | 5 => decide
  | 6 => decide
  | 7 => decide
  | 8 => decide
  | _ + 9 => simp [vbS]
/-- the kind of a word; 0: it is none -/
def kindW (x : ByteArray) : Nat := if vbB 1 = x then 1 else if vbB 2 = x then 2 else if vbB 3 = x then 3 else if vbB 4 = x then 4 else if vbB 5 = x then 5 else if vbB 6 = x then 6 else if vbB 7 = x then 7 else if vbB 8 = x then 8 else 0
theorem kindW_le (x : ByteArray) : kindW x ≤ 8 := by
  unfold kindW
  repeat' split
  all_goals omega
theorem kindW_vb : ∀ k, 1 ≤ k → k ≤ 8 → kindW (vbB k) = k := by
  intro k h1 h2
  have hor : k = 1 ∨ k = 2 ∨ k = 3 ∨ k = 4 ∨ k = 5 ∨ k = 6 ∨ k = 7 ∨ k = 8 := by omega
  rcases hor with rfl | rfl | rfl | rfl | rfl | rfl | rfl | rfl <;> decide
theorem kindW_none {x : ByteArray} (h : ∀ k, 1 ≤ k → k ≤ 8 → vbB k ≠ x) : kindW x = 0 := by
  unfold kindW
  rw [if_neg (h 1 (by omega) (by omega)), if_neg (h 2 (by omega) (by omega)), if_neg (h 3 (by omega) (by omega)), if_neg (h 4 (by omega) (by omega)), if_neg (h 5 (by omega) (by omega)), if_neg (h 6 (by omega) (by omega)), if_neg (h 7 (by omega) (by omega)), if_neg (h 8 (by omega) (by omega))]
theorem kindW_some {x : ByteArray} (h : kindW x ≠ 0) : vbB (kindW x) = x := by
  unfold kindW at h ⊢
  repeat' split
  all_goals first | assumption | (exfalso; apply h; simp [*])
/-- kinds that have an id -/
def namedK (k : Int) : Bool := k == 1 || (k == 5 || (k == 6 || k == 7))
/-- a call -/
structure Cl where
  k : Int
  id : ByteArray
  tick : Int
  value : Int
  handle : Int
  a : Int
  b : Int
  c : Int
  d : Int
  e : Int
  f : Int
  deriving DecidableEq
def Cl.arr (x : Cl) : Array Value := #[.int .i64 x.k, .string x.id, .int .i64 x.tick, .int .i64 x.value, .int .i64 x.handle, .int .i64 x.a, .int .i64 x.b, .int .i64 x.c, .int .i64 x.d, .int .i64 x.e, .int .i64 x.f]
def Cl.val (x : Cl) : Value := .agg x.arr
def Cl.zero : Cl := ⟨0, ⟨#[]⟩, 0, 0, 0, 0, 0, 0, 0, 0, 0⟩
structure Cl.ok (x : Cl) : Prop where
  k : In64 x.k
  tick : In64 x.tick
  value : In64 x.value
  handle : In64 x.handle
  pol : In6 x.a x.b x.c x.d x.e x.f
  id : x.id.size ≤ 100000
theorem zero_in : In64 0 := ⟨by decide, by decide⟩
theorem Cl.ok.idm {x : Cl} (h : x.ok) : x.id.size ≤ maxLen := by have := h.id; unfold maxLen; omega
theorem Cl.zero_ok : Cl.zero.ok := ⟨zero_in, zero_in, zero_in, zero_in, ⟨zero_in, zero_in, zero_in, zero_in, zero_in, zero_in⟩, Nat.zero_le _⟩
/-- a call's words -/
def lineWs (x : Cl) : List (List UInt8) :=
  if x.k = 1 then [vbS 1, x.id.data.toList, Lib.itoa x.tick, Lib.itoa x.value]
  else if x.k = 2 then [vbS 2, Lib.itoa x.tick]
  else if x.k = 4 then [vbS 4, Lib.itoa x.handle]
  else if x.k = 5 then [vbS 5, Lib.itoa x.handle, x.id.data.toList, Lib.itoa x.tick, Lib.itoa x.value]
  else if x.k = 6 then vbS 6 :: x.id.data.toList :: polWords x.a x.b x.c x.d x.e x.f
  else if x.k = 7 then [vbS 7, x.id.data.toList]
  else [vbS x.k.toNat]
def lineB (x : Cl) : ByteArray := ⟨(joinS 32 (lineWs x)).toArray⟩
theorem lineB_list (x : Cl) : (lineB x).data.toList = joinS 32 (lineWs x) := by simp [lineB]
/-- what is wrong with a call -/
def textE (x : Cl) : Int := if x.k < 1 ∨ 8 < x.k then 14 else if namedK x.k = true ∧ idOk x.id = false then 2 else 0
/-- a call without what its line does not have -/
def bareC (x : Cl) : Cl :=
  if x.k = 1 then ⟨1, x.id, x.tick, x.value, 0, 0, 0, 0, 0, 0, 0⟩
  else if x.k = 2 then ⟨2, ByteArray.empty, x.tick, 0, 0, 0, 0, 0, 0, 0, 0⟩
  else if x.k = 4 then ⟨4, ByteArray.empty, 0, 0, x.handle, 0, 0, 0, 0, 0, 0⟩
  else if x.k = 5 then ⟨5, x.id, x.tick, x.value, x.handle, 0, 0, 0, 0, 0, 0⟩
  else if x.k = 6 then ⟨6, x.id, 0, 0, 0, x.a, x.b, x.c, x.d, x.e, x.f⟩
  else if x.k = 7 then ⟨7, x.id, 0, 0, 0, 0, 0, 0, 0, 0, 0⟩
  else ⟨x.k, ByteArray.empty, 0, 0, 0, 0, 0, 0, 0, 0, 0⟩
/-- two numbers of words -/
def num2 (x y : ByteArray) : Option (Int × Int) := match readW x, readW y with
  | some a, some b => some (a, b)
  | _, _ => none
/-- the call of words of a kind; none: they have not its form -/
def readC : Nat → List ByteArray → Option Cl
  | 1, [_, i, t, v] => match readW t, readW v with
    | some t, some v => some ⟨1, i, t, v, 0, 0, 0, 0, 0, 0, 0⟩
    | _, _ => none
  | 2, [_, t] => match readW t with
    | some t => some ⟨2, ByteArray.empty, t, 0, 0, 0, 0, 0, 0, 0, 0⟩
    | none => none
  | 4, [_, t] => match readW t with
    | some t => some ⟨4, ByteArray.empty, 0, 0, t, 0, 0, 0, 0, 0, 0⟩
    | none => none
  | 5, [_, h, i, t, v] => match readW h, readW t, readW v with
    | some h, some t, some v => some ⟨5, i, t, v, h, 0, 0, 0, 0, 0, 0⟩
    | _, _, _ => none
  | 6, [_, i, _, a, _, b, _, c, _, d, _, e, _, f] => match readW a, readW b, readW c, readW d, readW e, readW f with
    | some a, some b, some c, some d, some e, some f => some ⟨6, i, 0, 0, 0, a, b, c, d, e, f⟩
    | _, _, _, _, _, _ => none
  | 7, [_, i] => some ⟨7, i, 0, 0, 0, 0, 0, 0, 0, 0, 0⟩
  | 3, [_] => some ⟨3, ByteArray.empty, 0, 0, 0, 0, 0, 0, 0, 0, 0⟩
  | 8, [_] => some ⟨8, ByteArray.empty, 0, 0, 0, 0, 0, 0, 0, 0, 0⟩
  | _, _ => none
def headW (l : List ByteArray) : ByteArray := l.headD ByteArray.empty
/-- what a call that was read in form comes to -/
def toldC (x : Cl) (s : ByteArray) : Cl × Int := if lineB x = s then (if namedK x.k = true ∧ idOk x.id = false then (Cl.zero, 2) else (x, 0)) else (Cl.zero, 10)
/-- a text's call, and an error -/
def parseC (s : ByteArray) : Cl × Int :=
  if kindW (headW (wordsB 32 s)) = 0 then (Cl.zero, 14) else
  match readC (kindW (headW (wordsB 32 s))) (wordsB 32 s) with
  | none => (Cl.zero, 10)
  | some x => toldC x s
theorem parseC_none {s : ByteArray} (h : kindW (headW (wordsB 32 s)) = 0) : parseC s = (Cl.zero, 14) := by unfold parseC; rw [if_pos h]
theorem parseC_form {s : ByteArray} (h : kindW (headW (wordsB 32 s)) ≠ 0) (h2 : readC (kindW (headW (wordsB 32 s))) (wordsB 32 s) = none) : parseC s = (Cl.zero, 10) := by unfold parseC; rw [if_neg h, h2]
theorem parseC_told {s : ByteArray} {x : Cl} (h : kindW (headW (wordsB 32 s)) ≠ 0) (h2 : readC (kindW (headW (wordsB 32 s))) (wordsB 32 s) = some x) : parseC s = toldC x s := by unfold parseC; rw [if_neg h, h2]
theorem letter_no {s : ByteArray} (h : idOk s = true) : (32 : UInt8) ∉ s.data.toList := by
  intro hc
  obtain ⟨k, hk, he⟩ := List.getElem_of_mem hc
  have hk2 : k < s.size := by simpa using hk
  have h2 := (idOk_at h).2.2 k hk2
  have e : s[k]'hk2 = 32 := he
  rw [e] at h2
  exact h2 (by decide)
/-- the words of a line are its call's -/
theorem lineWs_no {x : Cl} (h : namedK x.k = true → (32 : UInt8) ∉ x.id.data.toList) : ∀ w ∈ lineWs x, (32 : UInt8) ∉ w := by
  have hi : ∀ n, (32 : UInt8) ∉ Lib.itoa n := fun n => itoa_no (by decide)
  have hv := vbS_no
  unfold lineWs
  by_cases h1 : x.k = 1
  · rw [if_pos h1]
    have h2 := h (by rw [h1]; rfl)
    simp only [List.mem_cons, List.mem_nil_iff, or_false]
    rintro w (rfl | rfl | rfl | rfl)
    all_goals first | exact hv _ | exact hi _ | exact h2
  rw [if_neg h1]
  by_cases h1 : x.k = 2
  · rw [if_pos h1]
    simp only [List.mem_cons, List.mem_nil_iff, or_false]
    rintro w (rfl | rfl)
    all_goals first | exact hv _ | exact hi _
  rw [if_neg h1]
  by_cases h1 : x.k = 4
  · rw [if_pos h1]
    simp only [List.mem_cons, List.mem_nil_iff, or_false]
    rintro w (rfl | rfl)
    all_goals first | exact hv _ | exact hi _
  rw [if_neg h1]
  by_cases h1 : x.k = 5
  · rw [if_pos h1]
    have h2 := h (by rw [h1]; rfl)
    simp only [List.mem_cons, List.mem_nil_iff, or_false]
    rintro w (rfl | rfl | rfl | rfl | rfl)
    all_goals first | exact hv _ | exact hi _ | exact h2
  rw [if_neg h1]
  by_cases h1 : x.k = 6
  · rw [if_pos h1]
    have h2 := h (by rw [h1]; rfl)
    intro w hw
    rcases List.mem_cons.1 hw with rfl | hw
    · exact hv _
    rcases List.mem_cons.1 hw with rfl | hw
    · exact h2
    exact polWords_signs _ _ _ _ _ _ w hw
  rw [if_neg h1]
  by_cases h1 : x.k = 7
  · rw [if_pos h1]
    have h2 := h (by rw [h1]; rfl)
    simp only [List.mem_cons, List.mem_nil_iff, or_false]
    rintro w (rfl | rfl)
    all_goals first | exact hv _ | exact h2
  rw [if_neg h1]
  simp only [List.mem_cons, List.mem_nil_iff, or_false]
  rintro w rfl
  exact hv _
theorem lineWs_ne (x : Cl) : lineWs x ≠ [] := by
  unfold lineWs
  repeat' split
  all_goals simp
theorem cut_line {x : Cl} (h : namedK x.k = true → (32 : UInt8) ∉ x.id.data.toList) : cutW 32 (joinS 32 (lineWs x)) = lineWs x := cut_join 32 _ (lineWs_ne x) (lineWs_no h)
theorem words_line {x : Cl} (h : namedK x.k = true → (32 : UInt8) ∉ x.id.data.toList) : wordsB 32 (lineB x) = (lineWs x).map fun l => (⟨l.toArray⟩ : ByteArray) := by
  unfold wordsB
  rw [lineB_list, cut_line h]
theorem bytes_back (s : ByteArray) : (⟨s.data.toList.toArray⟩ : ByteArray) = s := by cases s; simp
theorem kind_of {x : Cl} (he : textE x = 0) : x.k = 1 ∨ x.k = 2 ∨ x.k = 3 ∨ x.k = 4 ∨ x.k = 5 ∨ x.k = 6 ∨ x.k = 7 ∨ x.k = 8 := by
  unfold textE at he
  split at he
  · omega
  · omega
theorem named_ok {x : Cl} (he : textE x = 0) (h : namedK x.k = true) : idOk x.id = true := by
  unfold textE at he
  split at he
  · omega
  · split at he
    · omega
    · rename_i h2
      cases hi : idOk x.id
      · exact absurd ⟨h, hi⟩ h2
      · rfl
theorem line_bare (x : Cl) : lineB (bareC x) = lineB x := by
  unfold lineB
  congr 2
  unfold bareC
  by_cases h1 : x.k = 1
  · rw [if_pos h1]; simp [lineWs, h1]
  by_cases h2 : x.k = 2
  · rw [if_neg h1, if_pos h2]; simp [lineWs, h2]
  by_cases h4 : x.k = 4
  · rw [if_neg h1, if_neg h2, if_pos h4]; simp [lineWs, h4]
  by_cases h5 : x.k = 5
  · rw [if_neg h1, if_neg h2, if_neg h4, if_pos h5]; simp [lineWs, h5]
  by_cases h6 : x.k = 6
  · rw [if_neg h1, if_neg h2, if_neg h4, if_neg h5, if_pos h6]; simp [lineWs, h6]
  by_cases h7 : x.k = 7
  · rw [if_neg h1, if_neg h2, if_neg h4, if_neg h5, if_neg h6, if_pos h7]; simp [lineWs, h7]
  rw [if_neg h1, if_neg h2, if_neg h4, if_neg h5, if_neg h6, if_neg h7]
  simp [lineWs, h1, h2, h4, h5, h6, h7]
theorem bare_k (x : Cl) : (bareC x).k = x.k := by
  unfold bareC
  repeat' split
  all_goals first | rfl | (simp only; omega)
theorem bare_id {x : Cl} (h : namedK x.k = true) : (bareC x).id = x.id := by
  unfold bareC
  have hor : x.k = 1 ∨ x.k = 5 ∨ x.k = 6 ∨ x.k = 7 := by
    unfold namedK at h
    simpa using h
  rcases hor with h1 | h1 | h1 | h1 <;> simp [h1]
theorem told_bare {x : Cl} (he : textE x = 0) : toldC (bareC x) (lineB x) = (bareC x, 0) := by
  unfold toldC
  rw [if_pos (line_bare x), if_neg]
  rw [bare_k]
  rintro ⟨h1, h2⟩
  rw [bare_id h1, named_ok he h1] at h2
  cases h2
theorem decB_mk (n : Int) : (⟨(Lib.itoa n).toArray⟩ : ByteArray) = decB n := rfl
theorem vbB_mk (k : Nat) : (⟨(vbS k).toArray⟩ : ByteArray) = vbB k := rfl
theorem readW_in {n : Int} (h : In64 n) : readW (decB n) = some n := readW_dec h.1 h.2
theorem parse_line {x : Cl} (hx : x.ok) (he : textE x = 0) : parseC (lineB x) = (bareC x, 0) := by
  have hw := words_line (x := x) fun h => letter_no (named_ok he h)
  obtain ⟨g1, g2, g3, g4, ⟨p1, p2, p3, p4, p5, p6⟩, _⟩ := hx
  rw [← told_bare he]
  have key : ∀ k : Nat, 1 ≤ k → k ≤ 8 → ∀ r : List ByteArray, wordsB 32 (lineB x) = vbB k :: r → readC k (vbB k :: r) = some (bareC x) → parseC (lineB x) = toldC (bareC x) (lineB x) := by
    intro k h1 h8 r hr hc
    have hk : kindW (headW (wordsB 32 (lineB x))) = k := by rw [hr]; exact kindW_vb k h1 h8
    exact parseC_told (by omega) (by rw [hk, hr]; exact hc)
  rcases kind_of he with h1 | h1 | h1 | h1 | h1 | h1 | h1 | h1
  · refine key 1 (by omega) (by omega) [x.id, decB x.tick, decB x.value] (by rw [hw]; simp [lineWs, h1, vbB_mk, decB_mk, bytes_back]) ?_
    simp [readC, readW_in g2, readW_in g3, bareC, h1]
  · refine key 2 (by omega) (by omega) [decB x.tick] (by rw [hw]; simp [lineWs, h1, vbB_mk, decB_mk, bytes_back]) ?_
    simp [readC, readW_in g2, bareC, h1]
  · refine key 3 (by omega) (by omega) [] (by rw [hw]; simp [lineWs, h1, vbB_mk, decB_mk, bytes_back]) ?_
    simp [readC, bareC, h1]
  · refine key 4 (by omega) (by omega) [decB x.handle] (by rw [hw]; simp [lineWs, h1, vbB_mk, decB_mk, bytes_back]) ?_
    simp [readC, readW_in g4, bareC, h1]
  · refine key 5 (by omega) (by omega) [decB x.handle, x.id, decB x.tick, decB x.value] (by rw [hw]; simp [lineWs, h1, vbB_mk, decB_mk, bytes_back]) ?_
    simp [readC, readW_in g2, readW_in g3, readW_in g4, bareC, h1]
  · refine key 6 (by omega) (by omega) [x.id, ⟨(nmP 0).toArray⟩, decB x.a, ⟨(nmP 1).toArray⟩, decB x.b, ⟨(nmP 2).toArray⟩, decB x.c, ⟨(nmP 3).toArray⟩, decB x.d, ⟨(nmP 4).toArray⟩, decB x.e, ⟨(nmP 5).toArray⟩, decB x.f] (by rw [hw]; simp [lineWs, h1, vbB_mk, decB_mk, bytes_back, polWords]) ?_
    simp [readC, readW_in p1, readW_in p2, readW_in p3, readW_in p4, readW_in p5, readW_in p6, bareC, h1]
  · refine key 7 (by omega) (by omega) [x.id] (by rw [hw]; simp [lineWs, h1, vbB_mk, decB_mk, bytes_back]) ?_
    simp [readC, bareC, h1]
  · refine key 8 (by omega) (by omega) [] (by rw [hw]; simp [lineWs, h1, vbB_mk, decB_mk, bytes_back]) ?_
    simp [readC, bareC, h1]
/-- what was read in form, told -/
theorem told_text {s : ByteArray} {x y : Cl} {k : Nat} (hc : readC k (wordsB 32 s) = some x) (h : toldC x s = (y, 0)) : y = x ∧ lineB x = s := by
  unfold toldC at h
  split at h
  · rename_i h1
    split at h
    · cases h
    · injection h with h2 _
      exact ⟨h2.symm, h1⟩
  · cases h
end Go.Fw
