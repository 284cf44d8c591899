/-
  SchedParts in plain Lean: a run of some picks, and one of the others behind it. Condition: none.
-/
import Derived.Test.YtenjhklkljeijaaSchPlain
namespace Go.Fw
open Go.RowKit
set_option linter.unusedVariables false
def runY := runW fun _ => true
theorem runY_no {u : Int} {ts : List Toy} {st : List Int} {n : Nat} {p : Int} {r : List Int} (h : nextL ts u p < 0) : runY u ts st n (p :: r) = (n, st, ts) := by unfold runY; rw [runW, if_pos h]
theorem runY_yes {u : Int} {ts : List Toy} {st : List Int} {n b : Nat} {p : Int} {r : List Int} (h : nextL ts u p = b) (hb : b < ts.length) (hs : b < st.length) :
    runY u ts st n (p :: r) = runY (u + 1) (ts.set b (toyStep ts[b])) (st.set b (st[b] + 1)) (n + 1) r := by
  have e := runW_on (go := fun _ => true) (u := u) (ts := ts) (st := st) (n := n) (ps := p :: r) (k := 0) (b := b) (by simp) h hb hs rfl
  simpa [runY] using e
theorem runY_split (q : List Int) (p : List Int) : ∀ (u : Int) (ts : List Toy) (st : List Int) (n : Nat), st.length = ts.length →
    ((runY u ts st n p).1 < n + p.length → runY u ts st n (p ++ q) = runY u ts st n p) ∧
    ((runY u ts st n p).1 = n + p.length → runY u ts st n (p ++ q) = runY (u + (p.length : Nat)) (runY u ts st n p).2.2 (runY u ts st n p).2.1 (n + p.length) q) ∧ (runY u ts st n p).1 ≤ n + p.length := by
  induction p with
  | nil =>
    intro u ts st n h
    refine ⟨fun hlt => by simp [runY, runW] at hlt, fun _ => by simp [runY, runW], by simp [runY, runW]⟩
  | cons x r ih =>
    intro u ts st n h
    rcases nextL_cases ts u x with hc | ⟨b, hb, hc, _⟩
    · have hlt : nextL ts u x < 0 := by omega
      rw [List.cons_append, runY_no hlt, runY_no hlt]
      refine ⟨fun _ => rfl, fun he => ?_, by simp⟩
      simp at he
    · have hs : b < st.length := by omega
      rw [List.cons_append, runY_yes hc hb hs, runY_yes hc hb hs]
      obtain ⟨h1, h2, h3⟩ := ih (u + 1) (ts.set b (toyStep ts[b])) (st.set b (st[b] + 1)) (n + 1) (by simp [h])
      refine ⟨fun hlt => h1 (by simp only [List.length_cons] at hlt; omega), fun he => ?_, by simp only [List.length_cons]; omega⟩
      have := h2 (by simp only [List.length_cons] at he; omega)
      rw [this]
      have e1 : u + 1 + ((r.length : Nat) : Int) = u + (((x :: r).length : Nat) : Int) := by simp only [List.length_cons]; omega
      have e2 : n + 1 + r.length = n + (x :: r).length := by simp only [List.length_cons]; omega
      rw [e1, e2]
def addL (a b : List Int) : List Int := List.zipWith (· + ·) a b
theorem addL_set {a b : List Int} {i : Nat} (h : a.length = b.length) (hi : i < b.length) (hi' : i < (addL a b).length) : (addL a b).set i ((addL a b)[i] + 1) = addL a (b.set i (b[i] + 1)) := by
  apply List.ext_getElem
  · simp [addL]
  · intro j h1 h2
    have hj : j < b.length := by simp [addL] at h2; omega
    rw [List.getElem_set]
    simp only [addL, List.getElem_zipWith, List.getElem_set]
    split
    · rename_i e; subst e; omega
    · rfl
theorem addL_length {a b : List Int} (h : a.length = b.length) : (addL a b).length = b.length := by simp [addL]; omega
theorem addL_zero {a : List Int} {n : Nat} (h : a.length = n) : addL a (List.replicate n 0) = a := by
  apply List.ext_getElem
  · simp [addL]; omega
  · intro j h1 h2; simp [addL]
theorem runY_shift (a : List Int) (ps : List Int) : ∀ (u : Int) (ts : List Toy) (b : List Int) (n m : Nat), a.length = b.length → b.length = ts.length →
    runY u ts (addL a b) (n + m) ps = (n + (runY u ts b m ps).1, addL a (runY u ts b m ps).2.1, (runY u ts b m ps).2.2) := by
  induction ps with
  | nil => intro u ts b n m _ _; rfl
  | cons p r ih =>
    intro u ts b n m h1 h2
    rcases nextL_cases ts u p with hc | ⟨i, hi, hc, _⟩
    · have hlt : nextL ts u p < 0 := by omega
      rw [runY_no hlt, runY_no hlt]
    · have hb : i < b.length := by omega
      have ha : i < (addL a b).length := by rw [addL_length h1]; exact hb
      rw [runY_yes hc hi ha, runY_yes hc hi hb, addL_set h1 hb ha, show n + m + 1 = n + (m + 1) by omega]
      exact ih _ _ _ _ _ (by simp [h1]) (by simp [h2])
def sumL : List Int → Int
  | [] => 0
  | x :: r => x + sumL r
theorem sumL_app (a b : List Int) : sumL (a ++ b) = sumL a + sumL b := by
  induction a with
  | nil => simp [sumL]
  | cons x a ih => simp only [List.cons_append, sumL, ih]; omega
theorem sumL_take {l : List Int} {k : Nat} (hk : k < l.length) : sumL (l.take (k + 1)) = sumL (l.take k) + l[k] := by
  rw [List.take_succ_eq_append_getElem hk, sumL_app]
  simp [sumL]
theorem sumL_set {ls : List Int} {b : Nat} (hb : b < ls.length) : sumL (ls.set b (ls[b] + 1)) = sumL ls + 1 := by
  induction ls generalizing b with
  | nil => simp at hb
  | cons x r ih =>
    obtain _ | b := b
    · simp [sumL]; omega
    · have := ih (b := b) (by simpa using hb)
      simp only [List.set_cons_succ, sumL, List.getElem_cons_succ, this]
      omega
theorem sumL_zero (n : Nat) : sumL (List.replicate n 0) = 0 := by
  induction n with
  | zero => rfl
  | succ n ih => rw [List.replicate_succ, sumL, ih]; rfl
theorem runY_sum (ps : List Int) : ∀ (u : Int) (ts : List Toy) (st : List Int) (n : Nat), st.length = ts.length → sumL st = n → sumL (runY u ts st n ps).2.1 = ((runY u ts st n ps).1 : Int) := by
  induction ps with
  | nil => intro u ts st n _ h; exact h
  | cons p r ih =>
    intro u ts st n h1 h2
    rcases nextL_cases ts u p with hc | ⟨b, hb, hc, _⟩
    · rw [runY_no (by omega)]; exact h2
    · have hs : b < st.length := by omega
      rw [runY_yes hc hb hs]
      exact ih _ _ _ _ (by simp [h1]) (by rw [sumL_set hs, h2]; omega)
/-- a whole run, and its parts: k picks first -/
theorem parts_all {ts : List Toy} {n k : Nat} {ps : List Int} (hn : n = ts.length) (hk : k ≤ ps.length) :
    (runY 0 ts (List.replicate n 0) 0 (ps.take k)).1 ≤ k ∧
    ((runY 0 ts (List.replicate n 0) 0 (ps.take k)).1 < k → (runY 0 ts (List.replicate n 0) 0 ps).1 = (runY 0 ts (List.replicate n 0) 0 (ps.take k)).1) ∧
    ((runY 0 ts (List.replicate n 0) 0 (ps.take k)).1 = k → (runY 0 ts (List.replicate n 0) 0 (ps.take k)).2.1.length = n → (runY 0 ts (List.replicate n 0) 0 (ps.take k)).2.2.length = n →
      (runY 0 ts (List.replicate n 0) 0 ps).1 = k + (runY (0 + (k : Int)) (runY 0 ts (List.replicate n 0) 0 (ps.take k)).2.2 (List.replicate n 0) 0 (ps.drop k)).1 ∧
      (runY 0 ts (List.replicate n 0) 0 ps).2.1 = addL (runY 0 ts (List.replicate n 0) 0 (ps.take k)).2.1 (runY (0 + (k : Int)) (runY 0 ts (List.replicate n 0) 0 (ps.take k)).2.2 (List.replicate n 0) 0 (ps.drop k)).2.1) ∧
    sumL (runY 0 ts (List.replicate n 0) 0 ps).2.1 = ((runY 0 ts (List.replicate n 0) 0 ps).1 : Int) := by
  have hl : (ps.take k).length = k := by rw [List.length_take]; omega
  obtain ⟨h1, h2, h3⟩ := runY_split (ps.drop k) (ps.take k) 0 ts (List.replicate n 0) 0 (by simp [hn])
  rw [List.take_append_drop, hl, Nat.zero_add] at h1 h2
  rw [hl, Nat.zero_add] at h3
  refine ⟨h3, fun h => by rw [h1 h], fun h g1 g2 => ?_, runY_sum ps 0 ts _ 0 (by simp [hn]) (sumL_zero n)⟩
  have e := h2 h
  generalize runY 0 ts (List.replicate n 0) 0 (ps.take k) = a at *
  have hs := runY_shift a.2.1 (ps.drop k) (0 + (k : Int)) a.2.2 (List.replicate n 0) k 0 (by simp [g1]) (by simp [g2])
  rw [addL_zero g1, Nat.add_zero] at hs
  rw [e, hs]
  exact ⟨rfl, rfl⟩
theorem addL_get {a b : List Int} {k : Nat} (h : k < (addL a b).length) (h1 : k < a.length) (h2 : k < b.length) : (addL a b)[k] = a[k] + b[k] := by simp [addL]
theorem Reads.take {w : World} {B n k : Nat} {A : Option Addr} {xs : List Value} (h : Reads w B 1 A n xs) (hk : k ≤ n) : Reads w B 1 A k (xs.take k) := by
  refine ⟨by rw [List.length_take, h.1]; omega, fun h0 => ?_⟩
  obtain ⟨ad, e, hb, hc⟩ := h.2 (by omega)
  refine ⟨ad, e, hb, fun j u hu => hc j u ?_⟩
  rw [List.getElem?_take] at hu
  split at hu
  · exact hu
  · cases hu
end Go.Fw
