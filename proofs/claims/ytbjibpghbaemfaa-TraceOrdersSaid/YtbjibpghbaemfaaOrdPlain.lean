/-
  The calls of a task in a trace that may be, in their order. Condition: none.
-/
import Derived.Test.YtbjibpghbaemfaaOnePlain
import Derived.Test.YtbjibpghbaemfaaFind2
namespace Go.Fw
open Go.RowKit
set_option linter.unusedVariables false
set_option linter.unusedSimpArgs false
/-- where the calls of a task are, as far as a trace went -/
structure Ordr (x : List Ev) (t : Int) (k : Nat) (s : Tr) (C : Nat) : Prop where
  last : 0 ≤ s.last ∧ s.last ≤ 7
  none_ : (s.last = 0 ∨ 4 ≤ s.last) → C = 0 ∧ s.nth = 0
  some_ : (1 ≤ s.last ∧ s.last ≤ 3) → (C : Int) = s.nth + 1 ∧ 0 < C
  far : ∀ m : Int, (m < 0 ∨ (C : Int) ≤ m) → lastI x 1 t m k = -1 ∧ lastI x 2 t m k = -1 ∧ lastI x 3 t m k = -1
  full : ∀ j : Nat, j + 1 < C → 0 ≤ lastI x 1 t j k ∧ lastI x 1 t j k < lastI x 2 t j k ∧ lastI x 2 t j k < lastI x 3 t j k ∧ lastI x 3 t j k < lastI x 1 t ((j + 1 : Nat) : Int) k
  cur : ∀ j : Nat, j + 1 = C → 0 ≤ lastI x 1 t j k ∧ lastI x 1 t j k < k ∧ (s.last = 1 → lastI x 2 t j k = -1 ∧ lastI x 3 t j k = -1) ∧ (s.last = 2 → lastI x 1 t j k < lastI x 2 t j k ∧ lastI x 2 t j k < k ∧ lastI x 3 t j k = -1) ∧
    (s.last = 3 → lastI x 1 t j k < lastI x 2 t j k ∧ lastI x 2 t j k < lastI x 3 t j k ∧ lastI x 3 t j k < k)
theorem Ordr.zero (x : List Ev) (t : Int) : Ordr x t 0 Tr.zero 0 :=
  ⟨by simp [Tr.zero], fun _ => ⟨rfl, rfl⟩, fun h => by simp [Tr.zero] at h, fun _ _ => ⟨rfl, rfl, rfl⟩, fun j h => by omega, fun j h => by omega⟩
theorem Ordr.other {x : List Ev} {t : Int} {k : Nat} {s : Tr} {C : Nat} (h : Ordr x t k s C) (hk : k < x.length) (ht : x[k].task ≠ t) : Ordr x t (k + 1) s C := by
  have e : ∀ kd m, lastI x kd t m (k + 1) = lastI x kd t m k := fun kd m => by
    rw [lastI_succ kd t m hk]
    have : hit x[k] kd t m = false := by simp [hit, ht]
    rw [this]
    rfl
  refine ⟨h.last, h.none_, h.some_, fun m hm => by rw [e, e, e]; exact h.far m hm, fun j hj => by rw [e, e, e, e]; exact h.full j hj, fun j hj => ?_⟩
  rw [e, e, e]
  obtain ⟨h1, h2, h3, h4, h5⟩ := h.cur j hj
  refine ⟨h1, by omega, h3, fun hl => ?_, fun hl => ?_⟩
  · have := h4 hl; omega
  · have := h5 hl; omega
theorem Ordr.step {x : List Ev} {t : Int} {k : Nat} {s : Tr} {C : Nat} (h : Ordr x t k s C) (hk : k < x.length) (ht : x[k].task = t) (ho : s.ok x[k] = true) :
    Ordr x t (k + 1) (s.next x[k]) (if x[k].kind = 1 then C + 1 else C) ∧ (x[k].kind = 1 → x[k].nth = (C : Int)) := by
  have e : ∀ kd m, lastI x kd t m (k + 1) = if x[k].kind = kd ∧ x[k].nth = m then (k : Int) else lastI x kd t m k := fun kd m => by
    rw [lastI_succ kd t m hk]
    by_cases hc : x[k].kind = kd ∧ x[k].nth = m
    · rw [if_pos hc, if_pos (by simp [hit, ht, hc.1, hc.2])]
    · rw [if_neg hc, if_neg]
      simp only [hit, Bool.and_eq_true, beq_iff_eq]
      exact fun hh => hc ⟨hh.1.1, hh.2⟩
  generalize x[k] = ev at *
  unfold Tr.ok Tr.is at ho
  have hlast := h.last
  have hn := h.none_
  have hs := h.some_
  rcases kindCases ev.kind with hkd | hkd | hkd | hkd | hkd | hkd | hkd | ⟨k1, k2, k3, k4, k5, k6, k7⟩
  · -- called
    simp [hkd, Tr.next] at ho
    obtain ⟨hl, hnth, _⟩ := ho
    have hC : ev.nth = (C : Int) := by
      rcases hl with hl | hl
      · rw [hnth, if_neg (by omega)]
        have := hn (.inl hl)
        omega
      · rw [hnth, if_pos hl]
        have := hs (by omega)
        omega
    rw [if_pos hkd]
    refine ⟨⟨by simp [Tr.next, hkd], fun hh => by simp [Tr.next, hkd] at hh, fun _ => ?_, fun m hm => ?_, fun j hj => ?_, fun j hj => ?_⟩, fun _ => hC⟩
    · simp only [Tr.next, hkd]
      constructor
      · rcases hl with hl | hl
        · have := hn (.inl hl); rw [if_neg (by omega)]; omega
        · have := hs (by omega); rw [if_pos ⟨by trivial, hl⟩]; omega
      · omega
    · have := h.far m (by omega)
      rw [e, e, e, if_neg (by omega), if_neg (by omega), if_neg (by omega)]
      exact this
    · rw [e, e, e, e, if_neg (by omega), if_neg (by omega), if_neg (by omega)]
      by_cases hj2 : j + 1 < C
      · rw [if_neg (by omega)]
        exact h.full j hj2
      · have hjc : j + 1 = C := by omega
        rw [if_pos (by omega)]
        have h3 : s.last = 3 := by
          rcases hl with hl | hl
          · have := hn (.inl hl); omega
          · exact hl
        obtain ⟨q1, q2, _, _, q5⟩ := h.cur j hjc
        have := q5 h3
        omega
    · obtain rfl : j = C := by omega
      rw [e, e, e, if_pos ⟨hkd, hC⟩, if_neg (by omega), if_neg (by omega)]
      have := h.far (j : Int) (.inr (Int.le_refl _))
      refine ⟨by omega, by omega, fun _ => ⟨this.2.1, this.2.2⟩, fun hh => ?_, fun hh => ?_⟩
      · simp [Tr.next, hkd] at hh
      · simp [Tr.next, hkd] at hh
  · -- done
    simp [hkd, Tr.next] at ho
    obtain ⟨hl, hnth, _⟩ := ho
    have hC := hs (by omega)
    rw [if_neg (by omega)]
    refine ⟨⟨by simp [Tr.next, hkd], fun hh => by simp [Tr.next, hkd] at hh, fun _ => by simp [Tr.next, hkd]; exact hC, fun m hm => ?_, fun j hj => ?_, fun j hj => ?_⟩, fun hh => by omega⟩
    · have := h.far m (by omega)
      rw [e, e, e, if_neg (by omega), if_neg (by omega), if_neg (by omega)]
      exact this
    · rw [e, e, e, e, if_neg (by omega), if_neg (by omega), if_neg (by omega), if_neg (by omega)]
      exact h.full j hj
    · obtain ⟨q1, q2, q3, _, _⟩ := h.cur j hj
      have := q3 hl
      rw [e, e, e, if_neg (by omega), if_pos (by omega), if_neg (by omega)]
      refine ⟨q1, by omega, fun hh => by simp [Tr.next, hkd] at hh, fun _ => by omega, fun hh => by simp [Tr.next, hkd] at hh⟩
  · -- returned
    simp [hkd, Tr.next] at ho
    obtain ⟨hl, hnth, _⟩ := ho
    have hC := hs (by omega)
    rw [if_neg (by omega)]
    refine ⟨⟨by simp [Tr.next, hkd], fun hh => by simp [Tr.next, hkd] at hh, fun _ => by simp [Tr.next, hkd]; exact hC, fun m hm => ?_, fun j hj => ?_, fun j hj => ?_⟩, fun hh => by omega⟩
    · have := h.far m (by omega)
      rw [e, e, e, if_neg (by omega), if_neg (by omega), if_neg (by omega)]
      exact this
    · rw [e, e, e, e, if_neg (by omega), if_neg (by omega), if_neg (by omega), if_neg (by omega)]
      exact h.full j hj
    · obtain ⟨q1, q2, _, q4, _⟩ := h.cur j hj
      have := q4 hl
      rw [e, e, e, if_neg (by omega), if_neg (by omega), if_pos (by omega)]
      refine ⟨q1, by omega, fun hh => by simp [Tr.next, hkd] at hh, fun hh => by simp [Tr.next, hkd] at hh, fun _ => by omega⟩
  all_goals try
    have hC := hn (by simp [hkd, Tr.next] at ho; omega)
    have hl4 : 4 ≤ ev.kind ∧ ev.kind ≤ 7 := by omega
    rw [if_neg (by omega)]
    refine ⟨⟨by simp only [Tr.next]; omega, fun _ => ⟨hC.1, by simp only [Tr.next]; rw [if_neg (by omega)]; exact hC.2⟩, fun hh => by simp only [Tr.next] at hh; omega, fun m hm => ?_, fun j hj => by omega, fun j hj => by omega⟩, fun hh => by omega⟩
    rw [e, e, e, if_neg (by omega), if_neg (by omega), if_neg (by omega)]
    exact h.far m hm
  · simp [k1, k2, k3, k4, k5, k6, k7] at ho
/-- the calls of a task -/
def callsOf (t : Int) (l : List Ev) : List Ev := (l.filter fun x => x.task == t).filter fun x => x.kind == 1
theorem callsOf_snoc (t : Int) (l : List Ev) (x : Ev) : callsOf t (l ++ [x]) = if x.task = t ∧ x.kind = 1 then callsOf t l ++ [x] else callsOf t l := by
  unfold callsOf
  rw [List.filter_append, List.filter_append]
  by_cases h1 : x.task = t
  · by_cases h2 : x.kind = 1
    · simp [h1, h2]
    · simp [h1, h2]
  · simp [h1]
theorem rightF_take : ∀ (l : List Ev) (tr : Int → Tr) (k : Nat) (hk : k < l.length), rightF tr l = true → ∃ tr', rightF tr (l.take k) = true ∧ (∀ t, tr' t = ((l.take k).foldl stepF tr) t) ∧ goodB tr' l[k] = true
  | [], _, k, hk, _ => by simp at hk
  | x :: r, tr, 0, _, h => by
    simp only [rightF, Bool.and_eq_true] at h
    exact ⟨tr, rfl, fun _ => rfl, h.1⟩
  | x :: r, tr, k + 1, hk, h => by
    simp only [rightF, Bool.and_eq_true] at h
    obtain ⟨tr', h1, h2, h3⟩ := rightF_take r (stepF tr x) k (by simpa using hk) h.2
    exact ⟨tr', by simp [rightF, h.1, h1], fun t => by rw [h2 t]; rfl, by simpa using h3⟩
theorem order_at (l : List Ev) (t : Int) (hr : rightP l = true) : ∀ k, k ≤ l.length → Ordr l t k (((l.take k).foldl stepF fun _ => Tr.zero) t) (callsOf t (l.take k)).length ∧ ∀ (j : Nat) (hj : j < (callsOf t (l.take k)).length), ((callsOf t (l.take k))[j]).nth = (j : Int)
  | 0, _ => by simpa [callsOf] using Ordr.zero l t
  | k + 1, hk => by
    obtain ⟨h1, h2⟩ := order_at l t hr k (by omega)
    obtain ⟨tr', _, h4, h5⟩ := rightF_take l _ k (by omega) hr
    have hs : l.take (k + 1) = l.take k ++ [l[k]] := List.take_succ_eq_append_getElem (by omega)
    rw [hs, List.foldl_append, List.foldl_cons, List.foldl_nil, callsOf_snoc]
    have hf : ∀ q, ((l.take k).foldl stepF fun _ => Tr.zero) q = tr' q := fun q => (h4 q).symm
    have hstep : stepF ((l.take k).foldl stepF fun _ => Tr.zero) l[k] t = if t = l[k].task then (((l.take k).foldl stepF fun _ => Tr.zero) t).next l[k] else ((l.take k).foldl stepF fun _ => Tr.zero) t := by
      unfold stepF
      split
      · rename_i e; rw [← e]
      · rfl
    rw [hstep]
    unfold goodB at h5
    simp only [Bool.and_eq_true] at h5
    by_cases ht : l[k].task = t
    · rw [if_pos ht.symm]
      have hok : (((l.take k).foldl stepF fun _ => Tr.zero) t).ok l[k] = true := by rw [hf, ← ht]; exact h5.2
      obtain ⟨g1, g2⟩ := h1.step (by omega) ht hok
      by_cases hkd : l[k].kind = 1
      · rw [if_pos ⟨ht, hkd⟩]
        rw [if_pos hkd] at g1
        refine ⟨by simpa using g1, fun j hj => ?_⟩
        by_cases hjl : j < (callsOf t (l.take k)).length
        · rw [List.getElem_append_left hjl]; exact h2 j hjl
        · have hje : j = (callsOf t (l.take k)).length := by simp at hj; omega
          subst hje
          simp
          exact g2 hkd
      · rw [if_neg (fun hh => hkd hh.2)]
        rw [if_neg hkd] at g1
        exact ⟨g1, h2⟩
    · rw [if_neg (fun e => ht e.symm), if_neg (fun hh => ht hh.1)]
      exact ⟨h1.other (by omega) ht, h2⟩
/-- each call of a task in a trace that may be: which it is, and where -/
def wasOf (l : List Ev) (t : Int) (i : Nat) : Int := if i = 0 then -1 else max (lastI l 1 t ((i - 1 : Nat) : Int) l.length) (max (lastI l 2 t ((i - 1 : Nat) : Int) l.length) (lastI l 3 t ((i - 1 : Nat) : Int) l.length))
theorem order_all (l : List Ev) (t : Int) (hr : rightP l = true) (i : Nat) (hi : i < (callsOf t l).length) :
    (callsOf t l)[i].nth = (i : Int) ∧ wasOf l t i < lastI l 1 t i l.length ∧ (0 ≤ lastI l 2 t i l.length → lastI l 1 t i l.length < lastI l 2 t i l.length) ∧ (0 ≤ lastI l 3 t i l.length → 0 ≤ lastI l 2 t i l.length ∧ lastI l 2 t i l.length < lastI l 3 t i l.length) := by
  obtain ⟨h1, h2⟩ := order_at l t hr l.length (Nat.le_refl _)
  rw [List.take_length] at h1 h2
  refine ⟨h2 i hi, ?_, ?_⟩
  · unfold wasOf
    by_cases h0 : i = 0
    · rw [if_pos h0]
      subst h0
      by_cases hc : 0 + 1 < (callsOf t l).length
      · have := h1.full 0 hc; omega
      · have := h1.cur 0 (by omega); omega
    · rw [if_neg h0]
      have := h1.full (i - 1) (by omega)
      rw [show i - 1 + 1 = i by omega] at this
      omega
  · by_cases hc : i + 1 < (callsOf t l).length
    · have := h1.full i hc
      exact ⟨fun _ => by omega, fun _ => by omega⟩
    · obtain ⟨q1, q2, q3, q4, q5⟩ := h1.cur i (by omega)
      have hl := h1.last
      have hn := h1.none_
      generalize ((l.foldl stepF fun _ => Tr.zero) t).last = la at *
      have : la = 1 ∨ la = 2 ∨ la = 3 := by
        rcases Int.lt_or_le la 1 with h | h
        · have := hn (by omega); omega
        · rcases Int.lt_or_le 3 la with h' | h'
          · have := hn (by omega); omega
          · omega
      rcases this with h | h | h
      · have := q3 h; exact ⟨fun _ => by omega, fun _ => by omega⟩
      · have := q4 h; exact ⟨fun _ => by omega, fun _ => by omega⟩
      · have := q5 h; exact ⟨fun _ => by omega, fun _ => by omega⟩
end Go.Fw
