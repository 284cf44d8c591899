/-
  Whether a trace may be: the program's map of tracks and the reference's way, task by task, come to the same. Condition: none.
-/
import Derived.Test.YtbjibpghbaemfaaRight
namespace Go.Fw
set_option linter.unusedVariables false
set_option linter.unusedSimpArgs false
/-- the reference's own step: what stood last is the event ahead -/
def Tr.rnext (t : Tr) (x : Ev) : Tr := ⟨if x.kind = 1 ∧ t.last = 3 then t.nth + 1 else t.nth, x.kind, x.hi, x.lo⟩
def Tr.rok (t : Tr) (x : Ev) : Bool :=
  x.nth == (t.rnext x).nth && (!(decide (1 ≤ x.kind) && decide (x.kind ≤ 3) && !(x.hi == 0 && x.lo == 0)) && (!(decide (5 ≤ x.kind) && !(x.hi == t.hi && x.lo == t.lo)) && t.is x))
def oneF : Tr → List Ev → Bool
  | _, [] => true
  | t, x :: r => t.rok x && oneF (t.rnext x) r
def trackF : Tr → List Ev → Bool
  | _, [] => true
  | t, x :: r => t.ok x && trackF (t.next x) r
def Tr.Inv (t : Tr) : Prop := (t.last = 0 ∨ t.last = 1 ∨ t.last = 2 ∨ t.last = 3) → t.hi = 0 ∧ t.lo = 0
theorem kindCases (n : Int) : n = 1 ∨ n = 2 ∨ n = 3 ∨ n = 4 ∨ n = 5 ∨ n = 6 ∨ n = 7 ∨ (n ≠ 1 ∧ n ≠ 2 ∧ n ≠ 3 ∧ n ≠ 4 ∧ n ≠ 5 ∧ n ≠ 6 ∧ n ≠ 7) := by omega
theorem Tr.same_ok {t : Tr} (h : t.Inv) (x : Ev) : t.ok x = t.rok x := by
  unfold Tr.Inv at h
  rw [Bool.eq_iff_iff]
  unfold Tr.ok Tr.rok Tr.next Tr.rnext Tr.is
  rcases kindCases x.kind with hk | hk | hk | hk | hk | hk | hk | ⟨k1, k2, k3, k4, k5, k6, k7⟩
  · simp [hk]
    constructor
    · rintro ⟨hl, hn, ha, hb⟩
      have := h (by omega)
      refine ⟨hn, ⟨by omega, by omega⟩, hl⟩
    · rintro ⟨hn, ⟨ha, hb⟩, hl⟩
      have := h (by omega)
      exact ⟨hl, hn, by omega, by omega⟩
  · simp [hk]
    constructor
    · rintro ⟨hl, hn, ha, hb⟩
      have := h (by omega)
      refine ⟨hn, ⟨by omega, by omega⟩, hl⟩
    · rintro ⟨hn, ⟨ha, hb⟩, hl⟩
      have := h (by omega)
      exact ⟨hl, hn, by omega, by omega⟩
  · simp [hk]
    constructor
    · rintro ⟨hl, hn, ha, hb⟩
      have := h (by omega)
      refine ⟨hn, ⟨by omega, by omega⟩, hl⟩
    · rintro ⟨hn, ⟨ha, hb⟩, hl⟩
      have := h (by omega)
      exact ⟨hl, hn, by omega, by omega⟩
  · simp [hk, and_comm]
  · simp [hk, and_comm, and_left_comm, and_assoc]
  · simp [hk, and_comm, and_left_comm, and_assoc]
  · simp [hk, and_comm, and_left_comm, and_assoc]
  · simp [k1, k2, k3, k4, k5, k6, k7]
theorem Tr.same_next {t : Tr} {x : Ev} (h : t.ok x = true) : t.next x = t.rnext x := by
  unfold Tr.ok at h
  simp only [Bool.and_eq_true, beq_iff_eq] at h
  obtain ⟨_, _, ha, hb⟩ := h
  unfold Tr.rnext
  rw [ha, hb]
  rfl
theorem Tr.inv_next {t : Tr} (h : t.Inv) {x : Ev} (ho : t.ok x = true) : (t.next x).Inv := by
  unfold Tr.Inv at *
  intro hl
  unfold Tr.ok Tr.is at ho
  unfold Tr.next at hl ⊢
  simp only at hl ⊢
  rcases kindCases x.kind with hk | hk | hk | hk | hk | hk | hk | ⟨k1, k2, k3, k4, k5, k6, k7⟩
  · simp [hk] at ho ⊢; exact h (by omega)
  · simp [hk] at ho ⊢; exact h (by omega)
  · simp [hk] at ho ⊢; exact h (by omega)
  · omega
  · omega
  · omega
  · omega
  · simp [k1, k2, k3, k4, k5, k6, k7] at ho
theorem track_one : ∀ (l : List Ev) (t : Tr), t.Inv → trackF t l = oneF t l
  | [], _, _ => rfl
  | x :: r, t, h => by
    unfold trackF oneF
    rw [← Tr.same_ok h x]
    cases ho : t.ok x with
    | false => rfl
    | true => rw [Bool.true_and, Bool.true_and, ← Tr.same_next ho]; exact track_one r _ (Tr.inv_next h ho)
theorem right_iff : ∀ (l : List Ev) (tr : Int → Tr), rightF tr l = true ↔ (∀ x ∈ l, 0 ≤ x.task ∧ x.task < 32) ∧ ∀ t, trackF (tr t) (l.filter fun x => x.task == t) = true
  | [], tr => by simp [rightF, trackF]
  | x :: r, tr => by
    unfold rightF goodB
    rw [Bool.and_eq_true, Bool.and_eq_true, Bool.and_eq_true, right_iff r (stepF tr x)]
    simp only [decide_eq_true_eq, List.mem_cons, forall_eq_or_imp]
    constructor
    · rintro ⟨⟨⟨h1, h2⟩, h3⟩, h4, h5⟩
      refine ⟨⟨⟨h1, h2⟩, h4⟩, fun t => ?_⟩
      have h6 := h5 t
      unfold stepF at h6
      by_cases ht : t = x.task
      · subst ht
        rw [if_pos rfl] at h6
        simp [trackF, h3, h6]
      · rw [if_neg ht] at h6
        have : (x.task == t) = false := by simp; exact fun e => ht e.symm
        simp [this, h6]
    · rintro ⟨⟨⟨h1, h2⟩, h4⟩, h5⟩
      have h6 := h5 x.task
      simp only [List.filter_cons, beq_self_eq_true, if_true, trackF, Bool.and_eq_true] at h6
      refine ⟨⟨⟨h1, h2⟩, h6.1⟩, h4, fun t => ?_⟩
      unfold stepF
      by_cases ht : t = x.task
      · subst ht
        rw [if_pos rfl]
        exact h6.2
      · rw [if_neg ht]
        have h7 := h5 t
        have : (x.task == t) = false := by simp; exact fun e => ht e.symm
        simpa [this] using h7
/-- the reference's -/
def inB (x : Ev) : Bool := decide (0 ≤ x.task) && decide (x.task < 32)
def rrightP (l : List Ev) : Bool := l.all inB && (List.range 32).all fun t => oneF Tr.zero (l.filter fun x => x.task == (t : Int))
theorem right_same (l : List Ev) : rightP l = rrightP l := by
  have hz : Tr.zero.Inv := fun _ => ⟨rfl, rfl⟩
  rw [Bool.eq_iff_iff]
  unfold rightP rrightP
  rw [right_iff, Bool.and_eq_true, List.all_eq_true, List.all_eq_true]
  constructor
  · rintro ⟨h1, h2⟩
    refine ⟨fun x hx => by have := h1 x hx; simp [inB, this], fun t _ => ?_⟩
    rw [← track_one _ _ hz]
    exact h2 t
  · rintro ⟨h1, h2⟩
    have h3 : ∀ x ∈ l, 0 ≤ x.task ∧ x.task < 32 := fun x hx => by have := h1 x hx; simpa [inB] using this
    refine ⟨h3, fun t => ?_⟩
    by_cases ht : 0 ≤ t ∧ t < 32
    · have h4 := h2 t.toNat (by simp; omega)
      rw [track_one _ _ hz]
      rwa [show ((t.toNat : Nat) : Int) = t by omega] at h4
    · have he : (l.filter fun x => x.task == t) = [] := by
        rw [List.filter_eq_nil_iff]
        intro x hx
        have := h3 x hx
        simp
        omega
      rw [he]
      rfl
end Go.Fw
