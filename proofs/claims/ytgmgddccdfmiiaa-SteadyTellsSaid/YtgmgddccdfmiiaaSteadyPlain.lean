/-
  Chapter 15 in plain Lean: how long nothing changed, how often changes turned; there are fewer turns than changes. Condition: none.
-/
import Derived.Test.YtgmgddccdfmiiaaStruct
namespace Go.Fw
open Go.RowKit
set_option linter.unusedVariables false

/-- how often changes turned, from a number of replicas and a way on (0: none yet, 1: up, -1: down) -/
def tn : Int → Int → List Adv → Nat
  | _, _, [] => 0
  | p, w, a :: r => if a.reps = p then tn a.reps w r else if p < a.reps then (if w = -1 then 1 else 0) + tn a.reps 1 r else (if w = 1 then 1 else 0) + tn a.reps (-1) r
/-- how often they changed -/
def chg : Int → List Adv → Nat
  | _, [] => 0
  | p, a :: r => (if a.reps = p then 0 else 1) + chg a.reps r
def turnsL : List Adv → Nat
  | [] => 0
  | a :: r => tn a.reps 0 r
def changesL : List Adv → Nat
  | [] => 0
  | a :: r => chg a.reps r
theorem tn_le (r : List Adv) : ∀ p w, tn p w r ≤ chg p r := by
  induction r with
  | nil => intro p w; simp [tn, chg]
  | cons a r ih =>
    intro p w
    rw [tn, chg]
    by_cases h : a.reps = p
    · rw [if_pos h, if_pos h]; have := ih a.reps w; omega
    · rw [if_neg h, if_neg h]
      split
      · have := ih a.reps 1; split <;> omega
      · have := ih a.reps (-1); split <;> omega
theorem tn_lt (r : List Adv) : ∀ p, chg p r = 0 ∧ tn p 0 r = 0 ∨ tn p 0 r < chg p r := by
  induction r with
  | nil => intro p; exact .inl ⟨rfl, rfl⟩
  | cons a r ih =>
    intro p
    rw [tn, chg]
    by_cases h : a.reps = p
    · rw [if_pos h, if_pos h]; have := ih a.reps; omega
    · rw [if_neg h, if_neg h]
      split
      · have := tn_le r a.reps 1; right; simp; omega
      · have := tn_le r a.reps (-1); right; simp; omega
theorem turns_lt (l : List Adv) : changesL l = 0 ∧ turnsL l = 0 ∨ turnsL l < changesL l := by
  cases l with
  | nil => exact .inl ⟨rfl, rfl⟩
  | cons a r => exact tn_lt r a.reps
/-- the turns that are still to come at place k -/
theorem tn_step {l : List Adv} {k : Nat} (p w : Int) (hk : k < l.length) : tn p w (l.drop k) =
    if l[k].reps = p then tn l[k].reps w (l.drop (k + 1)) else if p < l[k].reps then (if w = -1 then 1 else 0) + tn l[k].reps 1 (l.drop (k + 1)) else (if w = 1 then 1 else 0) + tn l[k].reps (-1) (l.drop (k + 1)) := by
  rw [List.drop_eq_getElem_cons hk, tn]
theorem chg_step {l : List Adv} {k : Nat} (p : Int) (hk : k < l.length) : chg p (l.drop k) = (if l[k].reps = p then 0 else 1) + chg l[k].reps (l.drop (k + 1)) := by
  rw [List.drop_eq_getElem_cons hk, chg]
theorem turnsL_eq {l : List Adv} (h : 0 < l.length) : turnsL l = tn l[0].reps 0 (l.drop 1) := by
  cases l with
  | nil => simp at h
  | cons a r => rfl
theorem changesL_eq {l : List Adv} (h : 0 < l.length) : changesL l = chg l[0].reps (l.drop 1) := by
  cases l with
  | nil => simp at h
  | cons a r => rfl
/-- how many at the end of the first m have this number of replicas -/
def sk (v : Int) (l : List Adv) : Nat → Nat
  | 0 => 0
  | m + 1 => if (l[m]?.map Adv.reps) = some v then 1 + sk v l m else 0
def streakL (l : List Adv) : Nat := match l.getLast? with | none => 0 | some a => sk a.reps l l.length
theorem sk_le (v : Int) (l : List Adv) (m : Nat) : sk v l m ≤ m := by
  induction m with
  | zero => simp [sk]
  | succ m ih => rw [sk]; split <;> omega
theorem sk_yes {v : Int} {l : List Adv} {m : Nat} (h : m < l.length) (he : l[m].reps = v) : sk v l (m + 1) = 1 + sk v l m := by
  rw [sk, if_pos (by simp [h, he])]
theorem sk_no {v : Int} {l : List Adv} {m : Nat} (h : m < l.length) (he : l[m].reps ≠ v) : sk v l (m + 1) = 0 := by
  rw [sk, if_neg (by simp [h, he])]
theorem streakL_eq {l : List Adv} (h : 0 < l.length) : streakL l = sk (l[l.length - 1]).reps l l.length := by
  unfold streakL
  rw [List.getLast?_eq_getElem?, List.getElem?_eq_getElem (by omega)]
theorem streakL_le (l : List Adv) : streakL l ≤ l.length := by
  unfold streakL
  split
  · omega
  · exact sk_le _ _ _
theorem turnsL_le (l : List Adv) : turnsL l ≤ changesL l := by rcases turns_lt l with h | h <;> omega
theorem chg_le (r : List Adv) : ∀ p, chg p r ≤ r.length := by
  induction r with
  | nil => intro p; simp [chg]
  | cons a r ih => intro p; rw [chg, List.length_cons]; have := ih a.reps; split <;> omega
theorem changesL_le (l : List Adv) : changesL l ≤ l.length := by
  cases l with
  | nil => simp [changesL]
  | cons a r => have := chg_le r a.reps; simp only [changesL, List.length_cons]; omega
/-- the replicas of two places -/
theorem adv_two {w : World} {B n k j : Nat} {A : Option Addr} {l : List Adv} (h : Reads w B 5 A n (advs l)) (hk : k < l.length) (hj : j < l.length) :
    ∃ b o, A = some ⟨b, o, none⟩ ∧ w.cell? ⟨b, o + k * 5 + 3, none⟩ = some (.int .i64 l[k].reps) ∧ w.cell? ⟨b, o + j * 5 + 3, none⟩ = some (.int .i64 l[j].reps) := by
  obtain ⟨b, o, hA, _, _, _, _, h3, _⟩ := adv_at h hk
  obtain ⟨b', o', hA', _, _, _, _, h3', _⟩ := adv_at h hj
  rw [hA] at hA'
  simp only [Option.some.injEq, Addr.mk.injEq, and_true] at hA'
  obtain ⟨rfl, rfl⟩ := hA'
  exact ⟨b, o, hA, h3, h3'⟩
theorem adv_last {w : World} {B n : Nat} {A : Option Addr} {l : List Adv} (h : Reads w B 5 A n (advs l)) (h0 : 0 < n) :
    ∃ v, streakL l = sk v l n ∧ ∀ (k : Nat) (hk : k < l.length), ∃ b o, A = some ⟨b, o, none⟩ ∧ w.cell? ⟨b, o + k * 5 + 3, none⟩ = some (.int .i64 l[k].reps) ∧ w.cell? ⟨b, o + (n - 1) * 5 + 3, none⟩ = some (.int .i64 v) := by
  obtain rfl := adv_len h
  exact ⟨_, streakL_eq h0, fun k hk => adv_two h hk (by omega)⟩
end Go.Fw
