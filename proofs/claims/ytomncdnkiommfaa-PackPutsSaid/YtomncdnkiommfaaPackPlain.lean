/-
  Chapter 11 in plain Lean: samples as numbers, and back. Condition: none.
-/
import Derived.Test.YtomncdnkiommfaaStruct
import Derived.Test.YtomncdnkiommfaaSat
import Derived.Test.YtomncdnkiommfaaZigPlain2
namespace Go.Fw
open Go.RowKit
set_option linter.unusedVariables false

structure Smp where
  tick : Int
  value : Int
  deriving DecidableEq
def Smp.cells (a : Smp) : List Value := [.int .i64 a.tick, .int .i64 a.value]
def smps (l : List Smp) : List Value := l.flatMap Smp.cells
structure Smp.ok (a : Smp) : Prop where
  tick : In64 a.tick
  value : In64 a.value
theorem Smp.cells_length (a : Smp) : a.cells.length = 2 := rfl
theorem smps_length (l : List Smp) : (smps l).length = l.length * 2 := flat_length _ 2 Smp.cells_length l
theorem smp_len {w : World} {B n : Nat} {A : Option Addr} {l : List Smp} (h : Reads w B 2 A n (smps l)) : n = l.length := by
  have := h.1
  rw [smps_length] at this
  omega
theorem smp_at {w : World} {B n k : Nat} {A : Option Addr} {l : List Smp} (h : Reads w B 2 A n (smps l)) (hk : k < l.length) :
    ∃ b o, A = some ⟨b, o, none⟩ ∧ b < B ∧ w.cell? ⟨b, o + k * 2, none⟩ = some (.int .i64 l[k].tick) ∧ w.cell? ⟨b, o + k * 2 + 1, none⟩ = some (.int .i64 l[k].value) := by
  obtain ⟨b, o, rfl, hb, hc⟩ := h.elem Smp.cells_length (by decide) (smp_len h) hk
  exact ⟨b, o, rfl, hb, hc 0 _ rfl, hc 1 _ rfl⟩
theorem smp_two {w : World} {B n k j : Nat} {A : Option Addr} {l : List Smp} (h : Reads w B 2 A n (smps l)) (hk : k < l.length) (hj : j < l.length) :
    ∃ b o, A = some ⟨b, o, none⟩ ∧ w.cell? ⟨b, o + k * 2, none⟩ = some (.int .i64 l[k].tick) ∧ w.cell? ⟨b, o + k * 2 + 1, none⟩ = some (.int .i64 l[k].value) ∧
      w.cell? ⟨b, o + j * 2, none⟩ = some (.int .i64 l[j].tick) ∧ w.cell? ⟨b, o + j * 2 + 1, none⟩ = some (.int .i64 l[j].value) := by
  obtain ⟨b, o, hA, _, h1, h2⟩ := smp_at h hk
  obtain ⟨b', o', hA', _, h3, h4⟩ := smp_at h hj
  rw [hA] at hA'
  simp only [Option.some.injEq, Addr.mk.injEq, and_true] at hA'
  obtain ⟨rfl, rfl⟩ := hA'
  exact ⟨b, o, hA, h1, h2, h3, h4⟩
theorem smps_snoc (l : List Smp) (a : Smp) : smps l ++ a.cells = smps (l ++ [a]) := by simp [smps]

/-- what is wrong with samples behind a tick -/
def chk : Int → List Smp → Int
  | _, [] => 0
  | t, x :: r => if x.tick < 0 then 3 else if x.value < 0 then 4 else if x.tick ≤ t then 15 else chk x.tick r
def checkS (l : List Smp) : Int := if 256 < l.length then 12 else chk (-1) l
/-- the differences, behind a tick and a value -/
def difF : Int → Int → List Smp → List Int
  | _, _, [] => []
  | t, v, x :: r => (x.tick - t - 1) :: (x.value - v) :: difF x.tick x.value r
def numL (l : List Smp) : List Int := (l.length : Int) :: difF (-1) 0 l
/-- back -/
def decA : Int → Int → List Int → List Smp → List Smp × Int
  | t, v, a :: b :: r, out => if a < 0 ∨ 9223372036854775807 < t + a + 1 ∨ v + b < 0 ∨ 9223372036854775807 < v + b then ([], 10) else decA (t + a + 1) (v + b) r (out ++ [⟨t + a + 1, v + b⟩])
  | _, _, _, out => (out, 0)
def smpN : List Int → List Smp × Int
  | [] => ([], 10)
  | n :: r => if n < 0 ∨ 256 < n ∨ (r.length : Int) + 1 ≠ 1 + 2 * n then ([], 10) else decA (-1) 0 r []
def getS (b : List UInt8) : List Smp × Int := if (readL b).2 = 0 then smpN (readL b).1 else ([], perr (readL b).2)
theorem decA_bad {ns : List Int} {j : Nat} (t v : Int) (out : List Smp) (h1 : j < ns.length) (h2 : j + 1 < ns.length) (h : ns[j] < 0 ∨ 9223372036854775807 < t + ns[j] + 1 ∨ v + ns[j + 1] < 0 ∨ 9223372036854775807 < v + ns[j + 1]) :
    decA t v (ns.drop j) out = ([], 10) := by
  rw [List.drop_eq_getElem_cons h1, List.drop_eq_getElem_cons h2, decA, if_pos h]
theorem decA_on {ns : List Int} {j : Nat} (t v : Int) (out : List Smp) (h1 : j < ns.length) (h2 : j + 1 < ns.length) (h : ¬ (ns[j] < 0 ∨ 9223372036854775807 < t + ns[j] + 1 ∨ v + ns[j + 1] < 0 ∨ 9223372036854775807 < v + ns[j + 1])) :
    decA t v (ns.drop j) out = decA (t + ns[j] + 1) (v + ns[j + 1]) (ns.drop (j + 2)) (out ++ [⟨t + ns[j] + 1, v + ns[j + 1]⟩]) := by
  rw [List.drop_eq_getElem_cons h1, List.drop_eq_getElem_cons h2, decA, if_neg h]

theorem chk_bad1 {l : List Smp} {k : Nat} (t : Int) (hk : k < l.length) (h : l[k].tick < 0) : chk t (l.drop k) = 3 := by rw [List.drop_eq_getElem_cons hk, chk, if_pos h]
theorem chk_bad2 {l : List Smp} {k : Nat} (t : Int) (hk : k < l.length) (h : ¬ l[k].tick < 0) (h2 : l[k].value < 0) : chk t (l.drop k) = 4 := by rw [List.drop_eq_getElem_cons hk, chk, if_neg h, if_pos h2]
theorem chk_bad3 {l : List Smp} {k : Nat} (t : Int) (hk : k < l.length) (h : ¬ l[k].tick < 0) (h2 : ¬ l[k].value < 0) (h3 : l[k].tick ≤ t) : chk t (l.drop k) = 15 := by rw [List.drop_eq_getElem_cons hk, chk, if_neg h, if_neg h2, if_pos h3]
theorem chk_on {l : List Smp} {k : Nat} (t : Int) (hk : k < l.length) (h : ¬ l[k].tick < 0) (h2 : ¬ l[k].value < 0) (h3 : ¬ l[k].tick ≤ t) : chk t (l.drop k) = chk l[k].tick (l.drop (k + 1)) := by rw [List.drop_eq_getElem_cons hk, chk, if_neg h, if_neg h2, if_neg h3]
theorem chk_cons {t : Int} {x : Smp} {r : List Smp} (h : chk t (x :: r) = 0) : 0 ≤ x.tick ∧ 0 ≤ x.value ∧ t < x.tick ∧ chk x.tick r = 0 := by
  rw [chk] at h
  split at h
  · cases h
  · split at h
    · cases h
    · split at h
      · cases h
      · exact ⟨by omega, by omega, by omega, h⟩
theorem chk_all (l : List Smp) : ∀ t, chk t l = 0 → ∀ x ∈ l, 0 ≤ x.tick ∧ 0 ≤ x.value := by
  induction l with
  | nil => intro t _ x hx; simp at hx
  | cons y r ih =>
    intro t h x hx
    obtain ⟨h1, h2, _, h4⟩ := chk_cons h
    rcases List.mem_cons.1 hx with rfl | hx
    · exact ⟨h1, h2⟩
    · exact ih _ h4 x hx
theorem difF_small (l : List Smp) (hok : ∀ x ∈ l, x.ok) : ∀ t v, -1 ≤ t → 0 ≤ v → v ≤ 9223372036854775807 → chk t l = 0 → ∀ n ∈ difF t v l, In64 n := by
  induction l with
  | nil => intro t v _ _ _ _ n hn; simp [difF] at hn
  | cons y r ih =>
    intro t v ht hv0 hv1 h n hn
    obtain ⟨h1, h2, h3, h4⟩ := chk_cons h
    have ho := hok y (by simp)
    have ho1 := ho.tick
    have ho2 := ho.value
    unfold In64 at *
    rw [difF] at hn
    rcases List.mem_cons.1 hn with rfl | hn
    · omega
    · rcases List.mem_cons.1 hn with rfl | hn
      · omega
      · exact ih (fun x hx => hok x (by simp [hx])) y.tick y.value (by omega) h2 (by omega) h4 n hn
theorem difF_length (l : List Smp) : ∀ t v, (difF t v l).length = 2 * l.length := by
  induction l with
  | nil => intro t v; rfl
  | cons y r ih => intro t v; rw [difF, List.length_cons, List.length_cons, ih, List.length_cons]; omega
theorem difF_snoc (l : List Smp) (x d : Smp) : ∀ t v, t = d.tick → v = d.value → difF t v (l ++ [x]) = difF t v l ++ [x.tick - (l.getLastD d).tick - 1, x.value - (l.getLastD d).value] := by
  induction l generalizing d with
  | nil => intro t v ht hv; subst ht; subst hv; rfl
  | cons y r ih =>
    intro t v ht hv
    rw [List.cons_append, difF, difF, ih y y.tick y.value rfl rfl, List.getLastD_cons]
    rfl
theorem last_take {l : List Smp} {k : Nat} (d : Smp) (hk : k < l.length) : (l.take (k + 1)).getLastD d = l[k] := by
  rw [List.take_succ_eq_append_getElem hk, List.getLastD_concat]
theorem decA_dif (l : List Smp) (hok : ∀ x ∈ l, x.ok) : ∀ t v out, -1 ≤ t → 0 ≤ v → chk t l = 0 → decA t v (difF t v l) out = (out ++ l, 0) := by
  induction l with
  | nil => intro t v out _ _ _; simp [difF, decA]
  | cons y r ih =>
    intro t v out ht hv h
    obtain ⟨h1, h2, h3, h4⟩ := chk_cons h
    have ho := hok y (by simp)
    have ho1 := ho.tick
    have ho2 := ho.value
    unfold In64 at *
    have e1 : t + (y.tick - t - 1) + 1 = y.tick := by omega
    have e2 : v + (y.value - v) = y.value := by omega
    rw [difF, decA, e1, e2, if_neg (by omega), ih (fun x hx => hok x (by simp [hx])) _ _ _ (by omega) h2 h4]
    simp
theorem dif_decA (n : Nat) : ∀ (ns : List Int) (t v : Int) (out res : List Smp), ns.length = 2 * n → -1 ≤ t → 0 ≤ v → decA t v ns out = (res, 0) →
    ∃ l, res = out ++ l ∧ difF t v l = ns ∧ chk t l = 0 ∧ (∀ x ∈ l, x.ok) ∧ l.length = n := by
  induction n with
  | zero =>
    intro ns t v out res hl _ _ h
    obtain rfl : ns = [] := List.eq_nil_of_length_eq_zero (by omega)
    simp only [decA, Prod.mk.injEq, and_true] at h
    exact ⟨[], by simp [h], rfl, rfl, by simp, rfl⟩
  | succ n ih =>
    intro ns t v out res hl ht hv h
    match ns, hl with
    | a :: b :: r, hl =>
      rw [decA] at h
      split at h
      · simp at h
      · rename_i hg
        obtain ⟨l, h1, h2, h3, h4, h5⟩ := ih r _ _ _ res (by simp at hl; omega) (by omega) (by omega) h
        refine ⟨⟨t + a + 1, v + b⟩ :: l, by rw [h1]; simp, ?_, ?_, ?_, by simp [h5]⟩
        · rw [difF, h2]
          simp only
          rw [show t + a + 1 - t - 1 = a by omega, show v + b - v = b by omega]
        · rw [chk, if_neg (by simp only; omega), if_neg (by simp only; omega), if_neg (by simp only; omega)]
          exact h3
        · intro x hx
          rcases List.mem_cons.1 hx with rfl | hx
          · exact ⟨⟨by simp only; omega, by simp only; omega⟩, ⟨by simp only; omega, by simp only; omega⟩⟩
          · exact h4 x hx
theorem decA_code (ns : List Int) : ∀ (n : Nat) (t v : Int) (out : List Smp), ns.length ≤ n → (decA t v ns out).2 = 0 ∨ decA t v ns out = ([], 10) := by
  intro n
  induction n generalizing ns with
  | zero =>
    intro t v out h
    obtain rfl : ns = [] := List.eq_nil_of_length_eq_zero (by omega)
    exact .inl rfl
  | succ n ih =>
    intro t v out h
    match ns with
    | [] => exact .inl rfl
    | [a] => exact .inl rfl
    | a :: b :: r =>
      rw [decA]
      split
      · exact .inr rfl
      · exact ih r _ _ _ (by simp at h; omega)
/-- what the program's sums and differences come to -/
theorem dec_test (t v a b : Int) (ht0 : -1 ≤ t) (ht1 : t ≤ 9223372036854775807) (hv0 : 0 ≤ v) (hv1 : v ≤ 9223372036854775807) (ha : In64 a) (hb : In64 b) :
    (¬ (a < 0 ∨ 9223372036854775807 < t + a + 1 ∨ v + b < 0 ∨ 9223372036854775807 < v + b) → sat (sat (t + a) + 1) = t + a + 1 ∧ sat (v + b) = v + b ∧ wrap64 (wrap64 (t + a + 1 - t) - 1) = a) ∧
    ((a < 0 ∨ 9223372036854775807 < t + a + 1 ∨ v + b < 0 ∨ 9223372036854775807 < v + b) → a < 0 ∨ sat (v + b) < 0 ∨ wrap64 (wrap64 (sat (sat (t + a) + 1) - t) - 1) ≠ a ∨ wrap64 (sat (v + b) - v) ≠ b) := by
  unfold In64 at *
  constructor
  · intro h
    have h1 : sat (t + a) = t + a := sat_id _ ⟨by omega, by omega⟩
    refine ⟨by rw [h1]; exact sat_id _ ⟨by omega, by omega⟩, sat_id _ ⟨by omega, by omega⟩, ?_⟩
    unfold wrap64
    omega
  · intro h
    by_cases h0 : a < 0
    · exact .inl h0
    by_cases h1 : 9223372036854775807 < t + a + 1
    · right; right; left
      have e : sat (sat (t + a) + 1) = 9223372036854775807 := by
        by_cases h2 : 9223372036854775807 < t + a
        · rw [sat_hi (t + a) h2]; exact sat_hi _ (by decide)
        · rw [sat_id (t + a) ⟨by omega, by omega⟩]; exact sat_hi _ h1
      rw [e]
      unfold wrap64
      omega
    by_cases h2 : v + b < 0
    · right; left
      rw [sat_id (v + b) ⟨by omega, by omega⟩]; exact h2
    · right; right; right
      rw [sat_hi (v + b) (by omega)]
      unfold wrap64
      omega
end Go.Fw
