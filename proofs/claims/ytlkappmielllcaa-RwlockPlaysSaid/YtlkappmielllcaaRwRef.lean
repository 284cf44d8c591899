/-
  Chapter 25 in plain Lean: masks and lists tell the same of a lock; who writes is alone. Condition: none.
-/
import Derived.Test.YtlkappmielllcaaRwAwake
namespace Go.Fw
open Go.RowKit
set_option linter.unusedVariables false
/-- the reference's lock: who reads, who writes, who waits -/
structure Rf where
  rd : List Int
  wr : List Int
  line : List (Int × Bool)
def heldR (x : Rf) (t : Int) : Int := if t ∈ x.wr then 2 else if t ∈ x.rd then 1 else 0
def fitsR (x : Rf) (b : Bool) : Bool := decide (x.wr = []) && (!b || decide (x.rd = []))
def giveR (x : Rf) (y : Int × Bool) : Rf := if y.2 then { x with wr := x.wr ++ [y.1] } else { x with rd := x.rd ++ [y.1] }
def askR (x : Rf) (t : Int) (b : Bool) : Rf × Bool × Int :=
  if t < 0 ∨ 31 < t then (x, false, 1)
  else if heldR x t ≠ 0 ∨ t ∈ x.line.map (·.1) then (x, false, 15)
  else if x.line = [] ∧ fitsR x b = true then (giveR x (t, b), true, 0)
  else ({ x with line := x.line ++ [(t, b)] }, false, 0)
def dropGoR : List (Int × Bool) → List Int → List Int → Rf × List Int
  | [], r, w => (⟨r, w, []⟩, [])
  | x :: ln, r, w => if fitsR ⟨r, w, []⟩ x.2 = true then ((dropGoR ln (giveR ⟨r, w, ln⟩ x).rd (giveR ⟨r, w, ln⟩ x).wr).1, x.1 :: (dropGoR ln (giveR ⟨r, w, ln⟩ x).rd (giveR ⟨r, w, ln⟩ x).wr).2) else (⟨r, w, x :: ln⟩, [])
def lessR (l : List Int) (t : Int) : List Int := l.filter fun x => x ≠ t
def dropR (x : Rf) (t : Int) : Rf × List Int := dropGoR x.line (lessR x.rd t) (lessR x.wr t)
/-- a mask and a list -/
structure Mask (m : Nat) (s : List Int) : Prop where
  lt : m < 4294967296
  bit : ∀ i : Nat, i < 32 → (m.testBit i = true ↔ (i : Int) ∈ s)
  rng : ∀ t ∈ s, 0 ≤ t ∧ t < 32
theorem and_bit {m : Nat} {t : Int} (h : 0 ≤ t ∧ t < 32) : (m &&& bitN t ≠ 0) ↔ m.testBit t.toNat = true := by
  rw [bitN_pow h]
  constructor
  · intro h1
    refine Classical.byContradiction fun h2 => h1 ?_
    apply Nat.eq_of_testBit_eq
    intro i
    rw [Nat.testBit_and, Nat.testBit_two_pow, Nat.zero_testBit]
    by_cases hi : t.toNat = i
    · subst hi; simp at h2; simp [h2]
    · simp [hi]
  · intro h1 h2
    have : (m &&& 2 ^ t.toNat).testBit t.toNat = true := by rw [Nat.testBit_and, Nat.testBit_two_pow, h1]; simp
    rw [h2] at this
    simp at this
theorem Mask.mem {m : Nat} {s : List Int} (h : Mask m s) (t : Int) : (m &&& bitN t ≠ 0) ↔ t ∈ s := by
  by_cases ht : 0 ≤ t ∧ t < 32
  · rw [and_bit ht, h.bit t.toNat (by omega)]
    rw [show ((t.toNat : Nat) : Int) = t by omega]
  · rw [bitN_zero ht]
    simp only [Nat.and_zero, ne_eq, not_true_eq_false, false_iff]
    exact fun hm => ht (h.rng t hm)
theorem Mask.zero {m : Nat} {s : List Int} (h : Mask m s) : m = 0 ↔ s = [] := by
  constructor
  · intro h0
    rcases s with _ | ⟨t, s⟩
    · rfl
    · have ht := h.rng t (by simp)
      have := (h.bit t.toNat (by omega)).2 (by rw [show ((t.toNat : Nat) : Int) = t by omega]; simp)
      rw [h0] at this
      simp at this
  · intro h0
    subst h0
    apply Nat.eq_of_testBit_eq
    intro i
    rw [Nat.zero_testBit]
    by_cases hi : i < 32
    · have := h.bit i hi
      simpa using this
    · have : m < 2 ^ i := Nat.lt_of_lt_of_le h.lt (by rw [show (4294967296 : Nat) = 2 ^ 32 by rfl]; exact Nat.pow_le_pow_right (by decide) (by omega))
      exact Nat.testBit_lt_two_pow this
theorem Mask.more {m : Nat} {s : List Int} (h : Mask m s) {t : Int} (ht : 0 ≤ t ∧ t < 32) : Mask (m ||| bitN t) (s ++ [t]) := by
  refine ⟨or32 h.lt (bitN_lt t), fun i hi => ?_, fun u hu => ?_⟩
  · rw [Nat.testBit_or, bitN_pow ht, Nat.testBit_two_pow, Bool.or_eq_true, h.bit i hi, List.mem_append, List.mem_singleton, decide_eq_true_eq]
    constructor
    · rintro (h | h)
      · exact .inl h
      · right; omega
    · rintro (h | h)
      · exact .inl h
      · right; omega
  · simp only [List.mem_append, List.mem_singleton] at hu
    rcases hu with hu | rfl
    · exact h.rng u hu
    · exact ht
theorem Mask.less {m : Nat} {s : List Int} (h : Mask m s) (t : Int) : Mask (clr m (bitN t)) (lessR s t) := by
  have hb := bitN_lt t
  refine ⟨clr_lt _ h.lt, fun i hi => ?_, fun u hu => h.rng u (List.mem_filter.1 hu).1⟩
  unfold clr lessR
  rw [show 4294967295 - bitN t = 2 ^ 32 - (bitN t + 1) by omega, Nat.testBit_and, Nat.testBit_two_pow_sub_succ (by omega), Bool.and_eq_true, h.bit i hi, List.mem_filter]
  simp only [hi, decide_true, Bool.true_and, ne_eq, decide_not, Bool.not_eq_eq_eq_not, Bool.not_true, decide_eq_false_iff_not]
  refine and_congr_right fun _ => ?_
  by_cases ht : 0 ≤ t ∧ t < 32
  · rw [bitN_pow ht, Nat.testBit_two_pow, decide_eq_false_iff_not]
    constructor
    · intro h1 h2; exact h1 (by omega)
    · intro h1 h2; exact h1 (by omega)
  · rw [bitN_zero ht]
    simp only [Nat.zero_testBit, true_iff]
    intro h1; exact ht (by omega)
/-- a lock as masks, and as lists -/
structure RelL (l : Lk) (x : Rf) : Prop where
  r : Mask l.r x.rd
  w : Mask l.w x.wr
  line : l.line = x.line
  rng : ∀ y ∈ x.line, 0 ≤ y.1 ∧ y.1 < 32
theorem RelL.ok {l : Lk} {x : Rf} (h : RelL l x) : l.ok := ⟨h.r.lt, h.w.lt, by rw [h.line]; exact h.rng⟩
theorem RelL.held {l : Lk} {x : Rf} (h : RelL l x) (t : Int) : heldN l t = heldR x t := by
  unfold heldN heldR
  by_cases hb : bitN t = 0
  · rw [if_pos hb]
    have h1 : t ∉ x.wr := fun hm => (h.w.mem t).2 hm (by rw [hb]; simp)
    have h2 : t ∉ x.rd := fun hm => (h.r.mem t).2 hm (by rw [hb]; simp)
    rw [if_neg h1, if_neg h2]
  · rw [if_neg hb]
    by_cases h1 : t ∈ x.wr
    · rw [if_pos ((h.w.mem t).2 h1), if_pos h1]
    · rw [if_neg (fun e => h1 ((h.w.mem t).1 e)), if_neg h1]
      by_cases h2 : t ∈ x.rd
      · rw [if_pos ((h.r.mem t).2 h2), if_pos h2]
      · rw [if_neg (fun e => h2 ((h.r.mem t).1 e)), if_neg h2]
theorem RelL.fits {l : Lk} {x : Rf} (h : RelL l x) (b : Bool) : fitsB l b = fitsR x b := by
  unfold fitsB fitsR
  rw [decide_eq_decide.2 h.w.zero, decide_eq_decide.2 h.r.zero]
theorem RelL.give {l : Lk} {x : Rf} (h : RelL l x) {y : Int × Bool} (hy : 0 ≤ y.1 ∧ y.1 < 32) : RelL (giveL l y) (giveR x y) := by
  unfold giveL giveR
  split
  · exact ⟨h.r, h.w.more hy, h.line, h.rng⟩
  · exact ⟨h.r.more hy, h.w, h.line, h.rng⟩
theorem RelL.ask {l : Lk} {x : Rf} (h : RelL l x) (t : Int) (b : Bool) : RelL (askL l t b).1 (askR x t b).1 ∧ (askL l t b).2 = (askR x t b).2 := by
  unfold askL askR
  by_cases ht : 0 ≤ t ∧ t < 32
  · have hp := bitN_pos ht
    rw [if_neg (show ¬ bitN t = 0 by omega), if_neg (show ¬ (t < 0 ∨ 31 < t) by omega), h.held, h.line, h.fits]
    split
    · exact ⟨h, rfl⟩
    split
    · exact ⟨h.give ht, rfl⟩
    · refine ⟨⟨h.r, h.w, rfl, fun y hy => ?_⟩, rfl⟩
      simp only [List.mem_append, List.mem_singleton] at hy
      rcases hy with hy | rfl
      · exact h.rng y hy
      · exact ht
  · rw [if_pos (bitN_zero ht), if_pos (by omega)]
    exact ⟨h, rfl⟩
theorem giveR_line (x : Rf) (y : Int × Bool) : (giveR x y).line = x.line := by unfold giveR; split <;> rfl
theorem rel_dropGo (ln : List (Int × Bool)) : ∀ (r w : Nat) (rd wr : List Int), RelL ⟨r, w, ln⟩ ⟨rd, wr, ln⟩ → RelL (dropGo ln r w).1 (dropGoR ln rd wr).1 ∧ (dropGo ln r w).2 = (dropGoR ln rd wr).2 := by
  induction ln with
  | nil => intro r w rd wr h; exact ⟨h, rfl⟩
  | cons y ln ih =>
    intro r w rd wr h
    rw [dropGo, dropGoR]
    have h0 : RelL ⟨r, w, []⟩ ⟨rd, wr, []⟩ := ⟨h.r, h.w, rfl, by simp⟩
    have h1 : RelL ⟨r, w, ln⟩ ⟨rd, wr, ln⟩ := ⟨h.r, h.w, rfl, fun z hz => h.rng z (by simp [hz])⟩
    have h2 := h1.give (h.rng y (by simp))
    rw [h0.fits]
    split
    · obtain ⟨g1, g2⟩ := ih _ _ _ _ (⟨h2.r, h2.w, rfl, h1.rng⟩ : RelL ⟨(giveL ⟨r, w, ln⟩ y).r, (giveL ⟨r, w, ln⟩ y).w, ln⟩ ⟨(giveR ⟨rd, wr, ln⟩ y).rd, (giveR ⟨rd, wr, ln⟩ y).wr, ln⟩)
      exact ⟨g1, by rw [g2]⟩
    · exact ⟨h, rfl⟩
theorem RelL.drop {l : Lk} {x : Rf} (h : RelL l x) (t : Int) : RelL (dropL l t).1 (dropR x t).1 ∧ (dropL l t).2 = (dropR x t).2 := by
  unfold dropL dropR
  rw [h.line]
  exact rel_dropGo _ _ _ _ _ ⟨h.r.less t, h.w.less t, rfl, h.rng⟩
theorem mask_nil : Mask 0 [] := ⟨by decide, by simp, by simp⟩
theorem rel_new : RelL ⟨0, 0, []⟩ ⟨[], [], []⟩ := ⟨mask_nil, mask_nil, rfl, by simp⟩
/-- who writes is alone, who waits holds nothing, and nobody waits for a lock that is free -/
structure Alone (x : Rf) : Prop where
  one : x.wr = [] ∨ ∃ t, x.wr = [t] ∧ x.rd = []
  apart : ∀ t ∈ x.line.map (·.1), t ∉ x.rd ∧ t ∉ x.wr
  nodup : (x.line.map (·.1)).Nodup
  idle : x.rd = [] → x.wr = [] → x.line = []
theorem alone_new : Alone ⟨[], [], []⟩ := ⟨.inl rfl, by simp, by simp, by simp⟩
theorem fitsR_true {x : Rf} {b : Bool} (h : fitsR x b = true) : x.wr = [] ∧ (b = true → x.rd = []) := by
  unfold fitsR at h
  simp only [Bool.and_eq_true, decide_eq_true_eq, Bool.or_eq_true, Bool.not_eq_true'] at h
  exact ⟨h.1, fun hb => h.2.resolve_left (by simp [hb])⟩
theorem giveR_one {x : Rf} {y : Int × Bool} (hf : fitsR x y.2 = true) : ((giveR x y).wr = [] ∨ ∃ t, (giveR x y).wr = [t] ∧ (giveR x y).rd = []) ∧ ((giveR x y).rd = [] → (giveR x y).wr ≠ []) := by
  obtain ⟨h1, h2⟩ := fitsR_true hf
  unfold giveR
  cases hb : y.2
  · simp [h1]
  · simp [h1, h2 hb]
theorem giveR_mem {x : Rf} {y : Int × Bool} {t : Int} (h1 : t ∉ x.rd) (h2 : t ∉ x.wr) (h3 : t ≠ y.1) : t ∉ (giveR x y).rd ∧ t ∉ (giveR x y).wr := by
  unfold giveR
  split <;> simp [h1, h2, h3]
theorem Alone.ask {x : Rf} (h : Alone x) (t : Int) (b : Bool) : Alone (askR x t b).1 := by
  unfold askR
  split
  · exact h
  split
  · exact h
  rename_i hn
  split
  · rename_i hc
    obtain ⟨hl, hf⟩ := hc
    obtain ⟨g1, g2⟩ := giveR_one (y := (t, b)) hf
    refine ⟨g1, ?_, ?_, fun e1 e2 => absurd e2 (g2 e1)⟩
    · rw [giveR_line, hl]; simp
    · rw [giveR_line, hl]; simp
  · rename_i hc
    have hn1 : heldR x t = 0 := Classical.byContradiction fun e => hn (.inl e)
    have hn2 : t ∉ x.line.map (·.1) := fun e => hn (.inr e)
    have hw : t ∉ x.wr := fun e => by unfold heldR at hn1; rw [if_pos e] at hn1; cases hn1
    have hr : t ∉ x.rd := fun e => by unfold heldR at hn1; rw [if_neg hw, if_pos e] at hn1; cases hn1
    refine ⟨h.one, fun u hu => ?_, ?_, fun e1 e2 => ?_⟩
    · simp only [List.map_append, List.map_cons, List.map_nil, List.mem_append, List.mem_singleton] at hu
      rcases hu with hu | rfl
      · exact h.apart u hu
      · exact ⟨hr, hw⟩
    · simp only [List.map_append, List.map_cons, List.map_nil]
      rw [List.nodup_append]
      exact ⟨h.nodup, by simp, fun a ha b hb e => by simp at hb; subst e hb; exact hn2 ha⟩
    · exact absurd ⟨h.idle e1 e2, by unfold fitsR; simp only at e1 e2; simp [e1, e2]⟩ hc
theorem alone_dropGo (ln : List (Int × Bool)) : ∀ (rd wr : List Int), (wr = [] ∨ ∃ t, wr = [t] ∧ rd = []) → (∀ t ∈ ln.map (·.1), t ∉ rd ∧ t ∉ wr) → (ln.map (·.1)).Nodup → Alone (dropGoR ln rd wr).1 := by
  induction ln with
  | nil => intro rd wr h1 h2 h3; exact ⟨h1, by simp [dropGoR], by simp [dropGoR], fun _ _ => rfl⟩
  | cons y ln ih =>
    intro rd wr h1 h2 h3
    rw [dropGoR]
    split
    · rename_i hf
      have hf2 : fitsR ⟨rd, wr, ln⟩ y.2 = true := hf
      obtain ⟨g1, _⟩ := giveR_one hf2
      simp only [List.map_cons, List.nodup_cons] at h3
      refine ih _ _ g1 (fun t ht => ?_) h3.2
      obtain ⟨q1, q2⟩ := h2 t (by simp only [List.map_cons, List.mem_cons]; exact .inr ht)
      exact giveR_mem (x := ⟨rd, wr, ln⟩) q1 q2 (fun e => h3.1 (e ▸ ht))
    · rename_i hf
      refine ⟨h1, h2, h3, fun e1 e2 => absurd ?_ hf⟩
      simp only at e1 e2
      simp [fitsR, e1, e2]
theorem Alone.drop {x : Rf} (h : Alone x) (t : Int) : Alone (dropR x t).1 := by
  unfold dropR
  refine alone_dropGo _ _ _ ?_ (fun u hu => ?_) h.nodup
  · rcases h.one with h1 | ⟨u, h1, h2⟩
    · left; rw [h1]; rfl
    · rw [h1, h2]
      unfold lessR
      by_cases hu : u = t
      · left; simp [hu]
      · right; exact ⟨u, by simp [hu], rfl⟩
  · obtain ⟨q1, q2⟩ := h.apart u hu
    exact ⟨fun e => q1 (List.mem_filter.1 e).1, fun e => q2 (List.mem_filter.1 e).1⟩
/-- how many of the first k tasks hold it; how many write -/
def cntH (x : Rf) : Nat → Nat
  | 0 => 0
  | k + 1 => cntH x k + if heldR x (k : Int) = 0 then 0 else 1
def cntW (x : Rf) : Nat → Nat
  | 0 => 0
  | k + 1 => cntW x k + if heldR x (k : Int) = 2 then 1 else 0
theorem cntH_le (x : Rf) (k : Nat) : cntH x k ≤ k := by
  induction k with
  | zero => exact Nat.le_refl _
  | succ k ih => unfold cntH; split <;> omega
theorem cntW_le (x : Rf) (k : Nat) : cntW x k ≤ k := by
  induction k with
  | zero => exact Nat.le_refl _
  | succ k ih => unfold cntW; split <;> omega
theorem cntW_none {x : Rf} (h : x.wr = []) (k : Nat) : cntW x k = 0 := by
  induction k with
  | zero => rfl
  | succ k ih =>
    unfold cntW
    rw [ih, if_neg]
    unfold heldR
    rw [h]
    simp
    split <;> simp
theorem cntH_pos {x : Rf} {t : Nat} (ht : heldR x t ≠ 0) : ∀ k, t < k → 0 < cntH x k := by
  intro k
  induction k with
  | zero => intro h; omega
  | succ k ih =>
    intro h
    unfold cntH
    by_cases e : t = k
    · subst e; rw [if_neg ht]; omega
    · have := ih (by omega); omega
theorem cntH_one {x : Rf} {u : Int} (hw : x.wr = [u]) (hr : x.rd = []) (k : Nat) : cntH x k ≤ 1 ∧ (u < 0 ∨ (k : Int) ≤ u → cntH x k = 0) := by
  induction k with
  | zero => exact ⟨Nat.zero_le _, fun _ => rfl⟩
  | succ k ih =>
    have hh : heldR x (k : Int) = if (k : Int) = u then 2 else 0 := by
      unfold heldR
      rw [hw, hr]
      simp
    unfold cntH
    rw [hh]
    by_cases e : (k : Int) = u
    · rw [if_pos e, if_neg (by decide), ih.2 (.inr (by omega))]
      exact ⟨Nat.le_refl _, fun h => by omega⟩
    · rw [if_neg e, if_pos rfl]
      exact ⟨ih.1, fun h => by rw [ih.2 (by omega)]⟩
theorem Alone.count {x : Rf} (h : Alone x) (hr : ∀ t ∈ x.rd, 0 ≤ t ∧ t < 32) (hw : ∀ t ∈ x.wr, 0 ≤ t ∧ t < 32) : ¬ (0 < cntW x 32 ∧ 1 < cntH x 32) ∧ (cntH x 32 = 0 → x.line = []) := by
  constructor
  · rintro ⟨h1, h2⟩
    rcases h.one with h3 | ⟨u, h3, h4⟩
    · rw [cntW_none h3] at h1; omega
    · have := (cntH_one h3 h4 32).1; omega
  · intro h0
    refine h.idle ?_ ?_
    · rcases hq : x.rd with _ | ⟨t, s⟩
      · rfl
      · have ht := hr t (by rw [hq]; simp)
        have := cntH_pos (x := x) (t := t.toNat) (by rw [show ((t.toNat : Nat) : Int) = t by omega]; unfold heldR; rw [hq]; split <;> simp) 32 (by omega)
        omega
    · rcases hq : x.wr with _ | ⟨t, s⟩
      · rfl
      · have ht := hw t (by rw [hq]; simp)
        have := cntH_pos (x := x) (t := t.toNat) (by rw [show ((t.toNat : Nat) : Int) = t by omega]; unfold heldR; rw [hq]; simp) 32 (by omega)
        omega
theorem Alone.waits {x : Rf} (h : Alone x) {t : Int} (ht : heldR x t ≠ 0) : t ∉ x.line.map (·.1) := by
  intro hm
  obtain ⟨q1, q2⟩ := h.apart t hm
  unfold heldR at ht
  rw [if_neg q2, if_neg q1] at ht
  exact ht rfl
end Go.Fw
namespace Go.Proofs.Ytlkappmielllcaa
open Go.RowKit Go.Fw
theorem RelL.free {l : Lk} {x : Rf} (h : RelL l x) : freeB l = decide (x.rd.length + x.wr.length = 0) := by
  unfold freeB
  rw [decide_eq_decide]
  constructor
  · intro h0
    have h1 : l.r = 0 := by have := @Nat.left_le_or l.r l.w; omega
    have h2 : l.w = 0 := by have := @Nat.right_le_or l.r l.w; omega
    rw [h.r.zero.1 h1, h.w.zero.1 h2]; rfl
  · intro h0
    have h1 : x.rd = [] := List.eq_nil_of_length_eq_zero (by omega)
    have h2 : x.wr = [] := List.eq_nil_of_length_eq_zero (by omega)
    rw [h.r.zero.2 h1, h.w.zero.2 h2]; rfl
end Go.Proofs.Ytlkappmielllcaa
