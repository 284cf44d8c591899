/-
  Chapter 6 in plain Lean, on: what is put is read, what is read is put; all numbers of bytes. Condition: none.
-/
import Derived.Test.YtomncdnkiommfaaZigPlain
namespace Go.Fw

theorem p7one (k : Nat) : 1 ≤ 2 ^ (7 * k) := Nat.one_le_two_pow
theorem nine (w : Nat) (s : Nat) (h : s + w * 2 ^ (7 * 9) < 18446744073709551616) : w ≤ 1 := by
  have : (2 : Nat) ^ (7 * 9) = 9223372036854775808 := by decide
  rw [this] at h
  omega
/-- what is put is read back -/
theorem get_put (rest : List UInt8) (f : Nat) : ∀ (i w s : Nat), i + f = 9 → (0 < i → 0 < w) → s + w * 2 ^ (7 * i) < 18446744073709551616 →
    getL (putF f w ++ rest) i s = (zag ((s + w * 2 ^ (7 * i) : Nat) : Int), ((i + (putF f w).length : Nat) : Int), 0) := by
  induction f with
  | zero =>
    intro i w s hi hw hs
    obtain rfl : i = 9 := by omega
    have h1 := nine w s hs
    have e : (UInt8.ofNat w).toNat = w := by simp; omega
    rw [putF, List.singleton_append, getL, e, if_neg (by omega), if_pos (by omega), Nat.mod_eq_of_lt (show w < 128 by omega)]
    rfl
  | succ f ih =>
    intro i w s hi hw hs
    by_cases h : w < 128
    · have e : (UInt8.ofNat w).toNat = w := by simp; omega
      rw [putF_lt _ _ h, List.singleton_append, getL, e, if_neg (by omega), if_pos h, Nat.mod_eq_of_lt h]
      rfl
    · have e : (UInt8.ofNat (w % 128 + 128)).toNat = w % 128 + 128 := by simp; omega
      have ew : w % 128 * 2 ^ (7 * i) + w / 128 * 2 ^ (7 * (i + 1)) = w * 2 ^ (7 * i) := by
        rw [p7s, ← Nat.mul_assoc, ← Nat.add_mul]
        congr 1
        omega
      have em : (w % 128 + 128) % 128 = w % 128 := by omega
      rw [putF_ge f w (by omega), List.cons_append, getL, e, if_neg (by omega), if_neg (by omega), em, ih (i + 1) (w / 128) _ (by omega) (by omega) (by omega), Nat.add_assoc, ew, List.length_cons]
      congr 3
      omega
/-- what is read is put as it stood -/
theorem put_get (l : List UInt8) : ∀ (i s : Nat) (n sz : Int), i ≤ 9 → s < 2 ^ (7 * i) → getL l i s = (n, sz, 0) →
    ∃ w, n = zag ((s + w * 2 ^ (7 * i) : Nat) : Int) ∧ s + w * 2 ^ (7 * i) < 18446744073709551616 ∧ sz = ((i + (putF (9 - i) w).length : Nat) : Int) ∧ (∃ r, l = putF (9 - i) w ++ r) ∧ (0 < i → 0 < w) := by
  induction l with
  | nil => intro i s n sz _ _ h; simp [getL] at h
  | cons x r ih =>
    intro i s n sz hi hs h
    rw [getL] at h
    split at h
    · simp at h
    · rename_i hbad
      have hx : x.toNat < 256 := x.toNat_lt
      have hxe : UInt8.ofNat x.toNat = x := by simp
      split at h
      · rename_i hlt
        rw [Nat.mod_eq_of_lt hlt] at h
        simp only [Prod.mk.injEq, and_true] at h
        have hp := p7 i hi
        have hp8 : i ≤ 8 → 2 ^ (7 * i) ≤ 72057594037927936 := fun h8 => by
          have : 2 ^ (7 * i) ≤ 2 ^ 56 := Nat.pow_le_pow_right (by omega) (by omega)
          simpa using this
        refine ⟨x.toNat, h.1.symm, ?_, ?_, ⟨r, ?_⟩, by omega⟩
        · by_cases h9 : i = 9
          · have hx1 : x.toNat ≤ 1 := by omega
            rcases Nat.le_one_iff_eq_zero_or_eq_one.1 hx1 with e | e <;> rw [e] <;> omega
          · have := hp8 (by omega)
            have : x.toNat * 2 ^ (7 * i) ≤ 127 * 2 ^ (7 * i) := Nat.mul_le_mul_right _ (by omega)
            omega
        · rw [putF_lt _ _ hlt, ← h.2]; rfl
        · rw [putF_lt _ _ hlt, hxe]; rfl
      · rename_i hge
        have h8 : i ≤ 8 := by omega
        have hs' : s + x.toNat % 128 * 2 ^ (7 * i) < 2 ^ (7 * (i + 1)) := by
          rw [p7s]
          have : x.toNat % 128 * 2 ^ (7 * i) ≤ 127 * 2 ^ (7 * i) := Nat.mul_le_mul_right _ (by omega)
          omega
        obtain ⟨w, h1, h2, h3, ⟨r', h4⟩, h5⟩ := ih (i + 1) _ n sz (by omega) hs' h
        have hw := h5 (by omega)
        have ew : x.toNat % 128 * 2 ^ (7 * i) + w * 2 ^ (7 * (i + 1)) = (x.toNat % 128 + 128 * w) * 2 ^ (7 * i) := by
          rw [p7s, ← Nat.mul_assoc, ← Nat.add_mul]
          congr 1
          omega
        have e9 : 9 - i = (9 - (i + 1)) + 1 := by omega
        have eb : (x.toNat % 128 + 128 * w) % 128 + 128 = x.toNat := by omega
        have ed : (x.toNat % 128 + 128 * w) / 128 = w := by omega
        rw [Nat.add_assoc, ew] at h1 h2
        refine ⟨x.toNat % 128 + 128 * w, h1, h2, ?_, ⟨r', ?_⟩, by omega⟩
        · rw [e9, putF_ge _ _ (by omega), ed, h3, List.length_cons]
          congr 1
          omega
        · rw [e9, putF_ge _ _ (by omega), ed, eb, hxe, h4, List.cons_append]
theorem getN {l : List UInt8} {n sz : Int} (h : getL l 0 0 = (n, sz, 0)) :
    -9223372036854775808 ≤ n ∧ n ≤ 9223372036854775807 ∧ sz = ((putN n).length : Int) ∧ ∃ r, l = putN n ++ r := by
  obtain ⟨w, h1, h2, h3, h4, _⟩ := put_get l 0 0 n sz (by omega) (by decide) h
  simp only [Nat.zero_add, Nat.mul_zero, Nat.pow_zero, Nat.mul_one, Nat.sub_zero] at h1 h2 h3 h4
  have hb := zag_bd (w : Int) (by omega) (by omega)
  have hp : putN n = putF 9 w := by unfold putN; rw [h1, zig_zag _ (by omega)]; rfl
  rw [hp]
  exact ⟨by rw [h1]; exact hb.1, by rw [h1]; exact hb.2, h3, h4⟩
theorem getL_putN (n : Int) (rest : List UInt8) (h0 : -9223372036854775808 ≤ n) (h1 : n ≤ 9223372036854775807) :
    getL (putN n ++ rest) 0 0 = (n, ((putN n).length : Int), 0) := by
  have hz := zig_bd n h0 h1
  have := get_put rest 9 0 (zig n).toNat 0 (by omega) (by omega) (by simp; omega)
  simp only [Nat.zero_add, Nat.mul_zero, Nat.pow_zero, Nat.mul_one] at this
  rw [Int.toNat_of_nonneg hz.1, zag_zig] at this
  exact this

/-- All numbers of bytes, and 0; or none, and what is wrong with the first that can't be read. -/
def readF : Nat → List UInt8 → List Int → List Int × Int
  | 0, _, out => (out, 0)
  | f + 1, l, out => if l = [] then (out, 0) else
    if (getL l 0 0).2.2 = 0 then readF f (l.drop (getL l 0 0).2.1.toNat) (out ++ [(getL l 0 0).1]) else ([], (getL l 0 0).2.2)
def readL (l : List UInt8) : List Int × Int := readF l.length l []
theorem readF_put (l : List Int) (hl : ∀ x ∈ l, -9223372036854775808 ≤ x ∧ x ≤ 9223372036854775807) : ∀ (f : Nat) (out : List Int), (putL l).length ≤ f → readF f (putL l) out = (out ++ l, 0) := by
  induction l with
  | nil => intro f out _; cases f <;> simp [readF, putL]
  | cons n l ih =>
    intro f out hf
    have hn := hl n (by simp)
    have hln := putN_length n
    have e : putL (n :: l) = putN n ++ putL l := rfl
    rw [e] at hf ⊢
    rw [List.length_append] at hf
    obtain _ | f := f
    · omega
    · rw [readF, getL_putN n _ hn.1 hn.2, if_neg (by intro h; rw [List.append_eq_nil_iff] at h; rw [h.1] at hln; simp at hln), if_pos rfl]
      simp only [Int.toNat_natCast, List.drop_left]
      rw [ih (fun x hx => hl x (by simp [hx])) f _ (by omega)]
      simp
theorem readF_get (f : Nat) : ∀ (l : List UInt8) (out res : List Int) (e : Int), l.length ≤ f → readF f l out = (res, e) →
    (e = 0 ∧ putL res = putL out ++ l ∧ (∀ x ∈ res, x ∈ out ∨ -9223372036854775808 ≤ x ∧ x ≤ 9223372036854775807) ∧ res.length ≤ out.length + l.length) ∨ (res = [] ∧ (e = 1 ∨ e = 2)) := by
  induction f with
  | zero =>
    intro l out res e hl h
    obtain rfl : l = [] := List.eq_nil_of_length_eq_zero (by omega)
    simp only [readF, Prod.mk.injEq] at h
    obtain ⟨rfl, rfl⟩ := h
    exact .inl ⟨rfl, by simp, fun x hx => .inl hx, by simp⟩
  | succ f ih =>
    intro l out res e hl h
    rw [readF] at h
    split at h
    · rename_i he
      subst he
      simp only [Prod.mk.injEq] at h
      obtain ⟨rfl, rfl⟩ := h
      exact .inl ⟨rfl, by simp, fun x hx => .inl hx, by simp⟩
    · rename_i hne
      split at h
      · rename_i h0
        rcases hg : getL l 0 0 with ⟨n, sz, c⟩
        rw [hg] at h h0
        simp only at h h0
        subst h0
        obtain ⟨hb1, hb2, hsz, r, hr⟩ := getN hg
        have hln := putN_length n
        have hd : l.drop sz.toNat = r := by rw [hsz, hr]; simp
        have hll : l.length = (putN n).length + r.length := by rw [hr]; simp
        rw [hd] at h
        rcases ih r (out ++ [n]) res e (by omega) h with ⟨h1, h2, h3, h4⟩ | h
        · refine .inl ⟨h1, ?_, fun x hx => ?_, by simp at h4; omega⟩
          · rw [h2, hr]
            simp [putL]
          · rcases h3 x hx with h | h
            · rw [List.mem_append, List.mem_singleton] at h
              rcases h with h | rfl
              · exact .inl h
              · exact .inr ⟨hb1, hb2⟩
            · exact .inr h
        · exact .inr h
      · rename_i h0
        simp only [Prod.mk.injEq] at h
        obtain ⟨rfl, rfl⟩ := h
        exact .inr ⟨rfl, by rcases getL_code l 0 0 with h | h | h <;> omega⟩
theorem readF_done (f : Nat) (out : List Int) : readF f [] out = (out, 0) := by cases f <;> simp [readF]
/-- one number more -/
theorem readF_one {l : List UInt8} {k f : Nat} (out : List Int) (hk : k < l.length) (hf : l.length ≤ f + k) (n sz c : Int) (hg : getL (l.drop k) 0 0 = (n, sz, c)) :
    ∃ f', f = f' + 1 ∧ (c ≠ 0 → readF f (l.drop k) out = ([], c)) ∧
      (c = 0 → readF f (l.drop k) out = readF f' (l.drop (k + sz.toNat)) (out ++ [n]) ∧ 1 ≤ sz ∧ sz ≤ 10 ∧ k + sz.toNat ≤ l.length ∧ -9223372036854775808 ≤ n ∧ n ≤ 9223372036854775807) := by
  obtain _ | f := f
  · omega
  have hne : l.drop k ≠ [] := by intro h; have := congrArg List.length h; simp at this; omega
  refine ⟨f, rfl, fun h => by rw [readF, if_neg hne, hg, if_neg h], fun h => ?_⟩
  subst h
  obtain ⟨h1, h2, h3, r, h4⟩ := getN hg
  have hln := putN_length n
  have hll := congrArg List.length h4
  rw [List.length_drop, List.length_append] at hll
  refine ⟨by rw [readF, if_neg hne, hg, if_pos rfl, List.drop_drop], by omega, by omega, by omega, h1, h2⟩
end Go.Fw
