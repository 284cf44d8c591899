/-
  Decimal numerals in plain Lean: a number's numeral is read as the number. Condition: none.
-/
import Derived.Test.YteljecehppeamaaDoorBase
import Derived.Lib.ItoaNum
import Derived.Lib.ItoaLen
import Derived.Lib.AtoiAll
import Derived.Lib.AtoiAllCases
namespace Go.Fw
open Go.RowKit
set_option linter.unusedVariables false
set_option linter.unusedSimpArgs false
/-- digits alone -/
def Digs (l : List UInt8) : Prop := ∀ b ∈ l, 48 ≤ b.toNat ∧ b.toNat ≤ 57
theorem digits_all : ∀ u : Nat, Digs (Lib.decDigits u) := by
  intro u
  induction u using Nat.strongRecOn with
  | _ u ih =>
    intro b hb
    rw [Lib.decDigits] at hb
    split at hb
    · rename_i h
      rw [List.mem_singleton.1 hb]
      simp only [UInt8.toNat_ofNat']
      omega
    · rename_i h
      rcases List.mem_append.1 hb with h1 | h1
      · exact ih (u / 10) (by omega) b h1
      · rw [List.mem_singleton.1 h1]
        simp only [UInt8.toNat_ofNat']
        omega
theorem digits_ne (u : Nat) : Lib.decDigits u ≠ [] := by
  intro h
  have := Lib.decDigits_length u
  rw [h] at this
  have := Lib.nDigits_pos u
  simp at *
  omega
theorem parse_snoc : ∀ (l : List UInt8) (acc m : Nat) (d : Nat), Lib.parseUint10 acc l = .ok m → d < 10 → m * 10 + d < 18446744073709551616 → Lib.parseUint10 acc (l ++ [UInt8.ofNat (48 + d)]) = .ok (m * 10 + d)
  | [], acc, m, d, h, hd, hm => by
    simp only [Lib.parseUint10] at h
    injection h with h
    subst h
    have e : (UInt8.ofNat (48 + d)).toNat = 48 + d := by simp only [UInt8.toNat_ofNat']; omega
    simp only [List.nil_append, Lib.parseUint10, e]
    rw [if_pos (by omega), if_neg (by omega), if_neg (by omega)]
    congr 2
    omega
  | c :: r, acc, m, d, h, hd, hm => by
    simp only [Lib.parseUint10, List.cons_append] at h ⊢
    split at h
    · split at h
      · cases h
      · split at h
        · cases h
        · rename_i h1 h2 h3
          rw [if_pos h1, if_neg h2, if_neg h3]
          exact parse_snoc r _ m d h hd hm
    · cases h
theorem parse_digits : ∀ u : Nat, u < 18446744073709551616 → Lib.parseUint10 0 (Lib.decDigits u) = .ok u := by
  intro u
  induction u using Nat.strongRecOn with
  | _ u ih =>
    intro hu
    rw [Lib.decDigits]
    split
    · rename_i h
      have := parse_snoc [] 0 0 u rfl h (by omega)
      simpa using this
    · rename_i h
      have h1 := ih (u / 10) (by omega) (by omega)
      have h2 := parse_snoc _ _ _ (u % 10) h1 (by omega) (by omega)
      rw [show u / 10 * 10 + u % 10 = u by omega] at h2
      exact h2
theorem mag_digits {u : Nat} (hu : u < 18446744073709551616) : Lib.parseMag (Lib.decDigits u) = .ok u := by
  unfold Lib.parseMag
  rw [if_neg (digits_ne u)]
  exact parse_digits u hu
/-- a number's numeral is read as the number -/
theorem atoi_itoa {n : Int} (h0 : -9223372036854775808 ≤ n) (h1 : n ≤ 9223372036854775807) : Lib.atoiAll (Lib.itoa n) = .ok n := by
  unfold Lib.itoa
  split
  · rename_i h
    rw [Lib.atoiAll_minus, mag_digits (by omega)]
    unfold Lib.signed
    have : n.natAbs ≤ 9223372036854775808 := by omega
    simp only
    rw [if_neg (by omega)]
    congr 1
    omega
  · rename_i h
    have hne := digits_ne n.toNat
    have hall := digits_all n.toNat
    have hm := mag_digits (u := n.toNat) (by omega)
    cases hd : Lib.decDigits n.toNat with
    | nil => exact absurd hd hne
    | cons c r =>
      rw [hd] at hall hm
      have hc := hall c (by simp)
      rw [Lib.atoiAll_plain c r (by omega) (by omega), hm]
      unfold Lib.signless
      simp only
      rw [if_neg (by omega)]
      congr 1
      omega
/-- a number's numeral as a text -/
def decB (n : Int) : ByteArray := ⟨(Lib.itoa n).toArray⟩
theorem decB_list (n : Int) : (decB n).data.toList = Lib.itoa n := by simp [decB]
theorem decB_size {n : Int} (h0 : -9223372036854775808 ≤ n) (h1 : n ≤ 9223372036854775807) : (decB n).size ≤ 21 := by
  have := Lib.itoa_length_le n h0 h1
  show (decB n).data.size ≤ 21
  unfold decB
  simpa using this
/-- no numeral holds a sign that is neither a digit nor the minus -/
theorem itoa_signs (n : Int) : ∀ b ∈ Lib.itoa n, (48 ≤ b.toNat ∧ b.toNat ≤ 57) ∨ b = 45 := by
  intro b hb
  unfold Lib.itoa at hb
  split at hb
  · rcases List.mem_cons.1 hb with h | h
    · exact .inr h
    · exact .inl (digits_all _ b h)
  · exact .inl (digits_all _ b hb)
theorem itoa_ne (n : Int) : Lib.itoa n ≠ [] := by
  unfold Lib.itoa
  split
  · simp
  · exact digits_ne _
theorem itoa_inj {m n : Int} (h0 : -9223372036854775808 ≤ m) (h1 : m ≤ 9223372036854775807) (k0 : -9223372036854775808 ≤ n) (k1 : n ≤ 9223372036854775807) (h : Lib.itoa m = Lib.itoa n) : m = n := by
  have e1 := atoi_itoa h0 h1
  rw [h, atoi_itoa k0 k1] at e1
  injection e1 with e1
  exact e1.symm
end Go.Fw
