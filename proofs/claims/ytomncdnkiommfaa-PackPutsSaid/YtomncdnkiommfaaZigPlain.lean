/-
  Chapter 6 in plain Lean: numbers as few bytes; what the bit operations come to. Condition: none.
-/
import Derived.Test.YtomncdnkiommfaaBase
import Derived.Laws.BitsAllLaws
namespace Go.Fw
theorem u64wrap (n : Int) : IntKind.u64.wrap n = n % 18446744073709551616 := by simp [IntKind.wrap, IntKind.bits, IntKind.signed]
theorem i64wrap (n : Int) : IntKind.i64.wrap n = (n + 9223372036854775808) % 18446744073709551616 - 9223372036854775808 := by
  simp [IntKind.wrap, IntKind.bits, IntKind.signed]; split <;> omega

theorem xor64_zero (x : Int) (h0 : -9223372036854775808 ≤ x) (h1 : x ≤ 9223372036854775807) : bits .xor .i64 x 0 = x := by
  show IntKind.i64.wrap ((BitVec.ofInt 64 x ^^^ BitVec.ofInt 64 0).toNat : Int) = _
  have e : BitVec.ofInt 64 0 = 0#64 := by decide
  rw [e, BitVec.xor_zero, BitVec.toNat_ofInt, i64wrap]
  omega
theorem xor64_ones (x : Int) (h0 : -9223372036854775808 ≤ x) (h1 : x ≤ 9223372036854775807) : bits .xor .i64 x (-1) = -1 - x := by
  show IntKind.i64.wrap ((BitVec.ofInt 64 x ^^^ BitVec.ofInt 64 (-1)).toNat : Int) = _
  have e : BitVec.ofInt 64 (-1) = BitVec.allOnes 64 := by decide
  rw [e, BitVec.xor_allOnes, BitVec.toNat_not, i64wrap, BitVec.toNat_ofInt]
  omega
theorem xoru_zero (x : Int) (h0 : 0 ≤ x) (h1 : x < 18446744073709551616) : bits .xor .u64 x 0 = x := by
  show IntKind.u64.wrap ((BitVec.ofInt 64 x ^^^ BitVec.ofInt 64 0).toNat : Int) = _
  have e : BitVec.ofInt 64 0 = 0#64 := by decide
  rw [e, BitVec.xor_zero, BitVec.toNat_ofInt, u64wrap]
  omega
theorem xoru_ones (x : Int) (h0 : 0 ≤ x) (h1 : x < 18446744073709551616) : bits .xor .u64 x 18446744073709551615 = 18446744073709551615 - x := by
  show IntKind.u64.wrap ((BitVec.ofInt 64 x ^^^ BitVec.ofInt 64 18446744073709551615).toNat : Int) = _
  have e : BitVec.ofInt 64 18446744073709551615 = BitVec.allOnes 64 := by decide
  rw [e, BitVec.xor_allOnes, BitVec.toNat_not, u64wrap, BitVec.toNat_ofInt]
  omega

/-- A number without a sign, and back: chapter 6. -/
def zig (n : Int) : Int := if 0 ≤ n then 2 * n else 2 * (-1 - n) + 1
def zag (n : Int) : Int := if n % 2 = 0 then n / 2 else -1 - n / 2
theorem zag_zig (n : Int) : zag (zig n) = n := by unfold zag zig; split <;> split <;> omega
theorem zig_zag (n : Int) (h : 0 ≤ n) : zig (zag n) = n := by unfold zag zig; split <;> split <;> omega
theorem zig_bd (n : Int) (h0 : -9223372036854775808 ≤ n) (h1 : n ≤ 9223372036854775807) : 0 ≤ zig n ∧ zig n < 18446744073709551616 := by unfold zig; split <;> omega
theorem zag_bd (n : Int) (h0 : 0 ≤ n) (h1 : n < 18446744073709551616) : -9223372036854775808 ≤ zag n ∧ zag n ≤ 9223372036854775807 := by unfold zag; split <;> omega

theorem zag_bits (n : Int) (h0 : 0 ≤ n) (h1 : n < 18446744073709551616) :
    bits .xor .i64 (n / 2) (Go.RowKit.wrap64 (-Go.RowKit.wrap64 (bits .and .u64 n 1))) = zag n := by
  obtain ⟨m, rfl⟩ := Int.eq_ofNat_of_zero_le h0
  have e : bits .and .u64 (m : Int) 1 = ((m % 2 : Nat) : Int) := by
    have := u64_and_nat m 1 (by omega) (by omega)
    rw [nat_mask1] at this
    exact this
  rw [e]
  unfold zag
  by_cases h : m % 2 = 0
  · rw [h, if_pos (by omega)]
    have e2 : Go.RowKit.wrap64 (-Go.RowKit.wrap64 ((0 : Nat) : Int)) = 0 := by unfold Go.RowKit.wrap64; omega
    rw [e2, xor64_zero _ (by omega) (by omega)]
  · have h' : m % 2 = 1 := by omega
    rw [h', if_neg (by omega)]
    have e2 : Go.RowKit.wrap64 (-Go.RowKit.wrap64 ((1 : Nat) : Int)) = -1 := by unfold Go.RowKit.wrap64; omega
    rw [e2, xor64_ones _ (by omega) (by omega)]
theorem zig_bits (n : Int) (h0 : -9223372036854775808 ≤ n) (h1 : n ≤ 9223372036854775807) :
    bits .xor .u64 (IntKind.u64.wrap (IntKind.u64.wrap n * 2)) (IntKind.u64.wrap (n / 9223372036854775808)) = zig n := by
  simp only [u64wrap]
  unfold zig
  by_cases h : 0 ≤ n
  · rw [if_pos h]
    have e : n / 9223372036854775808 % 18446744073709551616 = 0 := by omega
    rw [e, xoru_zero _ (by omega) (by omega)]
    omega
  · rw [if_neg h]
    have e : n / 9223372036854775808 % 18446744073709551616 = 18446744073709551615 := by omega
    rw [e, xoru_ones _ (by omega) (by omega)]
    omega
/-- What bytes begin with: the number, how many bytes it has, and 0; 1 if one of them is wrong, 2 if they end too early. -/
def getL : List UInt8 → Nat → Nat → Int × Int × Int
  | [], _, _ => (0, 0, 2)
  | x :: r, i, s =>
    if i = 9 ∧ 1 < x.toNat ∨ 0 < i ∧ x.toNat = 0 then (0, 0, 1)
    else if x.toNat < 128 then (zag ((s + x.toNat % 128 * 2 ^ (7 * i) : Nat) : Int), ((i + 1 : Nat) : Int), 0)
    else getL r (i + 1) (s + x.toNat % 128 * 2 ^ (7 * i))
theorem getL_nil (i s : Nat) : getL [] i s = (0, 0, 2) := rfl
theorem getL_bad {l : List UInt8} {k m : Nat} (s : Nat) (hk : k < l.length) (hm : l[k].toNat = m) (h : k = 9 ∧ 1 < m ∨ 0 < k ∧ m = 0) :
    getL (l.drop k) k s = (0, 0, 1) := by
  rw [List.drop_eq_getElem_cons hk, getL, hm, if_pos h]
theorem getL_end {l : List UInt8} {k m : Nat} (s : Nat) (hk : k < l.length) (hm : l[k].toNat = m) (h : ¬ (k = 9 ∧ 1 < m ∨ 0 < k ∧ m = 0)) (h2 : m < 128) :
    getL (l.drop k) k s = (zag ((s + m % 128 * 2 ^ (7 * k) : Nat) : Int), ((k + 1 : Nat) : Int), 0) := by
  rw [List.drop_eq_getElem_cons hk, getL, hm, if_neg h, if_pos h2]
theorem getL_on {l : List UInt8} {k m : Nat} (s : Nat) (hk : k < l.length) (hm : l[k].toNat = m) (h : ¬ (k = 9 ∧ 1 < m ∨ 0 < k ∧ m = 0)) (h2 : 128 ≤ m) :
    getL (l.drop k) k s = getL (l.drop (k + 1)) (k + 1) (s + m % 128 * 2 ^ (7 * k)) := by
  rw [List.drop_eq_getElem_cons hk, getL, hm, if_neg h, if_neg (by omega)]
/-- The errors as the program numbers them. -/
def perr (e : Int) : Int := if e = 1 then 10 else if e = 2 then 11 else 0

theorem p7 (k : Nat) (h : k ≤ 9) : 2 ^ (7 * k) ≤ 9223372036854775808 := by
  have : 2 ^ (7 * k) ≤ 2 ^ 63 := Nat.pow_le_pow_right (by omega) (by omega)
  simpa using this
theorem p7s (k : Nat) : 2 ^ (7 * (k + 1)) = 128 * 2 ^ (7 * k) := by
  rw [show 7 * (k + 1) = 7 * k + 7 by omega, Nat.pow_add]; omega
/-- One byte more: what the program's or comes to. -/
theorem or_step (k n m : Nat) (hk : k ≤ 9) (h9 : k = 9 → m ≤ 1) (hm : m < 256) (hn : n < 2 ^ (7 * k)) (x : Nat) (hx : x = m % 128) :
    bits .or .u64 (n : Int) (IntKind.u64.wrap (IntKind.u64.wrap (bits .and .u8 (m : Int) 127) * 2 ^ (7 * k))) = ((n + x * 2 ^ (7 * k) : Nat) : Int) ∧
      n + x * 2 ^ (7 * k) < 18446744073709551616 ∧ n + x * 2 ^ (7 * k) < 2 ^ (7 * (k + 1)) := by
  subst hx
  have e : bits .and .u8 (m : Int) 127 = ((m % 128 : Nat) : Int) := by
    have := u8_and_nat m 127 hm (by omega)
    rw [nat_mask7] at this
    exact this
  have hp := p7 k hk
  generalize hP : 2 ^ (7 * k) = p at *
  have hb : m % 128 * p ≤ 18446744073709551616 - p := by
    by_cases h : k = 9
    · have h1 := h9 h
      subst h
      have : p = 9223372036854775808 := hP.symm
      have : m % 128 ≤ 1 := by omega
      rcases Nat.le_one_iff_eq_zero_or_eq_one.1 this with h | h <;> rw [h] <;> omega
    · have h8 : p ≤ 72057594037927936 := by
        rw [← hP]
        have : 2 ^ (7 * k) ≤ 2 ^ 56 := Nat.pow_le_pow_right (by omega) (by omega)
        simpa using this
      have : m % 128 * p ≤ 127 * p := Nat.mul_le_mul_right p (by omega)
      omega
  have hs : 2 ^ (7 * (k + 1)) = 128 * p := by rw [p7s, hP]
  have h127 : m % 128 * p ≤ 127 * p := Nat.mul_le_mul_right p (by omega)
  have e2 : IntKind.u64.wrap (IntKind.u64.wrap ((m % 128 : Nat) : Int) * 2 ^ (7 * k)) = ((m % 128 * p : Nat) : Int) := by
    simp only [u64wrap]
    rw [show ((m % 128 : Nat) : Int) % 18446744073709551616 = ((m % 128 : Nat) : Int) by omega]
    have : ((m % 128 : Nat) : Int) * 2 ^ (7 * k) = ((m % 128 * p : Nat) : Int) := by rw [← hP]; push_cast; rfl
    rw [this]
    omega
  have hn' : n < p := hn
  rw [e, e2, u64_or_nat _ _ (by omega) (by omega), Nat.or_comm, nat_join (7 * k) _ _ (by rw [hP]; exact Nat.mul_mod_left _ _) (by rw [hP]; exact hn)]
  refine ⟨by rw [Nat.add_comm], by omega, by rw [hs]; omega⟩
theorem sum_step (k n m p : Nat) (hk : k ≤ 9) (h9 : k = 9 → m ≤ 1) (hm : m < 256) (hn : n < p) (hp : p = 2 ^ (7 * k)) :
    IntKind.u64.wrap ((n : Int) + IntKind.u64.wrap ((m : Int) % 128 * (p : Int))) = ((n + m % 128 * p : Nat) : Int) ∧
      n + m % 128 * p < 18446744073709551616 ∧ n + m % 128 * p < 128 * p := by
  subst hp
  have h := or_step k n m hk h9 hm hn _ rfl
  refine ⟨?_, h.2.1, by rw [← p7s]; exact h.2.2⟩
  generalize 2 ^ (7 * k) = q at *
  have e : (m : Int) % 128 * (q : Int) = ((m % 128 * q : Nat) : Int) := by push_cast; rfl
  rw [e]
  simp only [u64wrap]
  omega
/-- The bytes of a number without a sign; f + 1 of them are enough below 128 to that. -/
def putF : Nat → Nat → List UInt8
  | 0, w => [UInt8.ofNat w]
  | f + 1, w => if w < 128 then [UInt8.ofNat w] else UInt8.ofNat (w % 128 + 128) :: putF f (w / 128)
def putN (n : Int) : List UInt8 := putF 9 (zig n).toNat
def putL (l : List Int) : List UInt8 := l.flatMap putN
theorem putF_lt (f w : Nat) (h : w < 128) : putF f w = [UInt8.ofNat w] := by cases f <;> simp [putF, h]
theorem putF_ge (f w : Nat) (h : 128 ≤ w) : putF (f + 1) w = UInt8.ofNat (w % 128 + 128) :: putF f (w / 128) := by rw [putF, if_neg (by omega)]
theorem putF_length (f w : Nat) : 1 ≤ (putF f w).length ∧ (putF f w).length ≤ f + 1 := by
  induction f generalizing w with
  | zero => simp [putF]
  | succ f ih =>
    rw [putF]
    split
    · simp
    · have := ih (w / 128)
      simp only [List.length_cons]; omega
theorem putN_length (n : Int) : 1 ≤ (putN n).length ∧ (putN n).length ≤ 10 := putF_length _ _
theorem putL_length (l : List Int) : (putL l).length ≤ 10 * l.length := by
  induction l with
  | nil => simp [putL]
  | cons n l ih =>
    have := putN_length n
    simp only [putL, List.flatMap_cons, List.length_append, List.length_cons] at *
    omega
theorem putL_snoc (l : List Int) (k : Nat) (h : k < l.length) : putL (l.take (k + 1)) = putL (l.take k) ++ putN l[k] := by
  rw [List.take_succ_eq_append_getElem h, putL, List.flatMap_append, List.flatMap_cons, List.flatMap_nil, List.append_nil]
  rfl
theorem putL_nil : putL [] = [] := rfl
theorem or128 (w : Nat) : bits .or .u8 (IntKind.u8.wrap (w : Int)) 128 = ((w % 128 + 128 : Nat) : Int) := by
  have e : IntKind.u8.wrap (w : Int) = ((w % 256 : Nat) : Int) := by rw [IntKind.wrap_u8']; omega
  have h := u8_or_nat (w % 256) 128 (by omega) (by omega)
  rw [e]
  refine h.trans ?_
  congr 1
  by_cases hb : w % 256 < 128
  · rw [Nat.or_comm, nat_join 7 128 (w % 256) (by decide) (by omega)]; omega
  · have e2 : w % 256 = 128 + w % 128 := by omega
    rw [e2, ← nat_join 7 128 (w % 128) (by decide) (by omega), Nat.or_assoc, Nat.or_comm (w % 128) 128, ← Nat.or_assoc, Nat.or_self, nat_join 7 128 (w % 128) (by decide) (by omega)]
    omega
theorem byte_of (x : Nat) (h : x < 256) : ((UInt8.ofNat x).toNat : Int) = (x : Int) := by simp; omega
theorem u8_lo (m : Nat) : IntKind.u8.wrap ((m : Int) % 128 + 128) = ((m % 128 + 128 : Nat) : Int) := by rw [IntKind.wrap_u8']; omega
theorem u8_id (m : Nat) (h : m < 256) : IntKind.u8.wrap (m : Int) = (m : Int) := by rw [IntKind.wrap_u8']; omega
theorem u64_div (m : Nat) (h : m < 18446744073709551616) : IntKind.u64.wrap ((m : Int) / 128) = ((m / 128 : Nat) : Int) := by rw [u64wrap]; omega
theorem lt_pow (m f : Nat) (h : m < 128 ^ (f + 1 + 1)) : m / 128 < 128 ^ (f + 1) := by rw [Nat.pow_succ] at h; omega
theorem getL_code (l : List UInt8) (i s : Nat) : (getL l i s).2.2 = 0 ∨ (getL l i s).2.2 = 1 ∨ (getL l i s).2.2 = 2 := by
  induction l generalizing i s with
  | nil => exact .inr (.inr rfl)
  | cons x r ih =>
    rw [getL]
    split
    · exact .inr (.inl rfl)
    · split
      · exact .inl rfl
      · exact ih _ _
end Go.Fw
