/-
  Chapter 25 in plain Lean: locks as two masks and a line. Condition: none.
-/
import Derived.Test.YtlkappmielllcaaTail
import Derived.Test.YtlkappmielllcaaRegion
namespace Go.Fw
open Go.RowKit
set_option linter.unusedVariables false
set_option linter.unusedSimpArgs false

def bitN (t : Int) : Nat := if 0 ≤ t ∧ t < 32 then 2 ^ t.toNat else 0
theorem bitN_lt (t : Int) : bitN t < 4294967296 := by
  unfold bitN
  split
  · have : 2 ^ t.toNat ≤ 2 ^ 31 := Nat.pow_le_pow_right (by omega) (by omega)
    omega
  · omega
theorem bitN_zero {t : Int} (h : ¬ (0 ≤ t ∧ t < 32)) : bitN t = 0 := if_neg h
theorem bitN_pow {t : Int} (h : 0 ≤ t ∧ t < 32) : bitN t = 2 ^ t.toNat := if_pos h
theorem bitN_pos {t : Int} (h : 0 ≤ t ∧ t < 32) : 0 < bitN t := by rw [bitN_pow h]; exact Nat.two_pow_pos _

theorem ofInt_u32 (a : Nat) (ha : a < 4294967296) : (BitVec.ofInt 32 (a : Int)).toNat = a := by
  rw [BitVec.ofInt_natCast, BitVec.toNat_ofNat]; exact Nat.mod_eq_of_lt (by omega)
theorem m32_and (a b : Nat) (ha : a < 4294967296) (hb : b < 4294967296) : bits .and .u32 (a : Int) (b : Int) = ((a &&& b : Nat) : Int) := by
  have hx : a &&& b < 2 ^ 32 := Nat.and_lt_two_pow _ (by omega)
  show IntKind.u32.wrap ((BitVec.ofInt 32 (a : Int) &&& BitVec.ofInt 32 (b : Int)).toNat : Int) = _
  rw [BitVec.toNat_and, ofInt_u32 a ha, ofInt_u32 b hb]
  simp [IntKind.wrap, IntKind.bits, IntKind.signed]
  omega
theorem m32_or (a b : Nat) (ha : a < 4294967296) (hb : b < 4294967296) : bits .or .u32 (a : Int) (b : Int) = ((a ||| b : Nat) : Int) := by
  have hx : a ||| b < 2 ^ 32 := Nat.or_lt_two_pow (by omega) (by omega)
  show IntKind.u32.wrap ((BitVec.ofInt 32 (a : Int) ||| BitVec.ofInt 32 (b : Int)).toNat : Int) = _
  rw [BitVec.toNat_or, ofInt_u32 a ha, ofInt_u32 b hb]
  simp [IntKind.wrap, IntKind.bits, IntKind.signed]
  omega

/-- a lock: who reads, who writes (masks), who waits (a task, and whether it writes) -/
structure Lk where
  r : Nat
  w : Nat
  line : List (Int × Bool)
structure Lk.ok (l : Lk) : Prop where
  r : l.r < 4294967296
  w : l.w < 4294967296
  line : ∀ x ∈ l.line, 0 ≤ x.1 ∧ x.1 < 32
def wantC (x : Int × Bool) : List Value := [.int .i64 x.1, .bool x.2]
def lineV (l : List (Int × Bool)) : List Value := l.flatMap wantC
theorem wantC_length (x : Int × Bool) : (wantC x).length = 2 := rfl
theorem lineV_length (l : List (Int × Bool)) : (lineV l).length = l.length * 2 := flat_length _ 2 wantC_length l
def heldN (l : Lk) (t : Int) : Int := if bitN t = 0 then 0 else if l.w &&& bitN t ≠ 0 then 2 else if l.r &&& bitN t ≠ 0 then 1 else 0
def fitsB (l : Lk) (write : Bool) : Bool := decide (l.w = 0) && (!write || decide (l.r = 0))
def giveL (l : Lk) (x : Int × Bool) : Lk := if x.2 then { l with w := l.w ||| bitN x.1 } else { l with r := l.r ||| bitN x.1 }
end Go.Fw
namespace Go.Proofs.Ytlkappmielllcaa
open Go.RowKit Go.Fw
set_option maxHeartbeats 1000000
set_option maxRecDepth 4000
set_option linter.unusedVariables false
set_option linter.unusedSimpArgs false

theorem bit_any (t : Int) (w : World) (ht : -9223372036854775808 ≤ t ∧ t ≤ 9223372036854775807) : Calls Try.prog 25 #[.int .i64 t] w fun e w' => e = .returned (.int .u32 (bitN t : Int)) ∧ w = w' := by
  obtain ⟨h0, h1⟩ := ht
  by_cases hr : 0 ≤ t ∧ t < 32
  · have HF := Lib.hid (bitN_pow hr)
    obtain ⟨hr0, hr1⟩ := hr
    have i1 : ¬ t < 0 := by omega
    have i2 : ¬ 32 ≤ t := by omega
    go_enter Try.func25, Try.ntmps25
    go_wp2
    go_ret
    refine ⟨ret_i ?_, rfl⟩
    rw [HF.out]
    have hlt := bitN_lt t
    rw [HF.out] at hlt
    have e : ((2 : Int) ^ t.toNat) = ((2 ^ t.toNat : Nat) : Int) := by simp
    rw [e]
    generalize 2 ^ t.toNat = b at *
    clear e
    omega
  · have HF : Hid ((0 : Int) = (bitN t : Int)) := by show _ = _; rw [bitN_zero hr]; rfl
    have hc : t < 0 ∨ (¬ t < 0 ∧ 32 ≤ t) := by omega
    clear hr
    rcases hc with h | ⟨h, h2⟩
    all_goals
      go_enter Try.func25, Try.ntmps25
      go_wp2
      go_ret
      exact ⟨ret_i HF.out, rfl⟩

/-- a lock in memory: at the head of block p, whatever stands behind it -/
def LockAt (w : World) (p B : Nat) (t : TypeId) (rest : List Value) (sl : Value) (l : Lk) : Prop :=
  Blk w p t (.int .u32 l.r :: .int .u32 l.w :: sl :: rest).toArray ∧ TailRow w B 60 2 sl l.line.length (lineV l.line)
theorem LockAt.c0 {w : World} {p B : Nat} {t : TypeId} {rest : List Value} {sl : Value} {l : Lk} (h : LockAt w p B t rest sl l) : w.cell? ⟨p, 0, none⟩ = some (.int .u32 l.r) := by rw [h.1.cell]; rfl
theorem LockAt.c1 {w : World} {p B : Nat} {t : TypeId} {rest : List Value} {sl : Value} {l : Lk} (h : LockAt w p B t rest sl l) : w.cell? ⟨p, 1, none⟩ = some (.int .u32 l.w) := by rw [h.1.cell]; rfl
theorem LockAt.c2 {w : World} {p B : Nat} {t : TypeId} {rest : List Value} {sl : Value} {l : Lk} (h : LockAt w p B t rest sl l) : w.cell? ⟨p, 2, none⟩ = some sl := by rw [h.1.cell]; rfl

theorem held_any (p B : Nat) (ty : TypeId) (rest : List Value) (sl : Value) (l : Lk) (t : Int) (w : World) (h : LockAt w p B ty rest sl l) (hl : l.ok) (ht : -9223372036854775808 ≤ t ∧ t ≤ 9223372036854775807) :
    Calls Try.prog 11 #[.pointer (some ⟨p, 0, none⟩), .int .i64 t] w fun e w' => e = .returned (.int .i64 (heldN l t)) ∧ w = w' := by
  have c0 := h.c0
  have c1 := h.c1
  have hbl := bitN_lt t
  have a1 := m32_and l.w (bitN t) hl.w hbl
  have a2 := m32_and l.r (bitN t) hl.r hbl
  have hh : heldN l t = if bitN t = 0 then 0 else if l.w &&& bitN t ≠ 0 then 2 else if l.r &&& bitN t ≠ 0 then 1 else 0 := rfl
  have hbt := bit_any t w ht
  generalize bitN t = b at *
  have HH := Lib.hid hh
  have HBT := Lib.hid hbt
  clear hh hbt
  by_cases hb : b = 0
  · have HX : Hid (heldN l t = 0) := by show _ = _; rw [HH.out, if_pos hb]
    have d1 : ((b : Int) == 0) = true := by simp; omega
    clear hb a1 a2
    go_enter Try.func11, Try.ntmps11
    go_wp2_with fail
    refine HBT.out.mono ?_
    rintro e w1 ⟨rfl, rfl⟩
    go_wp2
    go_ret
    exact ⟨ret_i HX.out.symm, rfl⟩
  · have d1 : ((b : Int) == 0) = false := by simp; omega
    have HB := Lib.hid hb
    clear hb
    generalize hx : l.w &&& b = x at *
    generalize hy : l.r &&& b = y at *
    have HA1 := Lib.hid hx
    have HA2 := Lib.hid hy
    clear hx hy
    by_cases hx : x = 0
    · have d2 : ((x : Int) != 0) = false := by simp; omega
      by_cases hy : y = 0
      · have d3 : ((y : Int) != 0) = false := by simp; omega
        have HX : Hid (heldN l t = 0) := by show _ = _; rw [HH.out, if_neg HB.out, if_neg (by simp [hx]), if_neg (by simp [hy])]
        clear hx hy
        go_enter Try.func11, Try.ntmps11
        go_wp2_with fail
        refine HBT.out.mono ?_
        rintro e w1 ⟨rfl, rfl⟩
        go_wp2
        go_ret
        exact ⟨ret_i HX.out.symm, rfl⟩
      · have d3 : ((y : Int) != 0) = true := by simp; omega
        have HX : Hid (heldN l t = 1) := by show _ = _; rw [HH.out, if_neg HB.out, if_neg (by simp [hx]), if_pos hy]
        clear hx hy
        go_enter Try.func11, Try.ntmps11
        go_wp2_with fail
        refine HBT.out.mono ?_
        rintro e w1 ⟨rfl, rfl⟩
        go_wp2
        go_ret
        exact ⟨ret_i HX.out.symm, rfl⟩
    · have d2 : ((x : Int) != 0) = true := by simp; omega
      have HX : Hid (heldN l t = 2) := by show _ = _; rw [HH.out, if_neg HB.out, if_pos hx]
      clear hx
      go_enter Try.func11, Try.ntmps11
      go_wp2_with fail
      refine HBT.out.mono ?_
      rintro e w1 ⟨rfl, rfl⟩
      go_wp2
      go_ret
      exact ⟨ret_i HX.out.symm, rfl⟩
theorem held_nil (t : Int) (w : World) (ht : -9223372036854775808 ≤ t ∧ t ≤ 9223372036854775807) :
    Calls Try.prog 11 #[.pointer none, .int .i64 t] w fun e w' => e = .returned (.int .i64 0) ∧ w = w' := by
  go_enter Try.func11, Try.ntmps11
  go_wp2_with fail
  refine (bit_any t w ht).mono ?_
  rintro e w1 ⟨rfl, rfl⟩
  go_wp2
  go_ret
  exact ⟨rfl, rfl⟩
end Go.Proofs.Ytlkappmielllcaa
