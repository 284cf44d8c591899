/-
  The reference's Dec: a number's numeral (chapter 12). Condition: none.
-/
import Derived.Test.YteljecehppeamaaDoorNums
import Derived.Test.YteljecehppeamaaDoorStruct
import Derived.Lib.Hide
namespace Go.Fw
open Go.RowKit
set_option linter.unusedVariables false
set_option linter.unusedSimpArgs false
/-- what stands ahead of a number's last digit -/
def headD (m : Nat) : List UInt8 := if m < 10 then [] else Lib.decDigits (m / 10)
theorem digits_head (m : Nat) : Lib.decDigits m = headD m ++ [UInt8.ofNat (48 + m % 10)] := by
  unfold headD
  rw [Lib.decDigits]
  split
  · rename_i h
    rw [Nat.mod_eq_of_lt h]
    rfl
  · rfl
def tenB : ByteArray := ⟨#[48, 49, 50, 51, 52, 53, 54, 55, 56, 57]⟩
theorem ten_at : ∀ d : Fin 10, (tenB.extract d.val (d.val + 1)).data.toList = [UInt8.ofNat (48 + d.val)] := by decide
theorem ten_cut {d : Nat} (h : d < 10) : (tenB.extract d (d + 1)).data.toList = [UInt8.ofNat (48 + d)] := ten_at ⟨d, h⟩
theorem ten_size {d : Nat} (h : d < 10) : (tenB.extract d (d + 1)).size = 1 := by
  have h1 : tenB.size = 10 := rfl
  rw [ByteArray.size_extract]
  omega
theorem app_list (a b : ByteArray) : (a ++ b).data.toList = a.data.toList ++ b.data.toList := by
  rw [ByteArray.data_append, Array.toList_append]
theorem ret_s {a b : ByteArray} (h : a = b) : Ending.returned (.string a) = .returned (.string b) := by rw [h]
theorem decB_of {n : Int} {s : ByteArray} (h : s.data.toList = Lib.itoa n) : s = decB n := by
  cases s
  rename_i d
  unfold decB
  congr
  rw [← h]
end Go.Fw
namespace Go.Proofs.YteljecehppeamaaDoor
open Go.RowKit Go.Fw
set_option maxHeartbeats 1000000
set_option maxRecDepth 4000
set_option linter.unusedVariables false
set_option linter.unusedSimpArgs false
theorem dec_nat (n : Nat) (hn : n ≤ 9223372036854775807) (w : World) :
    Calls Tryd.prog 31 #[.int .i64 (n : Int)] w fun e w' => e = .returned (.string (decB (n : Int))) ∧ w = w' := by
  have hmod : (n : Int) % 10 = ((n % 10 : Nat) : Int) := by omega
  have hd : n % 10 < 10 := Nat.mod_lt _ (by decide)
  have hw : IntKind.i64.wrap (((n % 10 : Nat) : Int) + 1) = ((n % 10 : Nat) : Int) + 1 := IntWalk.i64_in _ ⟨by omega, by omega⟩
  have hn0 : ¬ (n : Int) < 0 := by omega
  have h0 := digits_head n
  rw [← ten_cut hd] at h0
  have H0 := Lib.hid h0
  clear h0
  generalize n % 10 = d0 at *
  go_enter Tryd.func31, Tryd.ntmps31
  go_wp2
  clear hmod hw hn0
  go_loop [0, 5] (fun a s => ∃ (m : Nat) (out : ByteArray), m ≤ n ∧ a = .int .i64 m ∧ s = .string out ∧ Hid (Lib.decDigits n = headD m ++ out.data.toList) ∧ out.size ≤ 100) (fun a _ => (intOf a).toNat)
  case atStart => exact ⟨n, _, Nat.le_refl _, rfl, rfl, H0, by show (tenB.extract d0 (d0 + 1)).size ≤ 100; rw [ten_size hd]; decide⟩
  case round =>
    obtain ⟨m, out, hmn, rfl, rfl, HM, hsz⟩ := hrel
    by_cases hm : m < 10
    · have hmI : (m : Int) < 10 := by omega
      go_wp2
      go_ret
      have e1 : out = decB (n : Int) := by
       refine decB_of ?_
       have h1 := HM.out
       unfold headD at h1
       rw [if_pos hm] at h1
       unfold Lib.itoa
       rw [if_neg (by omega), Int.toNat_natCast, h1]
       rfl
      exact ⟨by rw [← e1]; rfl, rfl⟩
    · have hmI : 10 ≤ (m : Int) := by omega
      have hq : (m : Int) / 10 = ((m / 10 : Nat) : Int) := by omega
      have hqd : m / 10 % 10 < 10 := Nat.mod_lt _ (by decide)
      have hmod : ((m / 10 : Nat) : Int) % 10 = ((m / 10 % 10 : Nat) : Int) := by omega
      have hw : IntKind.i64.wrap (((m / 10 % 10 : Nat) : Int) + 1) = ((m / 10 % 10 : Nat) : Int) + 1 := IntWalk.i64_in _ ⟨by omega, by omega⟩
      have hq2 : m / 10 < m := by omega
      have h1 : Lib.decDigits n = headD (m / 10) ++ ((tenB.extract (m / 10 % 10) (m / 10 % 10 + 1)) ++ out).data.toList := by
        have h2 := HM.out
        have h3 : headD m = Lib.decDigits (m / 10) := by unfold headD; rw [if_neg hm]
        rw [h2, h3, digits_head (m / 10), app_list, ten_cut hqd, List.append_assoc]
      have H1 := Lib.hid h1
      have hz1 : (({ data := #[48, 49, 50, 51, 52, 53, 54, 55, 56, 57] } : ByteArray).extract (m / 10 % 10) (m / 10 % 10 + 1)).size = 1 := ten_size hqd
      have hlen := congrArg List.length h1
      have hz2 : ((tenB.extract (m / 10 % 10) (m / 10 % 10 + 1)) ++ out).size ≤ 100 := by
        rw [Lib.decDigits_length, List.length_append] at hlen
        have h20 := Lib.nDigits_le20 n (by omega)
        have : ((tenB.extract (m / 10 % 10) (m / 10 % 10 + 1)) ++ out).data.toList.length = ((tenB.extract (m / 10 % 10) (m / 10 % 10 + 1)) ++ out).size := rfl
        omega
      have HZ2 := Lib.hid hz2
      have hz3 : ¬ 9223372036854775807 < 1 + out.size := by omega
      have hz4 : ¬ 9223372036854775807 < min (m / 10 % 10 + 1) 10 - m / 10 % 10 + out.size := by omega
      clear h1 HM hlen hz2
      generalize m / 10 % 10 = d at *
      generalize m / 10 = q at *
      go_wp2
      go_round
      case rel => exact ⟨q, _, by omega, rfl, rfl, H1, HZ2.out⟩
      case measure => simp [intOf]; omega
theorem dec_any (n : Int) (hn : In64 n) (w : World) :
    Calls Tryd.prog 31 #[.int .i64 n] w fun e w' => e = .returned (.string (decB n)) ∧ w = w' := by
  by_cases hneg : n < 0
  · obtain ⟨k, hk⟩ : ∃ k : Nat, n = -(k : Int) := ⟨n.natAbs, by omega⟩
    have hkb : k ≤ 9223372036854775808 := by unfold In64 at hn; omega
    have hk0 : 1 ≤ k := by omega
    have hmod : n.tmod 10 = -((k % 10 : Nat) : Int) := by rw [hk, Int.neg_tmod, Int.tmod_eq_emod_of_nonneg (by omega)]; omega
    have hdiv : n.tdiv 10 = -((k / 10 : Nat) : Int) := by rw [hk, Int.neg_tdiv, Int.tdiv_eq_ediv_of_nonneg (by omega)]; omega
    have hd : k % 10 < 10 := Nat.mod_lt _ (by decide)
    have hit : Lib.itoa n = 45 :: Lib.decDigits k := by
      unfold Lib.itoa
      rw [if_pos hneg, show n.natAbs = k by omega]
    by_cases h10 : -10 < n
    · have hkd : k % 10 = k := Nat.mod_eq_of_lt (by omega)
      have hfin : (⟨#[45]⟩ ++ decB (k : Int) : ByteArray) = decB n := decB_of (by
        rw [app_list, decB_list, hit]
        unfold Lib.itoa
        rw [if_neg (by omega), Int.toNat_natCast]
        rfl)
      have HF := Lib.hid hfin
      have hzk := decB_size (n := (k : Int)) (by omega) (by omega)
      have hz3 : ¬ 9223372036854775807 < 1 + (decB (k : Int)).size := by omega
      have hnn : - -((k : Nat) : Int) = (k : Int) := by omega
      rw [hkd] at hmod
      have hwn : IntKind.i64.wrap (- -(k : Int)) = (k : Int) := by rw [IntWalk.i64_in _ ⟨by omega, by omega⟩]; omega
      have hwk : IntKind.i64.wrap (k : Int) = (k : Int) := IntWalk.i64_in _ ⟨by omega, by omega⟩
      have hk9 : k ≤ 9 := by omega
      clear hfin hit hkd hdiv hzk hk hkb
      go_enter Tryd.func31, Tryd.ntmps31
      go_wp2_with fail
      refine (dec_nat k (by omega) _).mono ?_
      rintro e w' ⟨rfl, rfl⟩
      go_wp2
      go_ret
      exact ⟨ret_s HF.out, rfl⟩
    · have hfin : ((⟨#[45]⟩ ++ decB ((k / 10 : Nat) : Int)) ++ decB ((k % 10 : Nat) : Int) : ByteArray) = decB n := decB_of (by
        rw [app_list, app_list, decB_list, decB_list, hit]
        unfold Lib.itoa
        rw [if_neg (by omega), if_neg (by omega), Int.toNat_natCast, Int.toNat_natCast, digits_head k, Lib.decDigits_one hd]
        unfold headD
        rw [if_neg (by omega)]
        simp)
      have HF := Lib.hid hfin
      have hq : k / 10 ≤ 922337203685477580 := by omega
      clear hfin hit hk hkb hk0
      generalize k % 10 = d at *
      generalize k / 10 = q at *
      have hzd := decB_size (n := (d : Int)) (by omega) (by omega)
      have hzq := decB_size (n := (q : Int)) (by omega) (by omega)
      have hz3 : ¬ 9223372036854775807 < 1 + (decB (q : Int)).size := by omega
      have hz4 : ¬ 9223372036854775807 < 1 + (decB (q : Int)).size + (decB (d : Int)).size := by omega
      clear hzd hzq
      have hn1 : - -((d : Nat) : Int) = (d : Int) := by omega
      have hn2 : - -((q : Nat) : Int) = (q : Int) := by omega
      have hw1 : IntKind.i64.wrap (- -(d : Int)) = (d : Int) := by rw [IntWalk.i64_in _ ⟨by omega, by omega⟩]; omega
      have hw2 : IntKind.i64.wrap (- -(q : Int)) = (q : Int) := by rw [IntWalk.i64_in _ ⟨by omega, by omega⟩]; omega
      have hw3 : IntKind.i64.wrap (d : Int) = (d : Int) := IntWalk.i64_in _ ⟨by omega, by omega⟩
      have hw4 : IntKind.i64.wrap (q : Int) = (q : Int) := IntWalk.i64_in _ ⟨by omega, by omega⟩
      go_enter Tryd.func31, Tryd.ntmps31
      go_wp2_with fail
      refine (dec_nat q (by omega) _).mono ?_
      rintro e w' ⟨rfl, rfl⟩
      go_wp2_with fail
      refine (dec_nat d (by omega) _).mono ?_
      rintro e w' ⟨rfl, rfl⟩
      go_wp2
      go_ret
      exact ⟨ret_s HF.out, rfl⟩
  · obtain ⟨k, rfl⟩ : ∃ k : Nat, n = (k : Int) := ⟨n.toNat, by omega⟩
    exact dec_nat k (by unfold In64 at hn; omega) w
end Go.Proofs.YteljecehppeamaaDoor
