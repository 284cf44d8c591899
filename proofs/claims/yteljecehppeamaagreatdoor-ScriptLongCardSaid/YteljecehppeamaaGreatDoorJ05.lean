/-
  5 texts of this claim, joined; each says itself what it proves. Condition: as each text says.
-/
import Derived.Test.YteljecehppeamaaGreatDoorJ01
import Derived.Test.YteljecehppeamaaGreatDoorJ04
import Derived.Shelf.Strings.BuilderK
import Derived.Test.YteljecehppeamaaGreatDoorJ02
import Derived.Lib.Hide
import Derived.Deep.RegionHeld3
import Derived.Deep.Quiet
import Derived.Test.YteljecehppeamaaGreatDoorJ03
import Derived.ChangeKeysEq
/-
  strings.Builder as the walks want it: WriteByte, WriteString, String. Condition: few bytes.
-/
namespace Go.Proofs
open Go.Shelf
def Tryz.lbws_ren : Go.Shelf.Ren := ⟨fun | 166 => 17 | 240 => 35 | 276 => 52 | n => n, fun | 70 => 51 | 9 => 9 | 3 => 3 | 75 => 57 | 0 => 0 | 72 => 54 | 37 => 52 | 4 => 4 | 164 => 89 | 80 => 45 | 5 => 5 | 20 => 20 | n => n, fun | n => n⟩
theorem Tryz.lbws : Go.Proofs.Lays.n166 Tryz.prog Tryz.lbws_ren := {
  mixed := by kernel_rfl
  f166 := Tryz.func17.trans (congrArg some (by kernel_rfl))
  f240 := Tryz.func35.trans (congrArg some (by kernel_rfl))
  f276 := Tryz.func52.trans (congrArg some (by kernel_rfl))
  t0 := Tryz.underlying0
  a0 := Tryz.isAgg0
  z0 := Tryz.sizeOf0
  v0 := Tryz.zeroValue0
  t3 := Tryz.underlying3
  a3 := Tryz.isAgg3
  z3 := Tryz.sizeOf3
  v3 := Tryz.zeroValue3
  t4 := Tryz.underlying4
  a4 := Tryz.isAgg4
  z4 := Tryz.sizeOf4
  v4 := Tryz.zeroValue4
  t9 := Tryz.underlying9
  a9 := Tryz.isAgg9
  z9 := Tryz.sizeOf9
  v9 := Tryz.zeroValue9
  t20 := Tryz.underlying20
  a20 := Tryz.isAgg20
  z20 := Tryz.sizeOf20
  v20 := Tryz.zeroValue20
  t37 := Tryz.underlying52
  a37 := Tryz.isAgg52
  z37 := Tryz.sizeOf52
  v37 := Tryz.zeroValue52
  t70 := Tryz.underlying51
  a70 := Tryz.isAgg51
  z70 := Tryz.sizeOf51
  v70 := Tryz.zeroValue51
  t72 := Tryz.underlying54
  a72 := Tryz.isAgg54
  z72 := Tryz.sizeOf54
  v72 := Tryz.zeroValue54
  t75 := Tryz.underlying57
  a75 := Tryz.isAgg57
  z75 := Tryz.sizeOf57
  v75 := Tryz.zeroValue57
  t164 := Tryz.underlying89
  a164 := Tryz.isAgg89
  z164 := Tryz.sizeOf89
  v164 := Tryz.zeroValue89 }
def Tryz.lbwb_ren : Go.Shelf.Ren := ⟨fun | 167 => 19 | 240 => 35 | 276 => 52 | n => n, fun | 70 => 51 | 5 => 5 | 75 => 57 | 0 => 0 | 72 => 54 | 37 => 52 | 4 => 4 | 164 => 89 | 80 => 45 | 9 => 9 | 20 => 20 | n => n, fun | n => n⟩
theorem Tryz.lbwb : Go.Proofs.Lays.n167 Tryz.prog Tryz.lbwb_ren := {
  mixed := by kernel_rfl
  f167 := Tryz.func19.trans (congrArg some (by kernel_rfl))
  f240 := Tryz.func35.trans (congrArg some (by kernel_rfl))
  f276 := Tryz.func52.trans (congrArg some (by kernel_rfl))
  t0 := Tryz.underlying0
  a0 := Tryz.isAgg0
  z0 := Tryz.sizeOf0
  v0 := Tryz.zeroValue0
  t4 := Tryz.underlying4
  a4 := Tryz.isAgg4
  z4 := Tryz.sizeOf4
  v4 := Tryz.zeroValue4
  t5 := Tryz.underlying5
  a5 := Tryz.isAgg5
  z5 := Tryz.sizeOf5
  v5 := Tryz.zeroValue5
  t9 := Tryz.underlying9
  a9 := Tryz.isAgg9
  z9 := Tryz.sizeOf9
  v9 := Tryz.zeroValue9
  t20 := Tryz.underlying20
  a20 := Tryz.isAgg20
  z20 := Tryz.sizeOf20
  v20 := Tryz.zeroValue20
  t37 := Tryz.underlying52
  a37 := Tryz.isAgg52
  z37 := Tryz.sizeOf52
  v37 := Tryz.zeroValue52
  t70 := Tryz.underlying51
  a70 := Tryz.isAgg51
  z70 := Tryz.sizeOf51
  v70 := Tryz.zeroValue51
  t72 := Tryz.underlying54
  a72 := Tryz.isAgg54
  z72 := Tryz.sizeOf54
  v72 := Tryz.zeroValue54
  t75 := Tryz.underlying57
  a75 := Tryz.isAgg57
  z75 := Tryz.sizeOf57
  v75 := Tryz.zeroValue57
  t164 := Tryz.underlying89
  a164 := Tryz.isAgg89
  z164 := Tryz.sizeOf89
  v164 := Tryz.zeroValue89 }
def Tryz.lbst_ren : Go.Shelf.Ren := ⟨fun | 169 => 25 | n => n, fun | 70 => 51 | 9 => 9 | 0 => 0 | 72 => 54 | 37 => 52 | 127 => 82 | 3 => 3 | 5 => 5 | 20 => 20 | n => n, fun | n => n⟩
theorem Tryz.lbst : Go.Proofs.Lays.n169 Tryz.prog Tryz.lbst_ren := {
  mixed := by kernel_rfl
  f169 := Tryz.func25.trans (congrArg some (by kernel_rfl))
  t0 := Tryz.underlying0
  a0 := Tryz.isAgg0
  z0 := Tryz.sizeOf0
  v0 := Tryz.zeroValue0
  t3 := Tryz.underlying3
  a3 := Tryz.isAgg3
  z3 := Tryz.sizeOf3
  v3 := Tryz.zeroValue3
  t9 := Tryz.underlying9
  a9 := Tryz.isAgg9
  z9 := Tryz.sizeOf9
  v9 := Tryz.zeroValue9
  t37 := Tryz.underlying52
  a37 := Tryz.isAgg52
  z37 := Tryz.sizeOf52
  v37 := Tryz.zeroValue52
  t70 := Tryz.underlying51
  a70 := Tryz.isAgg51
  z70 := Tryz.sizeOf51
  v70 := Tryz.zeroValue51
  t72 := Tryz.underlying54
  a72 := Tryz.isAgg54
  z72 := Tryz.sizeOf54
  v72 := Tryz.zeroValue54
  t127 := Tryz.underlying82
  a127 := Tryz.isAgg82
  z127 := Tryz.sizeOf82
  v127 := Tryz.zeroValue82 }
theorem Tryz.xbws : Builder.Extra Tryz.prog Tryz.lbws_ren := ⟨⟨by kernel_rfl, by kernel_rfl⟩, Tryz.underlying5, Tryz.isAgg5, Tryz.sizeOf5, Tryz.zeroValue5, by kernel_rfl, by kernel_rfl, by kernel_rfl, by decide⟩
theorem Tryz.xbwb : Builder.Extra Tryz.prog Tryz.lbwb_ren := ⟨⟨by kernel_rfl, by kernel_rfl⟩, Tryz.underlying5, Tryz.isAgg5, Tryz.sizeOf5, Tryz.zeroValue5, by kernel_rfl, by kernel_rfl, by kernel_rfl, by decide⟩
theorem Tryz.xbst : Builder.Extra Tryz.prog Tryz.lbst_ren := ⟨⟨by kernel_rfl, by kernel_rfl⟩, Tryz.underlying5, Tryz.isAgg5, Tryz.sizeOf5, Tryz.zeroValue5, by kernel_rfl, by kernel_rfl, by kernel_rfl, by decide⟩
end Go.Proofs
namespace Go.Fw
open Go.RowKit
set_option linter.unusedVariables false
/-- block b is a builder that holds the bytes l; it was made where the heap ended at b -/
def BAt (T e : TypeId) (w : World) (b : Nat) (l : List UInt8) : Prop := Lib.IsBuilderF T e b b (Lib.byteCells l) w
theorem BAt.new_ (T e : TypeId) (w : World) {b : Nat} (hb : b = w.heap.size) : BAt T e (w.alloc (.cells #[.pointer none, .slice none 0 0] T)) b [] := by
  subst hb
  exact Lib.IsBuilderF.of (Lib.fresh_isBuilder T e w)
theorem BAt.later {T e : TypeId} {w w' : World} {b : Nat} {l : List UInt8} (h : BAt T e w b l) (hb : Below w.heap.size w w') : BAt T e w' b l := by
  have one : ∀ p, Lib.BuilderAtF T e b b p (Lib.byteCells l) w → Lib.BuilderAtF T e b b p (Lib.byteCells l) w' := fun p h => by
    have hlt := h.lt
    obtain ⟨h1, v, h2, h3, h4⟩ := h
    refine ⟨h1, v, (hb.block b hlt).trans h2, ⟨h3.1, ?_⟩, h4⟩
    rcases h3.2 with h5 | ⟨g, cap, cur, fz, e1, e2, e3, e4⟩
    · exact .inl h5
    · exact .inr ⟨g, cap, cur, fz, e1, e2, (hb.block g (Array.getElem?_eq_some_iff.1 e3).1).trans e3, e4⟩
  rcases h with h | h
  · exact .inl (one _ h)
  · exact .inr (one _ h)
theorem BAt.lt {T e : TypeId} {w : World} {b : Nat} {l : List UInt8} (h : BAt T e w b l) : b < w.heap.size := by
  rcases h with h | h <;> exact h.lt
end Go.Fw
namespace Go.Proofs.YteljecehppeamaaGreatDoor
open Go.RowKit Go.Fw Go.Shelf
set_option linter.unusedVariables false
abbrev Bld (w : World) (b : Nat) (l : List UInt8) : Prop := BAt 54 5 w b l
theorem bwbyte_any (b : Nat) (l : List UInt8) (c : UInt8) (w : World) (h : Bld w b l) (hl : l.length ≤ 10000000) :
    Calls Tryz.prog 19 #[.pointer (some ⟨b, 0, none⟩), .int .u8 (c.toNat : Int)] w fun e w' => e = .returned .nilIface ∧ Bld w' b (l ++ [c]) ∧ Below b w w' := by
  have h1 := Any.Builder_WriteByte_k Tryz.lbwb Tryz.xbwb b b (Lib.byteCells l) (c.toNat : Int) w h (by simp [Lib.byteCells]; omega) (Nat.le_of_lt h.lt)
  change Calls Tryz.prog 19 _ _ _ at h1
  refine h1.mono fun e w' ⟨he, h2, h3, _⟩ => ⟨he, .inr ?_, h3⟩
  have e1 : Lib.byteCells (l ++ [c]) = Lib.byteCells l ++ [.int .u8 (c.toNat : Int)] := by simp [Lib.byteCells]
  rw [e1]
  exact h2
theorem bwstr_any (b : Nat) (l : List UInt8) (s : ByteArray) (w : World) (h : Bld w b l) (hl : l.length ≤ 10000000) (hs : s.size ≤ 10000000) :
    Calls Tryz.prog 17 #[.pointer (some ⟨b, 0, none⟩), .string s] w fun e w' => e = .returned (.tuple #[.int .i64 s.size, .nilIface]) ∧ Bld w' b (l ++ s.data.toList) ∧ Below b w w' := by
  have h1 := Any.Builder_WriteString_k Tryz.lbws Tryz.xbws b b (Lib.byteCells l) s w h (by simp [Lib.byteCells]; omega) (Nat.le_of_lt h.lt)
  change Calls Tryz.prog 17 _ _ _ at h1
  refine h1.mono fun e w' ⟨he, h2, h3, _⟩ => ⟨he, .inr ?_, h3⟩
  have e1 : Lib.byteCells (l ++ s.data.toList) = Lib.byteCells l ++ Lib.strCells s := by simp [Lib.byteCells, Lib.strCells]
  rw [e1]
  exact h2
theorem bstring_any (b : Nat) (l : List UInt8) (w : World) (h : Bld w b l) :
    Calls Tryz.prog 25 #[.pointer (some ⟨b, 0, none⟩)] w fun e w' => e = .returned (.string ⟨l.toArray⟩) ∧ Bld w' b l ∧ Below b w w' := by
  have h1 := Any.Builder_String_any_k Tryz.lbst Tryz.xbst b b l w h (Nat.le_of_lt h.lt)
  change Calls Tryz.prog 25 _ _ _ at h1
  exact h1.mono fun e w' ⟨he, h2, h3, _⟩ => ⟨he, h2, h3⟩
end Go.Proofs.YteljecehppeamaaGreatDoor
/-
  The reference's Dec: a number's numeral (chapter 12). Condition: none.
-/
namespace Go.Fw
open Go.RowKit
set_option linter.unusedVariables false
set_option linter.unusedSimpArgs false
/-- what stands ahead of a number's last digit -/
def headD (m : Nat) : List UInt8 := if m < 10 then [] else Lib.decDigits (m / 10)
theorem digits_head (m : Nat) : Lib.decDigits m = headD m ++ [UInt8.ofNat (48 + m % 10)] := by
  unfold headD
  rw [Lib.decDigits]
  split
  · rename_i h
    rw [Nat.mod_eq_of_lt h]
    rfl
  · rfl
def tenB : ByteArray := ⟨#[48, 49, 50, 51, 52, 53, 54, 55, 56, 57]⟩
theorem ten_at : ∀ d : Fin 10, (tenB.extract d.val (d.val + 1)).data.toList = [UInt8.ofNat (48 + d.val)] := by decide
theorem ten_cut {d : Nat} (h : d < 10) : (tenB.extract d (d + 1)).data.toList = [UInt8.ofNat (48 + d)] := ten_at ⟨d, h⟩
theorem ten_size {d : Nat} (h : d < 10) : (tenB.extract d (d + 1)).size = 1 := by
  have h1 : tenB.size = 10 := rfl
  rw [ByteArray.size_extract]
  omega
theorem app_list (a b : ByteArray) : (a ++ b).data.toList = a.data.toList ++ b.data.toList := by
  rw [ByteArray.data_append, Array.toList_append]
theorem ret_s {a b : ByteArray} (h : a = b) : Ending.returned (.string a) = .returned (.string b) := by rw [h]
theorem decB_of {n : Int} {s : ByteArray} (h : s.data.toList = Lib.itoa n) : s = decB n := by
  cases s
  rename_i d
  unfold decB
  congr
  rw [← h]
end Go.Fw
namespace Go.Proofs.YteljecehppeamaaGreatDoor
open Go.RowKit Go.Fw
set_option maxHeartbeats 1000000
set_option maxRecDepth 4000
set_option linter.unusedVariables false
set_option linter.unusedSimpArgs false
theorem dec_nat (n : Nat) (hn : n ≤ 9223372036854775807) (w : World) :
    Calls Tryz.prog 34 #[.int .i64 (n : Int)] w fun e w' => e = .returned (.string (decB (n : Int))) ∧ w = w' := by
  have hmod : (n : Int) % 10 = ((n % 10 : Nat) : Int) := by omega
  have hd : n % 10 < 10 := Nat.mod_lt _ (by decide)
  have hw : IntKind.i64.wrap (((n % 10 : Nat) : Int) + 1) = ((n % 10 : Nat) : Int) + 1 := IntWalk.i64_in _ ⟨by omega, by omega⟩
  have hn0 : ¬ (n : Int) < 0 := by omega
  have h0 := digits_head n
  rw [← ten_cut hd] at h0
  have H0 := Lib.hid h0
  clear h0
  generalize n % 10 = d0 at *
  go_enter Tryz.func34, Tryz.ntmps34
  go_wp2
  clear hmod hw hn0
  go_loop [0, 5] (fun a s => ∃ (m : Nat) (out : ByteArray), m ≤ n ∧ a = .int .i64 m ∧ s = .string out ∧ Hid (Lib.decDigits n = headD m ++ out.data.toList) ∧ out.size ≤ 100) (fun a _ => (intOf a).toNat)
  case atStart => exact ⟨n, _, Nat.le_refl _, rfl, rfl, H0, by show (tenB.extract d0 (d0 + 1)).size ≤ 100; rw [ten_size hd]; decide⟩
  case round =>
    obtain ⟨m, out, hmn, rfl, rfl, HM, hsz⟩ := hrel
    by_cases hm : m < 10
    · have hmI : (m : Int) < 10 := by omega
      go_wp2
      go_ret
      have e1 : out = decB (n : Int) := by
       refine decB_of ?_
       have h1 := HM.out
       unfold headD at h1
       rw [if_pos hm] at h1
       unfold Lib.itoa
       rw [if_neg (by omega), Int.toNat_natCast, h1]
       rfl
      exact ⟨by rw [← e1]; rfl, rfl⟩
    · have hmI : 10 ≤ (m : Int) := by omega
      have hq : (m : Int) / 10 = ((m / 10 : Nat) : Int) := by omega
      have hqd : m / 10 % 10 < 10 := Nat.mod_lt _ (by decide)
      have hmod : ((m / 10 : Nat) : Int) % 10 = ((m / 10 % 10 : Nat) : Int) := by omega
      have hw : IntKind.i64.wrap (((m / 10 % 10 : Nat) : Int) + 1) = ((m / 10 % 10 : Nat) : Int) + 1 := IntWalk.i64_in _ ⟨by omega, by omega⟩
      have hq2 : m / 10 < m := by omega
      have h1 : Lib.decDigits n = headD (m / 10) ++ ((tenB.extract (m / 10 % 10) (m / 10 % 10 + 1)) ++ out).data.toList := by
        have h2 := HM.out
        have h3 : headD m = Lib.decDigits (m / 10) := by unfold headD; rw [if_neg hm]
        rw [h2, h3, digits_head (m / 10), app_list, ten_cut hqd, List.append_assoc]
      have H1 := Lib.hid h1
      have hz1 : (({ data := #[48, 49, 50, 51, 52, 53, 54, 55, 56, 57] } : ByteArray).extract (m / 10 % 10) (m / 10 % 10 + 1)).size = 1 := ten_size hqd
      have hlen := congrArg List.length h1
      have hz2 : ((tenB.extract (m / 10 % 10) (m / 10 % 10 + 1)) ++ out).size ≤ 100 := by
        rw [Lib.decDigits_length, List.length_append] at hlen
        have h20 := Lib.nDigits_le20 n (by omega)
        have : ((tenB.extract (m / 10 % 10) (m / 10 % 10 + 1)) ++ out).data.toList.length = ((tenB.extract (m / 10 % 10) (m / 10 % 10 + 1)) ++ out).size := rfl
        omega
      have HZ2 := Lib.hid hz2
      have hz3 : ¬ 9223372036854775807 < 1 + out.size := by omega
      have hz4 : ¬ 9223372036854775807 < min (m / 10 % 10 + 1) 10 - m / 10 % 10 + out.size := by omega
      clear h1 HM hlen hz2
      generalize m / 10 % 10 = d at *
      generalize m / 10 = q at *
      go_wp2
      go_round
      case rel => exact ⟨q, _, by omega, rfl, rfl, H1, HZ2.out⟩
      case measure => simp [intOf]; omega
theorem dec_any (n : Int) (hn : In64 n) (w : World) :
    Calls Tryz.prog 34 #[.int .i64 n] w fun e w' => e = .returned (.string (decB n)) ∧ w = w' := by
  by_cases hneg : n < 0
  · obtain ⟨k, hk⟩ : ∃ k : Nat, n = -(k : Int) := ⟨n.natAbs, by omega⟩
    have hkb : k ≤ 9223372036854775808 := by unfold In64 at hn; omega
    have hk0 : 1 ≤ k := by omega
    have hmod : n.tmod 10 = -((k % 10 : Nat) : Int) := by rw [hk, Int.neg_tmod, Int.tmod_eq_emod_of_nonneg (by omega)]; omega
    have hdiv : n.tdiv 10 = -((k / 10 : Nat) : Int) := by rw [hk, Int.neg_tdiv, Int.tdiv_eq_ediv_of_nonneg (by omega)]; omega
    have hd : k % 10 < 10 := Nat.mod_lt _ (by decide)
    have hit : Lib.itoa n = 45 :: Lib.decDigits k := by
      unfold Lib.itoa
      rw [if_pos hneg, show n.natAbs = k by omega]
    by_cases h10 : -10 < n
    · have hkd : k % 10 = k := Nat.mod_eq_of_lt (by omega)
      have hfin : (⟨#[45]⟩ ++ decB (k : Int) : ByteArray) = decB n := decB_of (by
        rw [app_list, decB_list, hit]
        unfold Lib.itoa
        rw [if_neg (by omega), Int.toNat_natCast]
        rfl)
      have HF := Lib.hid hfin
      have hzk := decB_size (n := (k : Int)) (by omega) (by omega)
      have hz3 : ¬ 9223372036854775807 < 1 + (decB (k : Int)).size := by omega
      have hnn : - -((k : Nat) : Int) = (k : Int) := by omega
      rw [hkd] at hmod
      have hwn : IntKind.i64.wrap (- -(k : Int)) = (k : Int) := by rw [IntWalk.i64_in _ ⟨by omega, by omega⟩]; omega
      have hwk : IntKind.i64.wrap (k : Int) = (k : Int) := IntWalk.i64_in _ ⟨by omega, by omega⟩
      have hk9 : k ≤ 9 := by omega
      clear hfin hit hkd hdiv hzk hk hkb
      go_enter Tryz.func34, Tryz.ntmps34
      go_wp2_with fail
      refine (dec_nat k (by omega) _).mono ?_
      rintro e w' ⟨rfl, rfl⟩
      go_wp2
      go_ret
      exact ⟨ret_s HF.out, rfl⟩
    · have hfin : ((⟨#[45]⟩ ++ decB ((k / 10 : Nat) : Int)) ++ decB ((k % 10 : Nat) : Int) : ByteArray) = decB n := decB_of (by
        rw [app_list, app_list, decB_list, decB_list, hit]
        unfold Lib.itoa
        rw [if_neg (by omega), if_neg (by omega), Int.toNat_natCast, Int.toNat_natCast, digits_head k, Lib.decDigits_one hd]
        unfold headD
        rw [if_neg (by omega)]
        simp)
      have HF := Lib.hid hfin
      have hq : k / 10 ≤ 922337203685477580 := by omega
      clear hfin hit hk hkb hk0
      generalize k % 10 = d at *
      generalize k / 10 = q at *
      have hzd := decB_size (n := (d : Int)) (by omega) (by omega)
      have hzq := decB_size (n := (q : Int)) (by omega) (by omega)
      have hz3 : ¬ 9223372036854775807 < 1 + (decB (q : Int)).size := by omega
      have hz4 : ¬ 9223372036854775807 < 1 + (decB (q : Int)).size + (decB (d : Int)).size := by omega
      clear hzd hzq
      have hn1 : - -((d : Nat) : Int) = (d : Int) := by omega
      have hn2 : - -((q : Nat) : Int) = (q : Int) := by omega
      have hw1 : IntKind.i64.wrap (- -(d : Int)) = (d : Int) := by rw [IntWalk.i64_in _ ⟨by omega, by omega⟩]; omega
      have hw2 : IntKind.i64.wrap (- -(q : Int)) = (q : Int) := by rw [IntWalk.i64_in _ ⟨by omega, by omega⟩]; omega
      have hw3 : IntKind.i64.wrap (d : Int) = (d : Int) := IntWalk.i64_in _ ⟨by omega, by omega⟩
      have hw4 : IntKind.i64.wrap (q : Int) = (q : Int) := IntWalk.i64_in _ ⟨by omega, by omega⟩
      go_enter Tryz.func34, Tryz.ntmps34
      go_wp2_with fail
      refine (dec_nat q (by omega) _).mono ?_
      rintro e w' ⟨rfl, rfl⟩
      go_wp2_with fail
      refine (dec_nat d (by omega) _).mono ?_
      rintro e w' ⟨rfl, rfl⟩
      go_wp2
      go_ret
      exact ⟨ret_s HF.out, rfl⟩
  · obtain ⟨k, rfl⟩ : ∃ k : Nat, n = (k : Int) := ⟨n.toNat, by omega⟩
    exact dec_nat k (by unfold In64 at hn; omega) w
end Go.Proofs.YteljecehppeamaaGreatDoor
/-
  Regions whose order is open, one operation at a time: the operations that change nothing first, then the next call. Condition: none.
-/
namespace Go.Fw
open Go.RowKit
set_option linter.unusedVariables false
set_option linter.unusedSimpArgs false

section
variable {P : Program} {ops : Array Oper} {l : List Oper} {Q : Exit → Act → World → Prop} {S S' : World → Prop}

/-- A narrower condition on the worlds to come serves as well. -/
theorem any_narrow (h : ∀ w, S' w → S w) : ∀ (fuel : Nat) (listed : Array Bool) (a : Act) (w : World), wpAnyH P .any ops Q S' fuel listed a w → wpAnyH P .any ops Q S fuel listed a w
  | 0, _, _, _, hh => hh
  | fuel + 1, _, _, _, hh => ⟨hh.1, fun i hi => wpOp_mono (fun a' w' h' => ⟨h _ h'.1, any_narrow h fuel _ a' w' h'.2⟩) (hh.2 i hi)⟩

theorem any_start {id : Nat} {a : Act} {w : World} (hm : P.follows .mixedOrders = true) (hS : S w.drew)
    (h : wpAnyH P .any ops Q S ops.size (Array.replicate ops.size false) a w.drew) : (Code.region id ops true).wp P Q a w :=
  wp_region_held_drew hm hS fun _ => h

/-- nothing but the usual end -/
def OnlyN (Q : Exit → Act → World → Prop) : Exit → Act → World → Prop
  | .normal, a, w => Q .normal a w
  | _, _, _ => False
theorem onlyN_normal {Q : Exit → Act → World → Prop} {a : Act} {w : World} : OnlyN Q .normal a w = Q .normal a w := rfl
theorem OnlyN.imp {Q : Exit → Act → World → Prop} : ∀ x a w, OnlyN Q x a w → Q x a w
  | .normal, _, _, h => h
/-- the same, where the end by a panic is another one (a body that holds a range over a function) -/
theorem any_startN {id : Nat} {a : Act} {w : World} (hm : P.follows .mixedOrders = true) (hS : S w.drew)
    (h : wpAnyH P .any ops (OnlyN Q) S ops.size (Array.replicate ops.size false) a w.drew) : (Code.region id ops true).wp P Q a w :=
  Code.wp_mono OnlyN.imp (any_start hm hS h)

theorem any_done {fuel : Nat} {listed : Array Bool} {a : Act} {w : World} (hr : Region.ready .any ops listed = []) (h : Q .normal a w) : wpAnyH P .any ops Q S fuel listed a w :=
  wpAnyH_done hr h fuel

/-- number i changes nothing, and yields v in every world that is to come -/
theorem any_pure (i : Nat) {o : Oper} {v : Value} {fuel : Nat} {listed : Array Bool} {a : Act} {w : World} (ho : l[i]? = some o)
    (hB : (Region.noSelect l.toArray && Region.free .any l.toArray listed i && (Region.ready .any l.toArray listed).contains i) = true)
    (hQ : ∀ c a w, Q (.panic c) (a.put o.dst v) w → Q (.panic c) a w) (hS : S w) (hg : Region.wanted o (yielded l.toArray a.tmps) = true)
    (hy : ∀ w, S w → (execOp a.eval o).run P w = .ok (.value v) w)
    (h : wpAnyH P .any l.toArray Q S fuel (listed.setIfInBounds i true) (a.put o.dst v) w) : wpAnyH P .any l.toArray Q S (fuel + 1) listed a w := by
  simp only [Bool.and_eq_true] at hB
  exact wpAnyH_take (by simpa using ho) hB.1.1 hB.1.2 hB.2 hQ (.inl ⟨hg, hy⟩) hS h

/-- number i is passed over: its guard says no -/
theorem any_skip (i : Nat) {o : Oper} {fuel : Nat} {listed : Array Bool} {a : Act} {w : World} (ho : l[i]? = some o)
    (hB : (Region.noSelect l.toArray && Region.free .any l.toArray listed i && (Region.ready .any l.toArray listed).contains i) = true)
    (hQ : ∀ c a w, Q (.panic c) (a.put o.dst undef) w → Q (.panic c) a w) (hS : S w) (hg : Region.wanted o (yielded l.toArray a.tmps) = false)
    (h : wpAnyH P .any l.toArray Q S fuel (listed.setIfInBounds i true) (a.put o.dst undef) w) : wpAnyH P .any l.toArray Q S (fuel + 1) listed a w := by
  simp only [Bool.and_eq_true] at hB
  exact wpAnyH_take (by simpa using ho) hB.1.1 hB.1.2 hB.2 hQ (.inr ⟨hg, rfl⟩) hS h

/-- In state a, in every world that is to come, o leaves v in its slot and the world as it is: a call too. -/
def QuietIf (P : Program) (ops : Array Oper) (S : World → Prop) (o : Oper) (v : Value) (a : Act) : Prop :=
  (Region.wanted o (yielded ops a.tmps) = true ∧ ∀ w, S w → Oper.quietUpon P (fun w' => w' = w) w v ((execOp a.eval o).run P w)) ∨
  (Region.wanted o (yielded ops a.tmps) = false ∧ v = undef)
theorem QuietIf.wpOp {i : Nat} {o : Oper} {v : Value} {a : Act} (hi : ops[i]? = some o) (hy : QuietIf P ops S o v a) {K : Act → World → Prop} {w : World} (hS : S w) (h : K (a.put o.dst v) w) : wpOp P ops Q i K a w := by
  unfold Go.wpOp
  simp only [hi]
  rcases hy with ⟨hw, hv⟩ | ⟨hw, rfl⟩
  · simp only [hw, if_true]
    refine .inl ?_
    have h3 := hv w hS
    unfold Oper.wp
    generalize (execOp a.eval o).run P w = r at *
    cases r with
    | ok n w' =>
      cases n <;> simp only [Oper.quietUpon] at h3 <;> simp only [Oper.upon]
      case value u => obtain ⟨rfl, rfl⟩ := h3; exact h
      case skip => obtain ⟨rfl, rfl⟩ := h3; exact h
      case enter f args =>
        obtain ⟨rfl, hc⟩ := h3
        exact hc.mono fun e w'' ⟨he, hw''⟩ => by subst he; subst hw''; exact h
    | halt x w' => simp only [Oper.quietUpon] at h3
  · simp only [hw, Bool.false_eq_true, if_false]; exact h
theorem QuietIf.of_same {o : Oper} {v : Value} {a a' : Act} (hy : QuietIf P ops S o v a) (he : execOp a'.eval o = execOp a.eval o)
    (hw : Region.wanted o (yielded ops a'.tmps) = Region.wanted o (yielded ops a.tmps)) : QuietIf P ops S o v a' := by
  unfold QuietIf at *
  rw [he, hw]
  exact hy
theorem quiet_put {j : Nat} {oi oj : Oper} {v : Value} (hj : ops[j]? = some oj) (hap : oi.apart ops oj = true) (hsi : ∀ cs b, oi.op ≠ .select cs b) (hsj : ∀ cs b, oj.op ≠ .select cs b)
    (hQ : ∀ c a w, Q (.panic c) (a.put oi.dst v) w → Q (.panic c) a w) {K : Act → World → Prop} {a : Act} {w : World}
    (hy : QuietIf P ops S oi v a) (h : wpOp P ops Q j K (a.put oi.dst v) w) : wpOp P ops Q j (fun a' w' => QuietIf P ops S oi v a' ∧ K (a'.put oi.dst v) w') a w := by
  obtain ⟨h1, h2, h3⟩ := Oper.apart_spec hap
  have keep : ∀ (a : Act), QuietIf P ops S oi v a → ∀ u, QuietIf P ops S oi v (a.put oj.dst u) := fun a hy u => hy.of_same (execOp_put oi hsi a oj.dst u h3) (wanted_put oi a oj.dst u h3)
  have keepD : ∀ d, QuietIf P ops S oi v { a with defers := d :: a.defers } := fun d => hy.of_same rfl rfl
  unfold wpOp at *
  simp only [hj] at *
  rw [wanted_put oj a oi.dst v h1] at h
  split
  · rename_i hw
    simp only [hw, if_true] at h
    rcases h with h | ⟨hasks, hlets⟩
    case inr => exact .inr ⟨by unfold Oper.asks at *; rw [execOp_put oj hsj a oi.dst v h1] at hasks; exact hasks, hlets⟩
    refine .inl ?_
    unfold Oper.wp at *
    rw [execOp_put oj hsj a oi.dst v h1] at h
    generalize (execOp a.eval oj).run P w = r at *
    cases r with
    | ok n w' =>
      cases n <;> simp only [Oper.upon] at h ⊢
      case value u => exact ⟨keep a hy u, by rw [← Act.put_comm a v u h2]; exact h⟩
      case skip => exact ⟨keep a hy _, by rw [← Act.put_comm a v undef h2]; exact h⟩
      case defer d =>
        refine ⟨keep _ (keepD d) _, ?_⟩
        rw [← Act.put_comm _ v undef h2, ← Act.put_defers]
        exact h
      case enter f args =>
        refine Calls.mono h fun e w'' he => ?_
        cases e with
        | returned u => exact ⟨keep a hy u, by rw [← Act.put_comm a v u h2]; exact he⟩
        | panicked c => exact hQ _ _ _ he
        | outgrown => exact he
      case row row args => exact Rows.mono h fun u w'' he => ⟨keep a hy u, by rw [← Act.put_comm a v u h2]; exact he⟩
    | halt x w' =>
      cases x <;> simp only [Oper.upon] at h ⊢
      case panic u => exact hQ _ _ _ h
  · rename_i hw
    simp only [hw] at h
    exact ⟨keep a hy _, by rw [← Act.put_comm a v undef h2]; exact h⟩
theorem quiet_first {md : Region.Mode} {i : Nat} {oi : Oper} {v : Value} (hi : ops[i]? = some oi) (hsel : ∀ (j : Nat) (o : Oper) cs b, ops[j]? = some o → o.op ≠ .select cs b)
    (hQ : ∀ c a w, Q (.panic c) (a.put oi.dst v) w → Q (.panic c) a w) :
    ∀ (fuel : Nat) (listed : Array Bool) (a : Act) (w : World),
      (∀ j oj, ops[j]? = some oj → j ≠ i → listed.getD j true = false → (∀ e ∈ oj.after, Region.binds md e = true → e.on ≠ i) → oi.apart ops oj = true) →
      i ∈ Region.ready md ops listed → QuietIf P ops S oi v a → S w →
      wpAnyH P md ops Q S fuel (listed.setIfInBounds i true) (a.put oi.dst v) w → wpAnyH P md ops Q S (fuel + 1) listed a w := by
  intro fuel
  induction fuel with
  | zero =>
    intro listed a w _ hr hy hS H
    refine ⟨fun h => (by rw [h] at hr; cases hr), fun j hj => ?_⟩
    by_cases hji : j = i
    · subst hji; exact hy.wpOp hi hS ⟨hS, H⟩
    · have := ready_mono hj hji
      rw [H.1] at this
      cases this
  | succ fuel ih =>
    intro listed a w hfree hr hy hS H
    refine ⟨fun h => (by rw [h] at hr; cases hr), fun j hj => ?_⟩
    by_cases hji : j = i
    · subst hji; exact hy.wpOp hi hS ⟨hS, H⟩
    · have h1 := H.2 j (ready_mono hj hji)
      obtain ⟨hjun, oj, hoj, hall⟩ := mem_ready.1 hj
      have hnot : ∀ e ∈ oj.after, Region.binds md e = true → e.on ≠ i := fun e he hb heq => by
        have h1 := hall e he hb
        have h0 := (mem_ready.1 hr).1
        rw [heq] at h1
        rcases Nat.lt_or_ge i listed.size with h' | h'
        · simp [h'] at h0 h1; rw [h0] at h1; cases h1
        · simp [Array.getElem?_eq_none h'] at h1
      have h2 := quiet_put hoj (hfree j oj hoj hji hjun hnot) (fun cs b => hsel i oi cs b hi) (fun cs b => hsel j oj cs b hoj) hQ hy h1
      have hfree' : ∀ k ok, ops[k]? = some ok → k ≠ i → (listed.setIfInBounds j true).getD k true = false →
          (∀ e ∈ ok.after, Region.binds md e = true → e.on ≠ i) → oi.apart ops ok = true := fun k ok hk hki hun hno => by
        refine hfree k ok hk hki ?_ hno
        by_cases hjk : j = k
        · subst hjk; exact hjun
        · rw [getD_set_ne true hjk] at hun; exact hun
      refine wpOp_mono (fun a' w' h3 => ⟨h3.2.1, ih (listed.setIfInBounds j true) a' w' hfree' (ready_mono hr (Ne.symm hji)) h3.1 h3.2.1 ?_⟩) h2
      rw [Array.setIfInBounds_comm _ _ hji]
      exact h3.2.2
/-- number i is a call that leaves every world as it is and hands back v -/
theorem any_call (i : Nat) {o : Oper} (f : FuncId) (args : Array Value) (v : Value) {fuel : Nat} {listed : Array Bool} {a : Act} {w : World} (ho : l[i]? = some o)
    (hB : (Region.noSelect l.toArray && Region.free .any l.toArray listed i && (Region.ready .any l.toArray listed).contains i) = true)
    (hQ : ∀ c a w, Q (.panic c) (a.put o.dst v) w → Q (.panic c) a w) (hS : S w) (hg : Region.wanted o (yielded l.toArray a.tmps) = true)
    (he : ∀ w, (execOp a.eval o).run P w = .ok (.enter f args) w) (hy : ∀ w, S w → Calls P f args w fun e w' => e = .returned v ∧ w = w')
    (h : wpAnyH P .any l.toArray Q S fuel (listed.setIfInBounds i true) (a.put o.dst v) w) : wpAnyH P .any l.toArray Q S (fuel + 1) listed a w := by
  simp only [Bool.and_eq_true] at hB
  have ho' : l.toArray[i]? = some o := by simpa using ho
  refine quiet_first ho' (Region.noSelect_spec hB.1.1) hQ fuel listed a w (Region.free_spec ho' hB.1.2) (by simpa using hB.2) (.inl ⟨hg, fun w' hw' => ?_⟩) hS h
  rw [he w']
  exact ⟨rfl, (hy w' hw').mono fun e w'' ⟨h1, h2⟩ => ⟨h1, h2.symm⟩⟩

/-- number i is the one that may come next, whatever it is; what follows stands behind K -/
theorem any_one (i : Nat) {o : Oper} {fuel : Nat} {listed : Array Bool} {a : Act} {w : World} (hr : Region.ready .any l.toArray listed = [i]) (ho : l[i]? = some o)
    (hg : Region.wanted o (yielded l.toArray a.tmps) = true)
    (hc : ∀ K : Act → World → Prop, (∀ a' w', S w' → wpAnyH P .any l.toArray Q S fuel (listed.setIfInBounds i true) a' w' → K a' w') → Oper.wp P o a w K Q) : wpAnyH P .any l.toArray Q S (fuel + 1) listed a w := by
  refine wpAnyH_all hr (by simp) fun j hj => ?_
  obtain rfl : j = i := by simpa using hj
  unfold wpOp
  have ho' : l.toArray[j]? = some o := by simpa using ho
  simp only [ho']
  rw [if_pos hg]
  exact .inl (hc _ fun a' w' h1 h2 => ⟨h1, h2⟩)
end
end Go.Fw
/-
  A policy's text, walked (chapter 12). Condition: strconv's table lies in memory.
-/
namespace Go.Proofs.YteljecehppeamaaGreatDoor
open Go.RowKit Go.Fw Go.Shelf
set_option maxHeartbeats 2000000
set_option maxRecDepth 100000
set_option linter.unusedVariables false
set_option linter.unusedSimpArgs false
theorem names_any (w : World) : Calls Tryz.prog 58 #[] w fun x w' => x = .returned (.agg #[.string ⟨#[109, 105, 110]⟩, .string ⟨#[109, 97, 120]⟩, .string ⟨#[116, 97, 114, 103, 101, 116]⟩, .string ⟨#[116, 111, 108, 101, 114, 97, 110, 99, 101]⟩, .string ⟨#[119, 105, 110, 100, 111, 119]⟩, .string ⟨#[104, 111, 108, 100]⟩]) ∧ Below w.heap.size w w' := by
  go_enter Tryz.func58, Tryz.ntmps58
  go_wp2
  exact bodyPost_ret (v := .agg #[.string ⟨#[109, 105, 110]⟩, .string ⟨#[109, 97, 120]⟩, .string ⟨#[116, 97, 114, 103, 101, 116]⟩, .string ⟨#[116, 111, 108, 101, 114, 97, 110, 99, 101]⟩, .string ⟨#[119, 105, 110, 100, 111, 119]⟩, .string ⟨#[104, 111, 108, 100]⟩]) (by simp [results, Tryz.results58, go_sem]) rfl ⟨rfl, by simpa using sub_alloc (Below.refl _ w) _⟩
theorem numbers_any (a b c d e f : Int) (w : World) : Calls Tryz.prog 57 #[.agg #[.int .i64 a, .int .i64 b, .int .i64 c, .int .i64 d, .int .i64 e, .int .i64 f]] w fun x w' => x = .returned (.agg #[.int .i64 a, .int .i64 b, .int .i64 c, .int .i64 d, .int .i64 e, .int .i64 f]) ∧ Below w.heap.size w w' := by
  go_enter Tryz.func57, Tryz.ntmps57
  go_wp2
  exact bodyPost_ret (v := .agg #[.int .i64 a, .int .i64 b, .int .i64 c, .int .i64 d, .int .i64 e, .int .i64 f]) (by simp [results, Tryz.results57, go_sem]) rfl ⟨rfl, by simpa using sub_alloc (sub_alloc (Below.refl _ w) _) _⟩
end Go.Proofs.YteljecehppeamaaGreatDoor
/-
  An element of an array that is a value. Condition: elements of one cell.
-/
namespace Go.Fw
open Go.RowKit
theorem run_index_arr {P : Program} {t e : TypeId} {n : Nat} {cs : Array Value} {v : Value} {k : IntKind} {i : Nat} (w : World) (h : P.underlying t = some (.array n e)) {inf : TypeInfo} (hi : P.info? e = some inf) (hc : P.cellsOf e = 1)
    (he : P.plainKey e = true) (hlt : i < n) (hv : cs[i]? = some v) : (Instr.index t (.agg cs) (.int k (i : Int))).run P w = .ok v w := by
  have h1 : (0 : Int) ≤ (i : Int) ∧ (i : Int) < (n : Int) := by omega
  have hsz := run_sizeOf (P := P) w hi
  rw [hc] at hsz
  have hp := run_part_plain (P := P) w he hv
  simp [Instr.index, run_underlying h, asIntOf, h1, hsz, hp, Result.andThen]
  intro hx
  omega
end Go.Fw
namespace Go.Proofs.YteljecehppeamaaGreatDoor
open Go.RowKit Go.Fw
theorem idx_num (cs : Array Value) (v : Value) (i : Nat) (w : World) (hlt : i < 6) (hv : cs[i]? = some v) : (Instr.index 96 (.agg cs) (.int .i64 (i : Int))).run Tryz.prog w = .ok v w :=
  run_index_arr w Tryz.underlying96 (inf := (Tryz.prog.info? 2).getD default) (by kernel_rfl) (by kernel_rfl) (by kernel_rfl) hlt hv
theorem idx_name (cs : Array Value) (v : Value) (i : Nat) (w : World) (hlt : i < 6) (hv : cs[i]? = some v) : (Instr.index 98 (.agg cs) (.int .i64 (i : Int))).run Tryz.prog w = .ok v w :=
  run_index_arr w Tryz.underlying98 (inf := (Tryz.prog.info? 9).getD default) (by kernel_rfl) (by kernel_rfl) (by kernel_rfl) hlt hv
end Go.Proofs.YteljecehppeamaaGreatDoor
