/-
  The walks of history.Highest and of the reference's own: the most that was wanted in the time that is held. Conditions: at most 100000 decisions, numbers of 64 bits.
-/
import Derived.Test.YtgmgddccdfmiiaaSatRsub
namespace Go.Fw
/-- the most that was wanted, from a tick (not itself) to another one -/
def highF (from_ tick : Int) : List Adv → Int → Bool → Int × Bool
  | [], b, i => (b, i)
  | a :: r, b, i => if from_ < a.tick ∧ a.tick ≤ tick then highF from_ tick r (if i = false ∨ b < a.want then a.want else b) true else highF from_ tick r b i
def highest (l : List Adv) (tick hold : Int) : Int × Bool := highF (sat (tick - hold)) tick l 0 false
theorem highF_out {l : List Adv} {k : Nat} (f t b : Int) (i : Bool) (hk : k < l.length) (h : ¬ (f < l[k].tick ∧ l[k].tick ≤ t)) : highF f t (l.drop k) b i = highF f t (l.drop (k + 1)) b i := by
  rw [List.drop_eq_getElem_cons hk, highF, if_neg h]
theorem highF_more {l : List Adv} {k : Nat} (f t b : Int) (i : Bool) (hk : k < l.length) (h : f < l[k].tick ∧ l[k].tick ≤ t) (h2 : i = false ∨ b < l[k].want) : highF f t (l.drop k) b i = highF f t (l.drop (k + 1)) l[k].want true := by
  rw [List.drop_eq_getElem_cons hk, highF, if_pos h, if_pos h2]
theorem highF_less {l : List Adv} {k : Nat} (f t b : Int) (i : Bool) (hk : k < l.length) (h : f < l[k].tick ∧ l[k].tick ≤ t) (h2 : ¬ (i = false ∨ b < l[k].want)) : highF f t (l.drop k) b i = highF f t (l.drop (k + 1)) b true := by
  rw [List.drop_eq_getElem_cons hk, highF, if_pos h, if_neg h2]
end Go.Fw
namespace Go.Proofs.Ytgmgddccdfmiiaa
open Go.RowKit Go.Fw
set_option maxHeartbeats 1000000
set_option maxRecDepth 4000
set_option linter.unusedVariables false
set_option linter.unusedSimpArgs false

theorem highest_any (l : List Adv) (A : Option Addr) (c n : Nat) (tick hold : Int) (w : World) (hr : Reads w w.heap.size 5 A n (advs l)) (hl : n ≤ 100000) (ht : In64 tick) (hh : In64 hold) (hall : ∀ (k : Nat) (h : k < l.length), In64 l[k].tick ∧ In64 l[k].want) :
    Calls Try.prog 33 #[.slice A n c, .int .i64 tick, .int .i64 hold] w fun e w' => e = .returned (.tuple #[.int .i64 (highest l tick hold).1, .bool (highest l tick hold).2]) ∧ Below w.heap.size w w' := by
  have hn := adv_len hr
  have HN := Lib.hid hn
  clear hn
  go_enter Try.func33, Try.ntmps33
  go_wp2_with (go_at_call 49; refine (sub_any _ _ _ ht hh).mono ?_; rintro e w' ⟨rfl, rfl⟩)
  generalize hf : sat (tick - hold) = f
  have HF := Lib.hid hf
  clear hf
  go_loopw [9, 10, 18] (fun b i x wr => ∃ (k : Nat) (best : Int) (is : Bool), k ≤ n ∧ x = .int .i64 k ∧ b = .int .i64 best ∧ i = .bool is ∧ Hid (highest l tick hold = highF f tick (l.drop k) best is) ∧ Below w.heap.size w wr) (fun _ _ x _ => n - (intOf x).toNat)
  case atStart => exact ⟨0, 0, false, by omega, rfl, rfl, rfl, Lib.hid (by unfold highest; rw [HF.out]; rfl), Below.refl _ _⟩
  case round =>
    obtain ⟨k, best, is, hk, rfl, rfl, rfl, HG, hb⟩ := hrel
    by_cases hlt : k < n
    · have hkl : k < l.length := by have := HN.out; omega
      obtain ⟨bl, off, rfl, _, h0, h1, h2, h3, h4⟩ := adv_at (hr.up hb) hkl
      have hi := hall k hkl
      have hi1 := hi.1
      have hi2 := hi.2
      clear hi
      by_cases hin : f < l[k].tick ∧ l[k].tick ≤ tick
      · by_cases hm : is = false ∨ best < l[k].want
        · have HX := Lib.hid (highF_more f tick best is hkl hin hm)
          obtain ⟨hin1, hin2⟩ := hin
          cases is with
          | false =>
            clear hm
            go_wp2
            go_roundw
            case rel => exact ⟨k + 1, _, _, by omega, by go_num, rfl, rfl, Lib.hid (by rw [HG.out, HX.out]), sub_alloc hb _⟩
            case measure => simp [intOf]; omega
          | true =>
            have hm2 : best < l[k].want := by simpa using hm
            clear hm
            go_wp2
            go_roundw
            case rel => exact ⟨k + 1, _, _, by omega, by go_num, rfl, rfl, Lib.hid (by rw [HG.out, HX.out]), sub_alloc hb _⟩
            case measure => simp [intOf]; omega
        · have HX := Lib.hid (highF_less f tick best is hkl hin hm)
          obtain ⟨hin1, hin2⟩ := hin
          have hm2 : is = true ∧ ¬ best < l[k].want := by cases is <;> simp_all
          obtain ⟨rfl, hm3⟩ := hm2
          clear hm
          go_wp2
          go_roundw
          case rel => exact ⟨k + 1, _, _, by omega, by go_num, rfl, rfl, Lib.hid (by rw [HG.out, HX.out]), sub_alloc hb _⟩
          case measure => simp [intOf]; omega
      · have HX := Lib.hid (highF_out f tick best is hkl hin)
        by_cases h5 : f < l[k].tick
        · have h6 : ¬ l[k].tick ≤ tick := by omega
          clear hin
          go_wp2
          go_roundw
          case rel => exact ⟨k + 1, _, _, by omega, by go_num, rfl, rfl, Lib.hid (by rw [HG.out, HX.out]), sub_alloc hb _⟩
          case measure => simp [intOf]; omega
        · clear hin
          go_wp2
          go_roundw
          case rel => exact ⟨k + 1, _, _, by omega, by go_num, rfl, rfl, Lib.hid (by rw [HG.out, HX.out]), sub_alloc hb _⟩
          case measure => simp [intOf]; omega
    · have HX : Hid (highest l tick hold = (best, is)) := by
        show _ = _
        rw [HG.out, List.drop_eq_nil_of_le (by have := HN.out; omega)]
        rfl
      go_wp2
      go_ret2
      exact ⟨by rw [HX.out]; rfl, hb⟩

theorem rhighest_any (l : List Adv) (A : Option Addr) (c n : Nat) (tick hold : Int) (w : World) (hr : Reads w w.heap.size 5 A n (advs l)) (hl : n ≤ 100000) (ht : In64 tick) (hh : In64 hold) (hall : ∀ (k : Nat) (h : k < l.length), In64 l[k].tick ∧ In64 l[k].want) :
    Calls Try.prog 34 #[.slice A n c, .int .i64 tick, .int .i64 hold] w fun e w' => e = .returned (.tuple #[.int .i64 (highest l tick hold).1, .bool (highest l tick hold).2]) ∧ w = w' := by
  have hn := adv_len hr
  have HN := Lib.hid hn
  clear hn
  go_enter Try.func34, Try.ntmps34
  go_wp2_with (go_at_call 50; refine (rsub_any _ _ _ ht hh).mono ?_; rintro e w' ⟨rfl, rfl⟩)
  generalize hf : sat (tick - hold) = f
  have HF := Lib.hid hf
  clear hf
  go_loop [8, 9, 11] (fun b i x => ∃ (k : Nat) (best : Int) (is : Bool), k ≤ n ∧ x = .int .i64 k ∧ b = .int .i64 best ∧ i = .bool is ∧ Hid (highest l tick hold = highF f tick (l.drop k) best is)) (fun _ _ x => n - (intOf x).toNat)
  case atStart => exact ⟨0, 0, false, by omega, rfl, rfl, rfl, Lib.hid (by unfold highest; rw [HF.out]; rfl)⟩
  case round =>
    obtain ⟨k, best, is, hk, rfl, rfl, rfl, HG⟩ := hrel
    by_cases hlt : k < n
    · have hkl : k < l.length := by have := HN.out; omega
      obtain ⟨bl, off, rfl, _, h0, h1, h2, h3, h4⟩ := adv_at hr hkl
      have hi := hall k hkl
      have hi1 := hi.1
      have hi2 := hi.2
      clear hi
      by_cases hin : f < l[k].tick ∧ l[k].tick ≤ tick
      · by_cases hm : is = false ∨ best < l[k].want
        · have HX := Lib.hid (highF_more f tick best is hkl hin hm)
          obtain ⟨hin1, hin2⟩ := hin
          cases is with
          | false =>
            clear hm
            go_wp2
            go_round
            case rel => exact ⟨k + 1, _, _, by omega, by go_num, rfl, rfl, Lib.hid (by rw [HG.out, HX.out])⟩
            case measure => simp [intOf]; omega
          | true =>
            have hm2 : best < l[k].want := by simpa using hm
            clear hm
            go_wp2
            go_round
            case rel => exact ⟨k + 1, _, _, by omega, by go_num, rfl, rfl, Lib.hid (by rw [HG.out, HX.out])⟩
            case measure => simp [intOf]; omega
        · have HX := Lib.hid (highF_less f tick best is hkl hin hm)
          obtain ⟨hin1, hin2⟩ := hin
          have hm2 : is = true ∧ ¬ best < l[k].want := by cases is <;> simp_all
          obtain ⟨rfl, hm3⟩ := hm2
          clear hm
          go_wp2
          go_round
          case rel => exact ⟨k + 1, _, _, by omega, by go_num, rfl, rfl, Lib.hid (by rw [HG.out, HX.out])⟩
          case measure => simp [intOf]; omega
      · have HX := Lib.hid (highF_out f tick best is hkl hin)
        by_cases h5 : f < l[k].tick
        · have h6 : ¬ l[k].tick ≤ tick := by omega
          clear hin
          go_wp2
          go_round
          case rel => exact ⟨k + 1, _, _, by omega, by go_num, rfl, rfl, Lib.hid (by rw [HG.out, HX.out])⟩
          case measure => simp [intOf]; omega
        · clear hin
          go_wp2
          go_round
          case rel => exact ⟨k + 1, _, _, by omega, by go_num, rfl, rfl, Lib.hid (by rw [HG.out, HX.out])⟩
          case measure => simp [intOf]; omega
    · have HX : Hid (highest l tick hold = (best, is)) := by
        show _ = _
        rw [HG.out, List.drop_eq_nil_of_le (by have := HN.out; omega)]
        rfl
      go_wp2
      go_ret2
      exact ⟨by rw [HX.out]; rfl, rfl⟩

end Go.Proofs.Ytgmgddccdfmiiaa
