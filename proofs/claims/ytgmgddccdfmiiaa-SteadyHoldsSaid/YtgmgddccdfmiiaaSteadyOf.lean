/-
  The walks of steady.Of and of the reference's own, and of the law's row. Conditions: at most 100000 decisions, numbers of 64 bits.
-/
import Derived.Test.YtgmgddccdfmiiaaSteady
namespace Go.Proofs.Ytgmgddccdfmiiaa
open Go.RowKit Go.Fw
set_option maxHeartbeats 1000000
set_option maxRecDepth 4000
set_option linter.unusedVariables false
set_option linter.unusedSimpArgs false

theorem elemAdv : ElemS Try.prog 46 53 (.agg #[.int .i64 0, .int .i64 0, .int .i64 0, .int .i64 0, .int .i64 0]) 5 40 := ⟨Try.underlying46, by kernel_rfl, rfl⟩
def rowA (n : Int) : Adv := ⟨1, 0, n, n, 0⟩
theorem row_any (l : List Int) (A : Option Addr) (c n : Nat) (w : World) (hr : Reads w w.heap.size 1 A n (i64s l)) (hl : n ≤ 1000) :
    Calls Try.prog 47 #[.slice A n c] w fun e w' => ∃ v, e = .returned v ∧ MineS 5 w w' 53 v n (advs (l.map rowA)) := by
  have hn : n = l.length := by have := hr.len; rwa [i64s_length] at this
  have HN := Lib.hid hn
  clear hn
  go_enter Try.func47, Try.ntmps47
  go_wp2
  go_loopw [3, 8] (fun v i wr => ∃ (k : Nat), k ≤ n ∧ i = .int .i64 k ∧ MineS 5 w wr 53 v k (advs ((l.take k).map rowA))) (fun _ i _ => n - (intOf i).toNat)
  case atStart => exact ⟨0, by omega, rfl, MineS.nil_ 5 w _⟩
  case round =>
    obtain ⟨k, hk, rfl, hm⟩ := hrel
    by_cases hlt : k < n
    · obtain ⟨ad, u, rfl, _, hx, hc⟩ := (hr.up hm.below).at_ hlt
      have hkl : k < l.length := by have := HN.out; omega
      obtain rfl := i64s_get hx hkl
      have HS : Hid ((l.take (k + 1)).map rowA = (l.take k).map rowA ++ [rowA l[k]]) := by
        show _ = _
        rw [List.take_succ_eq_append_getElem hkl, List.map_append]
        rfl
      generalize hy : l[k] = y at *
      clear hx hy
      go_wp2_with (at_builtin; refine wpList_append_oneS elemAdv (by decide) rfl (.tmp 12) (.tmp 16) rfl rfl hm rfl rfl (by simp [Value.oneCell']) (by omega) (by unfold maxLen; omega) ?_; intro v' w' hm' hg')
      have e : advs ((l.take k).map rowA) ++ [.int .i64 1, .int .i64 0, .int .i64 y, .int .i64 y, .int .i64 0] = advs ((l.take (k + 1)).map rowA) := by rw [HS.out, ← advs_snoc]; rfl
      go_roundw
      case rel => exact ⟨k + 1, by omega, by go_num, by rw [← e]; exact hm'⟩
      case measure => simp [intOf]; omega
    · go_wp2
      go_ret
      refine ⟨_, rfl, ?_⟩
      obtain rfl : k = n := by omega
      rw [List.take_of_length_le (by have := HN.out; omega)] at hm
      exact hm

/-- what is told, and whether it was held -/
def ofS (l : List Adv) (tick hold want : Int) : Int × Bool := if (highest l tick hold).2 = true ∧ want < (highest l tick hold).1 then ((highest l tick hold).1, true) else (want, false)
theorem of_any (l : List Adv) (A : Option Addr) (c n : Nat) (p0 p1 p2 p3 p4 hold tick want : Int) (w : World) (hr : Reads w w.heap.size 5 A n (advs l)) (hl : n ≤ 100000) (ht : In64 tick) (hh : In64 hold) (hall : ∀ (k : Nat) (h : k < l.length), In64 l[k].tick ∧ In64 l[k].want) :
    Calls Try.prog 24 #[.agg #[.int .i64 p0, .int .i64 p1, .int .i64 p2, .int .i64 p3, .int .i64 p4, .int .i64 hold], .int .i64 tick, .int .i64 want, .slice A n c] w
      fun e w' => e = .returned (.tuple #[.int .i64 (ofS l tick hold want).1, .bool (ofS l tick hold want).2]) ∧ Below w.heap.size w w' := by
  have HO : Hid (ofS l tick hold want = if (highest l tick hold).2 = true ∧ want < (highest l tick hold).1 then ((highest l tick hold).1, true) else (want, false)) := Lib.hid rfl
  go_enter Try.func24, Try.ntmps24
  go_wp2_with fail
  have hb := sub_alloc (Below.refl w.heap.size w) (.cells #[.int .i64 p0, .int .i64 p1, .int .i64 p2, .int .i64 p3, .int .i64 p4, .int .i64 hold] 45)
  refine (highest_any l _ _ _ tick hold _ (hr.up hb) hl ht hh hall).mono ?_
  rintro e w1 ⟨rfl, hb1⟩
  have hb2 := sub_trans hb hb1
  rcases hq : highest l tick hold with ⟨hi, is⟩
  rw [hq] at HO
  have HO2 := Lib.hid HO.out
  clear HO hq
  cases is with
  | false =>
    go_wp2
    go_ret2
    exact ⟨by rw [HO2.out]; rfl, hb2⟩
  | true =>
    by_cases h : want < hi
    · have HF : Hid (ofS l tick hold want = (hi, true)) := by show _ = _; rw [HO2.out, if_pos ⟨rfl, h⟩]
      go_wp2
      go_ret2
      exact ⟨by rw [HF.out]; rfl, hb2⟩
    · have HF : Hid (ofS l tick hold want = (want, false)) := by show _ = _; rw [HO2.out, if_neg (by intro hc; exact h hc.2)]
      go_wp2
      go_ret2
      exact ⟨by rw [HF.out]; rfl, hb2⟩
theorem rof_any (l : List Adv) (A : Option Addr) (c n : Nat) (p0 p1 p2 p3 p4 hold tick want : Int) (w : World) (hr : Reads w w.heap.size 5 A n (advs l)) (hl : n ≤ 100000) (ht : In64 tick) (hh : In64 hold) (hall : ∀ (k : Nat) (h : k < l.length), In64 l[k].tick ∧ In64 l[k].want) :
    Calls Try.prog 25 #[.agg #[.int .i64 p0, .int .i64 p1, .int .i64 p2, .int .i64 p3, .int .i64 p4, .int .i64 hold], .int .i64 tick, .int .i64 want, .slice A n c] w
      fun e w' => e = .returned (.tuple #[.int .i64 (ofS l tick hold want).1, .bool (ofS l tick hold want).2]) ∧ Below w.heap.size w w' := by
  have HO : Hid (ofS l tick hold want = if (highest l tick hold).2 = true ∧ want < (highest l tick hold).1 then ((highest l tick hold).1, true) else (want, false)) := Lib.hid rfl
  go_enter Try.func25, Try.ntmps25
  go_wp2_with fail
  have hb := sub_alloc (Below.refl w.heap.size w) (.cells #[.int .i64 p0, .int .i64 p1, .int .i64 p2, .int .i64 p3, .int .i64 p4, .int .i64 hold] 45)
  refine (rhighest_any l _ _ _ tick hold _ (hr.up hb) hl ht hh hall).mono ?_
  rintro e w1 ⟨rfl, rfl⟩
  rcases hq : highest l tick hold with ⟨hi, is⟩
  rw [hq] at HO
  have HO2 := Lib.hid HO.out
  clear HO hq
  cases is with
  | false =>
    go_wp2
    go_ret2
    exact ⟨by rw [HO2.out]; rfl, hb⟩
  | true =>
    by_cases h : want < hi
    · have HF : Hid (ofS l tick hold want = (hi, true)) := by show _ = _; rw [HO2.out, if_pos ⟨rfl, h⟩]
      go_wp2
      go_ret2
      exact ⟨by rw [HF.out]; rfl, hb⟩
    · have HF : Hid (ofS l tick hold want = (want, false)) := by show _ = _; rw [HO2.out, if_neg (by intro hc; exact h hc.2)]
      go_wp2
      go_ret2
      exact ⟨by rw [HF.out]; rfl, hb⟩
end Go.Proofs.Ytgmgddccdfmiiaa
