/-
  Counts, walked. Conditions: few picks.
-/
import Derived.Test.YtenjhklkljeijaaDoorPickWalk
namespace Go.Proofs.YtenjhklkljeijaaDoor
open Go.RowKit Go.Fw
set_option maxHeartbeats 1000000
set_option maxRecDepth 4000
set_option linter.unusedVariables false
set_option linter.unusedSimpArgs false
theorem run_makeP (n : Nat) (hn : n ≤ 1000) (w : World) : (Instr.makeSlice 22 (.int .i64 (n : Int)) (.int .i64 (n : Int))).run Tryd.prog w = .ok (.slice (some ⟨w.heap.size, 0, none⟩) n n) (w.alloc (.cells (iarr (List.replicate n 0)) 3)) := by
  obtain ⟨i, hi, hz, hsz, hby⟩ := info_parts (show (Tryd.prog.info? 3).map (fun i => (i.zero, i.size, i.bytes)) = some (some (.int .i64 0), 1, 8) by kernel_rfl)
  have h := run_make (P := Tryd.prog) w 22 3 i (.int .i64 0) Tryd.underlying22 hi hz .i64 .i64 n n (by omega) (by omega) (by rw [hby]; omega) (by omega)
  rw [hsz, Nat.mul_one] at h
  simp only [Int.toNat_natCast] at h
  rw [made_zeros] at h
  exact h
theorem counts_no (n : Int) (l : List Int) (A : Option Addr) (c : Nat) (w : World) (hl : l.length ≤ 100000) (hn : n < 1 ∨ 32 < n) :
    Calls Tryd.prog 13 #[.slice A l.length c, .int .i64 n] w fun e w' => e = .returned (.slice none 0 0) ∧ w = w' := by
  rcases hn with h | h
  · go_enter Tryd.func13, Tryd.ntmps13
    go_wp2
    go_ret
    exact ⟨rfl, rfl⟩
  · have h1 : ¬ n < 1 := by omega
    go_enter Tryd.func13, Tryd.ntmps13
    go_wp2
    go_ret
    exact ⟨rfl, rfl⟩
theorem counts_any (n : Nat) (l : List Int) (A : Option Addr) (c : Nat) (w : World) (hr : Reads w w.heap.size 1 A l.length (i64s l)) (hin : ∀ x ∈ l, In64 x) (hn1 : 1 ≤ n) (hn2 : n ≤ 32) (hl : l.length ≤ 100000) :
    Calls Tryd.prog 13 #[.slice A l.length c, .int .i64 (n : Int)] w fun e w' => e = .returned (.slice (some ⟨w.heap.size, 0, none⟩) n n) ∧ Blk w' w.heap.size 3 (iarr (countsN l n)) ∧ Below w.heap.size w w' := by
  have hm := run_makeP n (by omega)
  have HIN := Lib.hid hin
  have HR := Lib.hid hr
  have hb0 := sub_alloc (Below.refl w.heap.size w) (.cells (iarr (List.replicate n 0)) 3)
  have hB0 : Blk (w.alloc (.cells (iarr (List.replicate n 0)) 3)) w.heap.size 3 (iarr (countsN [] n)) := by
    rw [countsN_nil]
    exact Blk.new_at w 3 (iarr (List.replicate n 0)) (g := w.heap.size) rfl
  have HB0 := Lib.hid (And.intro hB0 hb0)
  have n1 : ¬ (n : Int) < 1 := by omega
  have n2 : ¬ 32 < (n : Int) := by omega
  clear hin hr hB0 hb0
  go_enter Tryd.func13, Tryd.ntmps13
  generalize hnl : l.length = N at *
  have HN := Lib.hid hnl
  clear hnl
  go_wp2
  clear hm
  generalize w.alloc (.cells (iarr (List.replicate n 0)) 3) = w1 at *
  go_loopw [18] (fun i wr => ∃ j : Nat, j ≤ N ∧ i = .int .i64 j ∧ Blk wr w.heap.size 3 (iarr (countsN (l.take j) n)) ∧ Below w.heap.size w wr) (fun i _ => N - (intOf i).toNat)
  case atStart => exact ⟨0, Nat.zero_le _, rfl, by simpa using HB0.out.1, HB0.out.2⟩
  case round =>
    obtain ⟨j, hj, rfl, hB, hb⟩ := hrel
    by_cases hlt : j < N
    · have hjl : j < l.length := by have := HN.out; omega
      obtain ⟨ad, u, rfl, _, hux, hc⟩ := (HR.out.up hb).at_ hlt
      obtain rfl := i64s_get hux hjl
      have hx := HIN.out l[j] (List.getElem_mem hjl)
      obtain ⟨a, ha⟩ : ∃ a : Nat, (a : Int) = firstN l[j] (n : Int) := ⟨(firstN l[j] (n : Int)).toNat, by have := firstN_at (p := l[j]) (n := (n : Int)) (by omega); omega⟩
      have han : a < n := by have := firstN_at (p := l[j]) (n := (n : Int)) (by omega); omega
      have hs := countsN_snoc (l.take j) l[j] ha han
      rw [← List.take_succ_eq_append_getElem hjl] at hs
      have hget := countsN_get (l := l.take j) han
      have hle := namedN_le (l.take j) (n : Int) (a : Int)
      have hle2 : namedN (l.take j) (n : Int) (a : Int) ≤ 100000 := by simp at hle; omega
      have hal : a < (countsN (l.take j) n).length := by rw [countsN_length]; exact han
      have c0 := hB.cell a
      rw [iarr_get hal, hget] at c0
      have f0 := hB.frozen a
      have hB2 := hB.set_ a (.int .i64 ((namedN (l.take j) (n : Int) (a : Int) : Int) + 1))
      rw [iarr_set, hs] at hB2
      have hb2 := hb.setCell (p := ⟨w.heap.size, a, none⟩) (Nat.le_refl _) (.int .i64 ((namedN (l.take j) (n : Int) (a : Int) : Int) + 1))
      have HF := Lib.hid (And.intro ha (And.intro hB2 hb2))
      have haI : (a : Int) < (n : Int) := by omega
      clear hs hget hle hB hb hB2 hb2 ha hal hux
      generalize namedN (l.take j) (n : Int) (a : Int) = q at *
      generalize l[j] = x at *
      have hnI : In64 (n : Int) := by unfold In64; omega
      go_wp2_with fail
      refine (first_any x (n : Int) _ hx hnI).mono ?_
      rintro e w' ⟨rfl, rfl⟩
      rw [← HF.out.1]
      go_wp2
      go_roundw
      case rel => exact ⟨j + 1, by omega, by go_num, by simpa using HF.out.2.1, HF.out.2.2⟩
      case measure => simp [intOf]; omega
    · rw [List.take_of_length_le (by have := HN.out; omega)] at hB
      go_wp2
      go_ret
      exact ⟨rfl, hB, hb⟩
end Go.Proofs.YtenjhklkljeijaaDoor
