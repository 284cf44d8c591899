/-
  3 texts of this claim, joined; each says itself what it proves. Condition: as each text says.
-/
import Derived.Test.YteljecehppeamaaGreatDoorJ04
import Derived.Test.YteljecehppeamaaGreatDoorJ07
import Derived.Test.YteljecehppeamaaGreatDoorJ09
import Derived.Test.YteljecehppeamaaGreatDoorJ02
import Derived.Shelf.Strconv.Itoa3
import Derived.Shelf.Strconv.AtoiAll
import Derived.Shelf.Strconv.ErrVarAll
/-
  Which scripts may be: script.Check and the reference's, walked (chapter 42). Condition: strconv's table lies in memory.
-/
namespace Go.Fw
open Go.RowKit
set_option linter.unusedVariables false
/-- the first thing that is wrong with calls -/
def firstE : List Cl → Int
  | [] => 0
  | x :: r => if textE x ≠ 0 then textE x else firstE r
theorem firstE_app : ∀ (l r : List Cl), firstE l = 0 → firstE (l ++ r) = firstE r
  | [], r, _ => rfl
  | x :: l, r, h => by
    unfold firstE at h
    split at h
    · contradiction
    · rename_i h1
      show (if textE x ≠ 0 then textE x else firstE (l ++ r)) = firstE r
      rw [if_neg h1]
      exact firstE_app l r h
theorem firstE_hit {l r : List Cl} {x : Cl} (h : firstE l = 0) (hx : textE x ≠ 0) : firstE (l ++ x :: r) = textE x := by
  rw [firstE_app l _ h]
  unfold firstE
  rw [if_pos hx]
theorem firstE_one {l : List Cl} {x : Cl} (h : firstE l = 0) (hx : textE x = 0) : firstE (l ++ [x]) = 0 := by
  rw [firstE_app l _ h]
  unfold firstE
  rw [if_neg (by rw [hx]; simp)]
  rfl
/-- what is wrong with a script -/
def scE (st sa lo hi : Int) (ps : List (List Cl)) (wk : Int) : Int := if callsE st sa lo hi ps wk ≠ 0 then callsE st sa lo hi ps wk else firstE ps.flatten
theorem flat_take {ps : List (List Cl)} {k : Nat} (hk : k < ps.length) : (ps.take (k + 1)).flatten = (ps.take k).flatten ++ ps[k] := by
  rw [List.take_succ_eq_append_getElem hk, List.flatten_append]
  simp
theorem flat_at {ps : List (List Cl)} {k : Nat} (hk : k < ps.length) : ps.flatten = (ps.take k).flatten ++ (ps[k] ++ (ps.drop (k + 1)).flatten) := by
  conv => lhs; rw [← List.take_append_drop k ps, List.flatten_append, List.drop_eq_getElem_cons hk, List.flatten_cons]
theorem flat_hit {ps : List (List Cl)} {k j : Nat} (hk : k < ps.length) (hj : j < ps[k].length) (h : firstE ((ps.take k).flatten ++ ps[k].take j) = 0) (hx : textE ps[k][j] ≠ 0) : firstE ps.flatten = textE ps[k][j] := by
  have e : ps.flatten = ((ps.take k).flatten ++ ps[k].take j) ++ ps[k][j] :: (ps[k].drop (j + 1) ++ (ps.drop (k + 1)).flatten) := by
    have e2 : ps[k] = ps[k].take j ++ ps[k][j] :: ps[k].drop (j + 1) := by rw [← List.drop_eq_getElem_cons hj, List.take_append_drop]
    rw [flat_at hk]
    calc _ = (ps.take k).flatten ++ ((ps[k].take j ++ ps[k][j] :: ps[k].drop (j + 1)) ++ (ps.drop (k + 1)).flatten) := by rw [← e2]
      _ = _ := by simp only [List.append_assoc, List.cons_append]
  rw [e]
  exact firstE_hit h hx
theorem flat_one {ps : List (List Cl)} {k j : Nat} (hk : k < ps.length) (hj : j < ps[k].length) (h : firstE ((ps.take k).flatten ++ ps[k].take j) = 0) (hx : textE ps[k][j] = 0) : firstE ((ps.take k).flatten ++ ps[k].take (j + 1)) = 0 := by
  rw [List.take_succ_eq_append_getElem hj, ← List.append_assoc]
  exact firstE_one h hx
end Go.Fw
namespace Go.Proofs.YteljecehppeamaaGreatDoor
open Go.RowKit Go.Fw
set_option maxHeartbeats 1000000
set_option maxRecDepth 100000
set_option linter.unusedVariables false
set_option linter.unusedSimpArgs false
theorem sccheck_any (st sa lo hi : Int) (ps : List (List Cl)) (A A2 : Option Addr) (n c n2 c2 : Nat) (wk : Int) (w : World) (hP : PrgAt w A n ps) (hn : n ≤ 1000000) (hwk : In64 wk) (hok : ∀ p ∈ ps, ∀ x ∈ p, x.ok) (hT : Pow w) :
    Calls Tryz.prog 9 #[.agg #[.int .i64 st, .int .i64 sa, .int .i64 lo, .int .i64 hi, .slice A n c, .int .i64 wk, .slice A2 n2 c2]] w fun x w' => x = .returned (.int .i64 (scE st sa lo hi ps wk)) ∧ Below w.heap.size w w' := by
  have HN := Lib.hid hP.len
  have HB := Lib.hid (sub_alloc (Below.refl _ w) (.cells #[.int .i64 st, .int .i64 sa, .int .i64 lo, .int .i64 hi, .slice A n c, .int .i64 wk, .slice A2 n2 c2] 33))
  have HG := Lib.hid (Blk.new_at w 33 #[.int .i64 st, .int .i64 sa, .int .i64 lo, .int .i64 hi, .slice A n c, .int .i64 wk, .slice A2 n2 c2] (g := w.heap.size) rfl)
  have HP := Lib.hid (hP.up HB.out)
  have HT := Lib.hid (pow_up hT HB.out)
  have HOK := Lib.hid hok
  have HC := Lib.hid (fun W (hp : PrgAt W A n ps) => ccheck_any st sa lo hi ps A n c wk W hp hn hwk)
  have HSE : Hid ((callsE st sa lo hi ps wk ≠ 0 → scE st sa lo hi ps wk = callsE st sa lo hi ps wk) ∧ (callsE st sa lo hi ps wk = 0 → scE st sa lo hi ps wk = firstE ps.flatten)) := Lib.hid ⟨fun h => by unfold scE; rw [if_pos h], fun h => by unfold scE; rw [if_neg (by rw [h]; simp)]⟩
  clear hP hT hok hwk
  have c0 := HG.out.cell 0
  have c1 := HG.out.cell 1
  have c2' := HG.out.cell 2
  have c3 := HG.out.cell 3
  have c4 := HG.out.cell 4
  have c5 := HG.out.cell 5
  have c6 := HG.out.cell 6
  simp only [List.getElem?_toArray, List.getElem?_cons_succ, List.getElem?_cons_zero] at c0 c1 c2' c3 c4 c5 c6
  generalize callsE st sa lo hi ps wk = ce at *
  generalize scE st sa lo hi ps wk = se at *
  go_enter Tryz.func9, Tryz.ntmps9
  go_wp2_with fail
  refine (HC.out _ HP.out).mono ?_
  rintro y w1 ⟨rfl, hb⟩
  have hb1 := sub_trans HB.out hb
  have HP1 := Lib.hid (HP.out.up hb)
  have HT1 := Lib.hid (pow_up HT.out hb)
  have HG1 := Lib.hid (HG.out.later hb)
  have d4 := HG1.out.cell 4
  simp only [List.getElem?_toArray, List.getElem?_cons_succ, List.getElem?_cons_zero] at d4
  clear hb c0 c1 c2' c3 c4 c5 c6 HB HG HP HT HC
  by_cases hce : ce = 0
  case neg =>
    have e1 : (ce == 0) = false := by simpa using hce
    have e2 : (ce != 0) = true := by simpa using hce
    have HE := Lib.hid (HSE.out.1 hce)
    clear hce
    go_wp2
    go_ret
    exact ⟨ret_i HE.out.symm, hb1⟩
  subst hce
  have HE := Lib.hid (HSE.out.2 rfl)
  clear HSE
  go_wp2
  go_loopw [23] (fun i wr => ∃ (k : Nat), k ≤ n ∧ i = .int .i64 k ∧ Below w1.heap.size w1 wr ∧ Hid (firstE (ps.take k).flatten = 0)) (fun i _ => n - (intOf i).toNat)
  case atStart => exact ⟨0, by omega, rfl, Below.refl _ _, Lib.hid rfl⟩
  case round =>
    obtain ⟨k, hk, rfl, hbr, HK⟩ := hrel
    have d4 := (HG1.out.later hbr).cell 4
    simp only [List.getElem?_toArray, List.getElem?_cons_succ, List.getElem?_cons_zero] at d4
    by_cases hlt : k < n
    · have hkl : k < ps.length := by have := HN.out; omega
      obtain ⟨ad, A', c', rfl, hadl, hc, hpc, hcm, hrd⟩ := (HP1.out.up hbr).at_ hkl
      have HOP : Hid (∀ x ∈ ps[k], x.ok) := Lib.hid (HOK.out _ (List.getElem_mem hkl))
      have HFH : Hid (∀ (j : Nat) (hj : j < ps[k].length), firstE ((ps.take k).flatten ++ ps[k].take j) = 0 → textE ps[k][j] ≠ 0 → firstE ps.flatten = textE ps[k][j]) := Lib.hid (fun j hj h hx => flat_hit hkl hj h hx)
      have HF1 : Hid (∀ (j : Nat) (hj : j < ps[k].length), firstE ((ps.take k).flatten ++ ps[k].take j) = 0 → textE ps[k][j] = 0 → firstE ((ps.take k).flatten ++ ps[k].take (j + 1)) = 0) := Lib.hid (fun j hj h hx => flat_one hkl hj h hx)
      have HFK : Hid (firstE ((ps.take k).flatten ++ ps[k]) = 0 → firstE (ps.take (k + 1)).flatten = 0) := Lib.hid (fun h => by rw [flat_take hkl]; exact h)
      have HRD := Lib.hid hrd
      unfold maxLen at hcm
      have HCE : Hid (∀ W, Below wr.heap.size wr W → W.cell? (ad.add k) = some (.slice A' ps[k].length c')) := Lib.hid (fun W hW => (hW.cell (p := ad.add k) (by rw [block_of_add]; exact hadl)).trans hc)
      clear hrd
      generalize hp : ps[k] = p at *
      clear hp
      go_wp2
      go_loopw [29] (fun i wq => ∃ (j : Nat), j ≤ p.length ∧ i = .int .i64 j ∧ Below wr.heap.size wr wq ∧ Hid (firstE ((ps.take k).flatten ++ p.take j) = 0)) (fun i _ => p.length - (intOf i).toNat)
      case atStart => exact ⟨0, by omega, rfl, Below.refl _ _, Lib.hid (by rw [List.take_zero, List.append_nil]; exact HK.out)⟩
      case round =>
        obtain ⟨j, hj, rfl, hbq, HJ⟩ := hrel
        skip
        by_cases hjt : j < p.length
        · obtain ⟨bl, off, rfl, _, q0, q1, q2, q3, q4, q5, q6, q7, q8, q9, q10⟩ := cl_at (HRD.out.up hbq) hjt
          have hxo := HOP.out _ (List.getElem_mem hjt)
          have HXT := Lib.hid (fun W hW => ltext_any p[j] W hW hxo)
          have HH := Lib.hid (fun hx => HFH.out j hjt HJ.out hx)
          have HO := Lib.hid (fun hx => HF1.out j hjt HJ.out hx)
          clear hxo
          generalize textB p[j] = tb at *
          generalize textE p[j] = te at *
          generalize p[j] = x at *
          go_wp2_with fail
          refine (HXT.out _ (pow_up HT1.out (sub_trans hbr (sub_alloc hbq (.cells x.arr 50))))).mono ?_
          rintro y w5 ⟨rfl, hb5⟩
          have hb6 := sub_trans (sub_alloc hbq (.cells x.arr 50)) hb5
          clear hb5 q0 q1 q2 q3 q4 q5 q6 q7 q8 q9 q10
          by_cases hte : te = 0
          · subst hte
            have HO2 := Lib.hid (HO.out rfl)
            clear HO HH
            go_wp2
            go_roundw
            case rel => exact ⟨j + 1, by omega, by go_num, hb6, HO2⟩
            case measure => simp [intOf]; omega
          · have e1 : (te == 0) = false := by simpa using hte
            have e2 : (te != 0) = true := by simpa using hte
            have HH2 := Lib.hid (HE.out.trans (HH.out hte))
            clear hte HO HH
            go_wp2
            go_ret
            exact ⟨ret_i HH2.out.symm, sub_trans hb1 (sub_trans hbr hb6)⟩
        · have HK2 : Hid (firstE (ps.take (k + 1)).flatten = 0) := Lib.hid (HFK.out (by rw [← List.take_of_length_le (show p.length ≤ j by omega)]; exact HJ.out))
          go_wp2
          go_roundw
          case rel => exact ⟨k + 1, by omega, by go_num, sub_trans hbr hbq, HK2⟩
          case measure => simp [intOf]; omega
    · have HE2 : Hid (se = 0) := Lib.hid (by rw [HE.out, ← List.take_of_length_le (show ps.length ≤ k by have := HN.out; omega)]; exact HK.out)
      go_wp2
      go_ret
      exact ⟨ret_i HE2.out.symm, sub_trans hb1 hbr⟩
theorem rsccheck_any (st sa lo hi : Int) (ps : List (List Cl)) (A A2 : Option Addr) (n c n2 c2 : Nat) (wk : Int) (w : World) (hP : PrgAt w A n ps) (hn : n ≤ 1000000) (hwk : In64 wk) (hok : ∀ p ∈ ps, ∀ x ∈ p, x.ok) (hT : Pow w) :
    Calls Tryz.prog 10 #[.agg #[.int .i64 st, .int .i64 sa, .int .i64 lo, .int .i64 hi, .slice A n c, .int .i64 wk, .slice A2 n2 c2]] w fun x w' => x = .returned (.int .i64 (scE st sa lo hi ps wk)) ∧ Below w.heap.size w w' := by
  have HN := Lib.hid hP.len
  have HB := Lib.hid (sub_alloc (Below.refl _ w) (.cells #[.int .i64 st, .int .i64 sa, .int .i64 lo, .int .i64 hi, .slice A n c, .int .i64 wk, .slice A2 n2 c2] 27))
  have HG := Lib.hid (Blk.new_at w 27 #[.int .i64 st, .int .i64 sa, .int .i64 lo, .int .i64 hi, .slice A n c, .int .i64 wk, .slice A2 n2 c2] (g := w.heap.size) rfl)
  have HP := Lib.hid (hP.up HB.out)
  have HT := Lib.hid (pow_up hT HB.out)
  have HOK := Lib.hid hok
  have HC := Lib.hid (fun W (hp : PrgAt W A n ps) => rccheck_any st sa lo hi ps A n c wk W hp hn hwk)
  have HSE : Hid ((callsE st sa lo hi ps wk ≠ 0 → scE st sa lo hi ps wk = callsE st sa lo hi ps wk) ∧ (callsE st sa lo hi ps wk = 0 → scE st sa lo hi ps wk = firstE ps.flatten)) := Lib.hid ⟨fun h => by unfold scE; rw [if_pos h], fun h => by unfold scE; rw [if_neg (by rw [h]; simp)]⟩
  clear hP hT hok hwk
  have c0 := HG.out.cell 0
  have c1 := HG.out.cell 1
  have c2' := HG.out.cell 2
  have c3 := HG.out.cell 3
  have c4 := HG.out.cell 4
  have c5 := HG.out.cell 5
  have c6 := HG.out.cell 6
  simp only [List.getElem?_toArray, List.getElem?_cons_succ, List.getElem?_cons_zero] at c0 c1 c2' c3 c4 c5 c6
  generalize callsE st sa lo hi ps wk = ce at *
  generalize scE st sa lo hi ps wk = se at *
  go_enter Tryz.func10, Tryz.ntmps10
  go_wp2_with fail
  refine (HC.out _ HP.out).mono ?_
  rintro y w1 ⟨rfl, hb⟩
  have hb1 := sub_trans HB.out hb
  have HP1 := Lib.hid (HP.out.up hb)
  have HT1 := Lib.hid (pow_up HT.out hb)
  have HG1 := Lib.hid (HG.out.later hb)
  have d4 := HG1.out.cell 4
  simp only [List.getElem?_toArray, List.getElem?_cons_succ, List.getElem?_cons_zero] at d4
  clear hb c0 c1 c2' c3 c4 c5 c6 HB HG HP HT HC
  by_cases hce : ce = 0
  case neg =>
    have e1 : (ce == 0) = false := by simpa using hce
    have e2 : (ce != 0) = true := by simpa using hce
    have HE := Lib.hid (HSE.out.1 hce)
    clear hce
    go_wp2
    go_ret
    exact ⟨ret_i HE.out.symm, hb1⟩
  subst hce
  have HE := Lib.hid (HSE.out.2 rfl)
  clear HSE
  go_wp2
  go_loopw [4] (fun i wr => ∃ (k : Nat), k ≤ n ∧ i = .int .i64 k ∧ Below w1.heap.size w1 wr ∧ Hid (firstE (ps.take k).flatten = 0)) (fun i _ => n - (intOf i).toNat)
  case atStart => exact ⟨0, by omega, rfl, Below.refl _ _, Lib.hid rfl⟩
  case round =>
    obtain ⟨k, hk, rfl, hbr, HK⟩ := hrel
    have d4 := (HG1.out.later hbr).cell 4
    simp only [List.getElem?_toArray, List.getElem?_cons_succ, List.getElem?_cons_zero] at d4
    by_cases hlt : k < n
    · have hkl : k < ps.length := by have := HN.out; omega
      obtain ⟨ad, A', c', rfl, hadl, hc, hpc, hcm, hrd⟩ := (HP1.out.up hbr).at_ hkl
      have HOP : Hid (∀ x ∈ ps[k], x.ok) := Lib.hid (HOK.out _ (List.getElem_mem hkl))
      have HFH : Hid (∀ (j : Nat) (hj : j < ps[k].length), firstE ((ps.take k).flatten ++ ps[k].take j) = 0 → textE ps[k][j] ≠ 0 → firstE ps.flatten = textE ps[k][j]) := Lib.hid (fun j hj h hx => flat_hit hkl hj h hx)
      have HF1 : Hid (∀ (j : Nat) (hj : j < ps[k].length), firstE ((ps.take k).flatten ++ ps[k].take j) = 0 → textE ps[k][j] = 0 → firstE ((ps.take k).flatten ++ ps[k].take (j + 1)) = 0) := Lib.hid (fun j hj h hx => flat_one hkl hj h hx)
      have HFK : Hid (firstE ((ps.take k).flatten ++ ps[k]) = 0 → firstE (ps.take (k + 1)).flatten = 0) := Lib.hid (fun h => by rw [flat_take hkl]; exact h)
      have HRD := Lib.hid hrd
      unfold maxLen at hcm
      have HCE : Hid (∀ W, Below wr.heap.size wr W → W.cell? (ad.add k) = some (.slice A' ps[k].length c')) := Lib.hid (fun W hW => (hW.cell (p := ad.add k) (by rw [block_of_add]; exact hadl)).trans hc)
      clear hrd
      generalize hp : ps[k] = p at *
      clear hp
      go_wp2
      go_loopw [5] (fun i wq => ∃ (j : Nat), j ≤ p.length ∧ i = .int .i64 j ∧ Below wr.heap.size wr wq ∧ Hid (firstE ((ps.take k).flatten ++ p.take j) = 0)) (fun i _ => p.length - (intOf i).toNat)
      case atStart => exact ⟨0, by omega, rfl, Below.refl _ _, Lib.hid (by rw [List.take_zero, List.append_nil]; exact HK.out)⟩
      case round =>
        obtain ⟨j, hj, rfl, hbq, HJ⟩ := hrel
        skip
        have d4 := (HG1.out.later (sub_trans hbr hbq)).cell 4
        simp only [List.getElem?_toArray, List.getElem?_cons_succ, List.getElem?_cons_zero] at d4
        have hcj := HCE.out _ hbq
        by_cases hjt : j < p.length
        · obtain ⟨bl, off, rfl, _, q0, q1, q2, q3, q4, q5, q6, q7, q8, q9, q10⟩ := cl_at (HRD.out.up hbq) hjt
          have hxo := HOP.out _ (List.getElem_mem hjt)
          have HXT := Lib.hid (fun W hW => rltext_any p[j] W hxo)
          have HXT : Hid (∀ W, Calls Tryz.prog 28 #[(p[j]).val] W fun y w' => y = .returned (.tuple #[.string (textB p[j]), .int .i64 (textE p[j])]) ∧ Below W.heap.size W w') := Lib.hid (fun W => rltext_any p[j] W hxo)
          have HH := Lib.hid (fun hx => HFH.out j hjt HJ.out hx)
          have HO := Lib.hid (fun hx => HF1.out j hjt HJ.out hx)
          clear hxo
          generalize textB p[j] = tb at *
          generalize textE p[j] = te at *
          generalize p[j] = x at *
          go_wp2_with fail
          refine (HXT.out _).mono ?_
          rintro y w5 ⟨rfl, hb5⟩
          have hb6 := sub_trans hbq hb5
          clear hb5 q0 q1 q2 q3 q4 q5 q6 q7 q8 q9 q10
          by_cases hte : te = 0
          · subst hte
            have HO2 := Lib.hid (HO.out rfl)
            clear HO HH
            go_wp2
            go_roundw
            case rel => exact ⟨j + 1, by omega, by go_num, hb6, HO2⟩
            case measure => simp [intOf]; omega
          · have e1 : (te == 0) = false := by simpa using hte
            have e2 : (te != 0) = true := by simpa using hte
            have HH2 := Lib.hid (HE.out.trans (HH.out hte))
            clear hte HO HH
            go_wp2
            go_ret
            exact ⟨ret_i HH2.out.symm, sub_trans hb1 (sub_trans hbr hb6)⟩
        · have HK2 : Hid (firstE (ps.take (k + 1)).flatten = 0) := Lib.hid (HFK.out (by rw [← List.take_of_length_le (show p.length ≤ j by omega)]; exact HJ.out))
          go_wp2
          go_roundw
          case rel => exact ⟨k + 1, by omega, by go_num, sub_trans hbr hbq, HK2⟩
          case measure => simp [intOf]; omega
    · have HE2 : Hid (se = 0) := Lib.hid (by rw [HE.out, ← List.take_of_length_le (show ps.length ≤ k by have := HN.out; omega)]; exact HK.out)
      go_wp2
      go_ret
      exact ⟨ret_i HE2.out.symm, sub_trans hb1 hbr⟩
end Go.Proofs.YteljecehppeamaaGreatDoor
/-
  Scripts, their lines and their texts, in plain Lean (chapter 42). Condition: none.
-/
namespace Go.Fw
open Go.RowKit
set_option linter.unusedVariables false
set_option linter.unusedSimpArgs false
structure Sc where
  st : Int
  sa : Int
  lo : Int
  hi : Int
  ps : List (List Cl)
  wk : Int
  pk : List Int
def Sc.zero : Sc := ⟨0, 0, 0, 0, [], 0, []⟩
def storeS : List UInt8 := [115, 116, 111, 114, 101]
def clientS : List UInt8 := [99, 108, 105, 101, 110, 116]
def workersS : List UInt8 := [119, 111, 114, 107, 101, 114, 115]
def picksS : List UInt8 := [112, 105, 99, 107, 115]
def lineN (x : Cl) : List UInt8 := joinS 32 (lineWs x)
theorem lineN_B (x : Cl) : (lineB x).data.toList = lineN x := lineB_list x
def cfgN (st sa lo hi : Int) : List UInt8 := storeS ++ 32 :: textN [st, sa, lo, hi]
def wkN (wk : Int) : List UInt8 := workersS ++ 32 :: Lib.itoa wk
def pkN (pk : List Int) : List UInt8 := picksS ++ 32 :: textN pk
def progLs (p : List Cl) : List (List UInt8) := clientS :: p.map lineN
def pkLs (pk : List Int) : List (List UInt8) := if pk = [] then [] else [pkN pk]
/-- a script's lines -/
def Sc.lines (s : Sc) : List (List UInt8) := cfgN s.st s.sa s.lo s.hi :: (s.ps.flatMap progLs ++ (wkN s.wk :: pkLs s.pk))
/-- lines, each with its end -/
def rawN (ls : List (List UInt8)) : List UInt8 := ls.flatMap fun l => l ++ [10]
def Sc.raw (s : Sc) : ByteArray := ⟨(rawN s.lines).toArray⟩
theorem rawN_app (a b : List (List UInt8)) : rawN (a ++ b) = rawN a ++ rawN b := by simp [rawN]
theorem rawN_one (l : List UInt8) : rawN [l] = l ++ [10] := by simp [rawN]
theorem rawN_cons (l : List UInt8) (r : List (List UInt8)) : rawN (l :: r) = l ++ [10] ++ rawN r := by simp [rawN]
theorem rawN_cut : ∀ ls : List (List UInt8), (∀ l ∈ ls, (10 : UInt8) ∉ l) → cutW 10 (rawN ls) = ls ++ [[]]
  | [], _ => rfl
  | l :: r, h => by
    rw [rawN_cons, List.append_assoc]
    show cutW 10 (l ++ 10 :: rawN r) = _
    rw [cut_app 10 l _ (h l (by simp)), rawN_cut r fun x hx => h x (by simp [hx])]
    rfl
theorem raw_words {ls : List (List UInt8)} (h : ∀ l ∈ ls, (10 : UInt8) ∉ l) : wordsB 10 ⟨(rawN ls).toArray⟩ = ls.map (fun l => (⟨l.toArray⟩ : ByteArray)) ++ [ByteArray.empty] := by
  unfold wordsB
  rw [show (⟨(rawN ls).toArray⟩ : ByteArray).data.toList = rawN ls by simp, rawN_cut ls h, List.map_append]
  rfl
theorem joinS_no {b c : UInt8} (hbc : b ≠ c) : ∀ {l : List (List UInt8)}, (∀ w ∈ l, b ∉ w) → b ∉ joinS c l
  | [], _ => by simp [joinS]
  | w :: r, h => by
    simp only [joinS, List.mem_append, List.mem_flatMap, List.mem_cons, not_or]
    refine ⟨h w (by simp), ?_⟩
    rintro ⟨x, hx, h1 | h1⟩
    · exact hbc h1
    · exact h x (by simp [hx]) h1
theorem vbS_no10 (k : Nat) : (10 : UInt8) ∉ vbS k := by
  match k with
  | 0 => decide
  | 1 => decide
  | 2 => decide
  | 3 => decide
  | 4 => decide
  | 5 => decide
  | 6 => decide
  | 7 => decide
  | 8 => decide
  | _ + 9 => simp [vbS]
theorem letter_no10 {s : ByteArray} (h : idOk s = true) : (10 : UInt8) ∉ s.data.toList := by
  intro hc
  obtain ⟨k, hk, he⟩ := List.getElem_of_mem hc
  have hk2 : k < s.size := by simpa using hk
  have h2 := (idOk_at h).2.2 k hk2
  have e : s[k]'hk2 = 10 := he
  rw [e] at h2
  exact h2 (by decide)
theorem polWords_no10 (a b c d e f : Int) : ∀ w ∈ polWords a b c d e f, (10 : UInt8) ∉ w := by
  intro w hw
  simp only [polWords, List.mem_cons, List.mem_nil_iff, or_false] at hw
  rcases hw with rfl | rfl | rfl | rfl | rfl | rfl | rfl | rfl | rfl | rfl | rfl | rfl
  all_goals first | (exact itoa_no (by decide)) | decide
theorem lineWs_no10 {x : Cl} (h : namedK x.k = true → (10 : UInt8) ∉ x.id.data.toList) : ∀ w ∈ lineWs x, (10 : UInt8) ∉ w := by
  have hi : ∀ n, (10 : UInt8) ∉ Lib.itoa n := fun n => itoa_no (by decide)
  have hv := vbS_no10
  unfold lineWs
  by_cases h1 : x.k = 1
  · rw [if_pos h1]
    have h2 := h (by rw [h1]; rfl)
    simp only [List.mem_cons, List.mem_nil_iff, or_false]
    rintro w (rfl | rfl | rfl | rfl)
    all_goals first | exact hv _ | exact hi _ | exact h2
  rw [if_neg h1]
  by_cases h1 : x.k = 2
  · rw [if_pos h1]
    simp only [List.mem_cons, List.mem_nil_iff, or_false]
    rintro w (rfl | rfl)
    all_goals first | exact hv _ | exact hi _
  rw [if_neg h1]
  by_cases h1 : x.k = 4
  · rw [if_pos h1]
    simp only [List.mem_cons, List.mem_nil_iff, or_false]
    rintro w (rfl | rfl)
    all_goals first | exact hv _ | exact hi _
  rw [if_neg h1]
  by_cases h1 : x.k = 5
  · rw [if_pos h1]
    have h2 := h (by rw [h1]; rfl)
    simp only [List.mem_cons, List.mem_nil_iff, or_false]
    rintro w (rfl | rfl | rfl | rfl | rfl)
    all_goals first | exact hv _ | exact hi _ | exact h2
  rw [if_neg h1]
  by_cases h1 : x.k = 6
  · rw [if_pos h1]
    have h2 := h (by rw [h1]; rfl)
    intro w hw
    rcases List.mem_cons.1 hw with rfl | hw
    · exact hv _
    rcases List.mem_cons.1 hw with rfl | hw
    · exact h2
    exact polWords_no10 _ _ _ _ _ _ w hw
  rw [if_neg h1]
  by_cases h1 : x.k = 7
  · rw [if_pos h1]
    have h2 := h (by rw [h1]; rfl)
    simp only [List.mem_cons, List.mem_nil_iff, or_false]
    rintro w (rfl | rfl)
    all_goals first | exact hv _ | exact h2
  rw [if_neg h1]
  simp only [List.mem_cons, List.mem_nil_iff, or_false]
  rintro w rfl
  exact hv _
theorem lineN_no10 {x : Cl} (he : textE x = 0) : (10 : UInt8) ∉ lineN x := joinS_no (by decide) (lineWs_no10 fun h => letter_no10 (named_ok he h))
theorem textN_no10 (l : List Int) : (10 : UInt8) ∉ textN l := joinS_no (by decide) fun w hw => by
  obtain ⟨x, _, rfl⟩ := List.mem_map.1 hw
  exact itoa_no (by decide)
theorem firstE_all : ∀ {l : List Cl}, firstE l = 0 → ∀ x ∈ l, textE x = 0
  | [], _, x, hx => by cases hx
  | y :: l, h, x, hx => by
    unfold firstE at h
    split at h
    · contradiction
    · rename_i h1
      rcases List.mem_cons.1 hx with rfl | hx
      · exact Classical.byContradiction h1
      · exact firstE_all h x hx
theorem scE_zero {st sa lo hi : Int} {ps : List (List Cl)} {wk : Int} (h : scE st sa lo hi ps wk = 0) : callsE st sa lo hi ps wk = 0 ∧ ∀ p ∈ ps, ∀ x ∈ p, textE x = 0 := by
  unfold scE at h
  split at h
  · contradiction
  · rename_i h1
    exact ⟨Classical.byContradiction h1, fun p hp x hx => firstE_all h x (List.mem_flatten.2 ⟨p, hp, hx⟩)⟩
theorem lines_no10 {s : Sc} (h : ∀ p ∈ s.ps, ∀ x ∈ p, textE x = 0) : ∀ l ∈ s.lines, (10 : UInt8) ∉ l := by
  have key : ∀ (a b : List UInt8), (10 : UInt8) ∉ a → (10 : UInt8) ∉ b → (10 : UInt8) ∉ a ++ 32 :: b := fun a b ha hb => by
    rw [List.mem_append, List.mem_cons, not_or, not_or]
    exact ⟨ha, by decide, hb⟩
  intro l hl
  unfold Sc.lines at hl
  rcases List.mem_cons.1 hl with rfl | hl
  · exact key _ _ (by decide) (textN_no10 _)
  rcases List.mem_append.1 hl with hl | hl
  · obtain ⟨p, hp, hl⟩ := List.mem_flatMap.1 hl
    unfold progLs at hl
    rcases List.mem_cons.1 hl with rfl | hl
    · decide
    · obtain ⟨x, hx, rfl⟩ := List.mem_map.1 hl
      exact lineN_no10 (h p hp x hx)
  rcases List.mem_cons.1 hl with rfl | hl
  · exact key _ _ (by decide) (itoa_no (by decide))
  · unfold pkLs at hl
    split at hl
    · cases hl
    · rw [List.mem_singleton.1 hl]
      exact key _ _ (by decide) (textN_no10 _)
/-- a script with its calls bare -/
def Sc.bare (s : Sc) : Sc := { s with ps := s.ps.map fun p => p.map bareC }
/-- what a line does to what was read: the script so far, and what was read last -/
inductive Step : Sc → Nat → ByteArray → Sc → Nat → Prop
  | store (s : Sc) {a b c d : Int} (h : In64 a ∧ In64 b ∧ In64 c ∧ In64 d) : Step s 0 ⟨(cfgN a b c d).toArray⟩ { s with st := a, sa := b, lo := c, hi := d } 1
  | client (s : Sc) : Step s 1 ⟨clientS.toArray⟩ { s with ps := s.ps ++ [[]] } 1
  | call (s : Sc) {x : Cl} (hx : x.ok) (he : textE x = 0) (hz : x.id.size ≤ 40) {ps : List (List Cl)} {p : List Cl} (hs : s.ps = ps ++ [p]) : Step s 1 ⟨(lineN x).toArray⟩ { s with ps := ps ++ [p ++ [bareC x]] } 1
  | workers (s : Sc) {n : Int} (h : In64 n) : Step s 1 ⟨(wkN n).toArray⟩ { s with wk := n } 2
  | picks (s : Sc) {l : List Int} (h0 : l ≠ []) (h : ∀ x ∈ l, In64 x) : Step s 2 ⟨(pkN l).toArray⟩ { s with pk := l } 3
inductive Run : Sc → Nat → List ByteArray → Sc → Nat → Prop
  | done (s : Sc) (d : Nat) : Run s d [] s d
  | line {s s1 s2 : Sc} {d d1 d2 : Nat} {l : ByteArray} {r : List ByteArray} (h : Step s d l s1 d1) (k : Run s1 d1 r s2 d2) : Run s d (l :: r) s2 d2
theorem Run.app {s s1 s2 : Sc} {d d1 d2 : Nat} {a b : List ByteArray} (h : Run s d a s1 d1) (k : Run s1 d1 b s2 d2) : Run s d (a ++ b) s2 d2 := by
  induction h with
  | done => exact k
  | line h _ ih => exact .line h (ih k)
abbrev asB (l : List UInt8) : ByteArray := ⟨l.toArray⟩
theorem run_calls (s : Sc) (ps : List (List Cl)) : ∀ (l p : List Cl), (∀ x ∈ l, x.ok ∧ textE x = 0 ∧ x.id.size ≤ 40) → s.ps = ps ++ [p] → Run s 1 ((l.map lineN).map asB) { s with ps := ps ++ [p ++ l.map bareC] } 1
  | [], p, _, hs => by
    have e : ({ s with ps := ps ++ [p ++ ([] : List Cl).map bareC] } : Sc) = s := by
      cases s
      simp only at hs
      subst hs
      simp
    rw [e]
    exact .done _ _
  | x :: l, p, h, hs => by
    have hx := h x (by simp)
    refine .line (.call s hx.1 hx.2.1 hx.2.2 hs) ?_
    have h2 := run_calls { s with ps := ps ++ [p ++ [bareC x]] } ps l (p ++ [bareC x]) (fun y hy => h y (by simp [hy])) rfl
    simpa [List.append_assoc] using h2
theorem run_progs : ∀ (l : List (List Cl)) (s : Sc), (∀ p ∈ l, ∀ x ∈ p, x.ok ∧ textE x = 0 ∧ x.id.size ≤ 40) → Run s 1 ((l.flatMap progLs).map asB) { s with ps := s.ps ++ l.map fun p => p.map bareC } 1
  | [], s, _ => by
    have e : ({ s with ps := s.ps ++ ([] : List (List Cl)).map fun p => p.map bareC } : Sc) = s := by
      cases s
      simp
    rw [e]
    exact .done _ _
  | p :: l, s, h => by
    rw [List.flatMap_cons, List.map_append]
    have h1 := run_calls { s with ps := s.ps ++ [[]] } s.ps p [] (h p (by simp)) rfl
    have h2 := run_progs l { s with ps := s.ps ++ [p.map bareC] } fun q hq => h q (by simp [hq])
    refine Run.app (s1 := { s with ps := s.ps ++ [p.map bareC] }) (d1 := 1) (.line (.client s) ?_) ?_
    · simpa using h1
    · simpa [List.append_assoc] using h2
structure Sc.ok (s : Sc) : Prop where
  cfg : In64 s.st ∧ In64 s.sa ∧ In64 s.lo ∧ In64 s.hi
  ps : ∀ p ∈ s.ps, ∀ x ∈ p, x.ok ∧ x.id.size ≤ 40
  wk : In64 s.wk
  pk : ∀ x ∈ s.pk, In64 x
theorem run_script {s : Sc} (h : s.ok) (he : ∀ p ∈ s.ps, ∀ x ∈ p, textE x = 0) : Run Sc.zero 0 (s.lines.map asB) s.bare (if s.pk = [] then 2 else 3) := by
  unfold Sc.lines
  rw [List.map_cons, List.map_append, List.map_cons]
  refine .line (.store Sc.zero h.cfg) ?_
  refine Run.app (run_progs s.ps _ fun p hp x hx => ⟨(h.ps p hp x hx).1, he p hp x hx, (h.ps p hp x hx).2⟩) ?_
  refine .line (.workers _ h.wk) ?_
  unfold pkLs
  split
  · rename_i h0
    have e : s.bare = ⟨s.st, s.sa, s.lo, s.hi, [] ++ s.ps.map (fun p => p.map bareC), s.wk, []⟩ := by unfold Sc.bare; rw [h0]; rfl
    rw [e]
    exact .done _ _
  · rename_i h0
    refine .line (.picks _ h0 h.pk) ?_
    exact .done _ _
end Go.Fw
/-
  strconv's Itoa and Atoi, as the walks want them. Condition: the table and the errors lie in memory.
-/
namespace Go.Proofs
open Go.Shelf
def Tryz.litoa_ren : Go.Shelf.Ren := ⟨fun | 171 => 22 | 243 => 42 | 246 => 59 | 283 => 70 | 284 => 71 | 285 => 72 | 286 => 73 | 129 => 87 | 317 => 86 | 318 => 88 | 319 => 89 | 320 => 90 | 337 => 102 | 338 => 103 | n => n, fun | 3 => 3 | 9 => 9 | 2 => 2 | 4 => 4 | 171 => 110 | 0 => 0 | 53 => 93 | 37 => 52 | 5 => 5 | 173 => 113 | 212 => 129 | 51 => 130 | 20 => 20 | 213 => 131 | 46 => 132 | 232 => 150 | 233 => 151 | n => n, fun | 17 => 1 | 18 => 4 | 19 => 5 | n => n⟩
theorem Tryz.litoa : Go.Proofs.LaysM.n171 Tryz.prog Tryz.litoa_ren := {
  mixed := by kernel_rfl
  f129 := Tryz.func87.trans (congrArg some (by kernel_rfl))
  f171 := Tryz.func22.trans (congrArg some (by kernel_rfl))
  f243 := Tryz.func42.trans (congrArg some (by kernel_rfl))
  f246 := Tryz.func59.trans (congrArg some (by kernel_rfl))
  f283 := Tryz.func70.trans (congrArg some (by kernel_rfl))
  f284 := Tryz.func71.trans (congrArg some (by kernel_rfl))
  f285 := Tryz.func72.trans (congrArg some (by kernel_rfl))
  f286 := Tryz.func73.trans (congrArg some (by kernel_rfl))
  f317 := Tryz.func86.trans (congrArg some (by kernel_rfl))
  f318 := Tryz.func88.trans (congrArg some (by kernel_rfl))
  f319 := Tryz.func89.trans (congrArg some (by kernel_rfl))
  f320 := Tryz.func90.trans (congrArg some (by kernel_rfl))
  f337 := Tryz.func102.trans (congrArg some (by kernel_rfl))
  f338 := Tryz.func103.trans (congrArg some (by kernel_rfl))
  t0 := Tryz.underlying0
  a0 := Tryz.isAgg0
  z0 := Tryz.sizeOf0
  v0 := Tryz.zeroValue0
  t2 := Tryz.underlying2
  a2 := Tryz.isAgg2
  z2 := Tryz.sizeOf2
  v2 := Tryz.zeroValue2
  t3 := Tryz.underlying3
  a3 := Tryz.isAgg3
  z3 := Tryz.sizeOf3
  v3 := Tryz.zeroValue3
  t4 := Tryz.underlying4
  a4 := Tryz.isAgg4
  z4 := Tryz.sizeOf4
  v4 := Tryz.zeroValue4
  t5 := Tryz.underlying5
  a5 := Tryz.isAgg5
  z5 := Tryz.sizeOf5
  v5 := Tryz.zeroValue5
  t9 := Tryz.underlying9
  a9 := Tryz.isAgg9
  z9 := Tryz.sizeOf9
  v9 := Tryz.zeroValue9
  t20 := Tryz.underlying20
  a20 := Tryz.isAgg20
  z20 := Tryz.sizeOf20
  v20 := Tryz.zeroValue20
  t37 := Tryz.underlying52
  a37 := Tryz.isAgg52
  z37 := Tryz.sizeOf52
  v37 := Tryz.zeroValue52
  t46 := Tryz.underlying132
  a46 := Tryz.isAgg132
  z46 := Tryz.sizeOf132
  v46 := Tryz.zeroValue132
  t51 := Tryz.underlying130
  a51 := Tryz.isAgg130
  z51 := Tryz.sizeOf130
  v51 := Tryz.zeroValue130
  t53 := Tryz.underlying93
  a53 := Tryz.isAgg93
  z53 := Tryz.sizeOf93
  v53 := Tryz.zeroValue93
  t171 := Tryz.underlying110
  a171 := Tryz.isAgg110
  z171 := Tryz.sizeOf110
  v171 := Tryz.zeroValue110
  t173 := Tryz.underlying113
  a173 := Tryz.isAgg113
  z173 := Tryz.sizeOf113
  v173 := Tryz.zeroValue113
  t212 := Tryz.underlying129
  a212 := Tryz.isAgg129
  z212 := Tryz.sizeOf129
  v212 := Tryz.zeroValue129
  t213 := Tryz.underlying131
  a213 := Tryz.isAgg131
  z213 := Tryz.sizeOf131
  t232 := Tryz.underlying150
  a232 := Tryz.isAgg150
  z232 := Tryz.sizeOf150
  v232 := Tryz.zeroValue150
  t233 := Tryz.underlying151
  a233 := Tryz.isAgg151
  z233 := Tryz.sizeOf151
  v233 := Tryz.zeroValue151
  g17 := by kernel_rfl
  g18 := by kernel_rfl
  g19 := by kernel_rfl
  i0 := by kernel_rfl
  i2 := by kernel_rfl
  i3 := by kernel_rfl
  i4 := by kernel_rfl
  i5 := by kernel_rfl
  i9 := by kernel_rfl
  i20 := by kernel_rfl
  i37 := by kernel_rfl
  i46 := by kernel_rfl
  i51 := by kernel_rfl
  i53 := by kernel_rfl
  i171 := by kernel_rfl
  i173 := by kernel_rfl
  i212 := by kernel_rfl
  i232 := by kernel_rfl
  i233 := by kernel_rfl
  m17 := by kernel_rfl
  m18 := by kernel_rfl
  m19 := by kernel_rfl }
def Tryz.latoi_ren : Go.Shelf.Ren := ⟨fun | 172 => 80 | 244 => 98 | 245 => 99 | 247 => 107 | 279 => 108 | 280 => 109 | 281 => 110 | 282 => 111 | 287 => 112 | 316 => 113 | 171 => 22 | 205 => 114 | 321 => 115 | 322 => 116 | 243 => 42 | 246 => 59 | 283 => 70 | 284 => 71 | 285 => 72 | 286 => 73 | 129 => 87 | 317 => 86 | 318 => 88 | 319 => 89 | 320 => 90 | 337 => 102 | 338 => 103 | n => n, fun | 9 => 9 | 3 => 3 | 75 => 57 | 76 => 58 | 4 => 4 | 5 => 5 | 167 => 146 | 37 => 52 | 0 => 0 | 85 => 137 | 2 => 2 | 168 => 147 | 53 => 93 | 175 => 152 | 46 => 132 | 210 => 156 | 127 => 82 | 145 => 161 | 143 => 159 | 21 => 21 | 171 => 110 | 173 => 113 | 212 => 129 | 51 => 130 | 20 => 20 | 213 => 131 | 232 => 150 | 233 => 151 | 80 => 45 | n => n, fun | 15 => 6 | 16 => 7 | 17 => 1 | 18 => 4 | 19 => 5 | n => n⟩
theorem Tryz.latoi : Go.Proofs.LaysC.n172 Tryz.prog Tryz.latoi_ren := {
  mixed := by kernel_rfl
  f129 := Tryz.func87.trans (congrArg some (by kernel_rfl))
  f171 := Tryz.func22.trans (congrArg some (by kernel_rfl))
  f172 := Tryz.func80.trans (congrArg some (by kernel_rfl))
  f205 := Tryz.func114.trans (congrArg some (by kernel_rfl))
  f243 := Tryz.func42.trans (congrArg some (by kernel_rfl))
  f244 := Tryz.func98.trans (congrArg some (by kernel_rfl))
  f245 := Tryz.func99.trans (congrArg some (by kernel_rfl))
  f246 := Tryz.func59.trans (congrArg some (by kernel_rfl))
  f247 := Tryz.func107.trans (congrArg some (by kernel_rfl))
  f279 := Tryz.func108.trans (congrArg some (by kernel_rfl))
  f280 := Tryz.func109.trans (congrArg some (by kernel_rfl))
  f281 := Tryz.func110.trans (congrArg some (by kernel_rfl))
  f282 := Tryz.func111.trans (congrArg some (by kernel_rfl))
  f283 := Tryz.func70.trans (congrArg some (by kernel_rfl))
  f284 := Tryz.func71.trans (congrArg some (by kernel_rfl))
  f285 := Tryz.func72.trans (congrArg some (by kernel_rfl))
  f286 := Tryz.func73.trans (congrArg some (by kernel_rfl))
  f287 := Tryz.func112.trans (congrArg some (by kernel_rfl))
  f316 := Tryz.func113.trans (congrArg some (by kernel_rfl))
  f317 := Tryz.func86.trans (congrArg some (by kernel_rfl))
  f318 := Tryz.func88.trans (congrArg some (by kernel_rfl))
  f319 := Tryz.func89.trans (congrArg some (by kernel_rfl))
  f320 := Tryz.func90.trans (congrArg some (by kernel_rfl))
  f321 := Tryz.func115.trans (congrArg some (by kernel_rfl))
  f322 := Tryz.func116.trans (congrArg some (by kernel_rfl))
  f337 := Tryz.func102.trans (congrArg some (by kernel_rfl))
  f338 := Tryz.func103.trans (congrArg some (by kernel_rfl))
  t0 := Tryz.underlying0
  a0 := Tryz.isAgg0
  z0 := Tryz.sizeOf0
  v0 := Tryz.zeroValue0
  t2 := Tryz.underlying2
  a2 := Tryz.isAgg2
  z2 := Tryz.sizeOf2
  v2 := Tryz.zeroValue2
  t3 := Tryz.underlying3
  a3 := Tryz.isAgg3
  z3 := Tryz.sizeOf3
  v3 := Tryz.zeroValue3
  t4 := Tryz.underlying4
  a4 := Tryz.isAgg4
  z4 := Tryz.sizeOf4
  v4 := Tryz.zeroValue4
  t5 := Tryz.underlying5
  a5 := Tryz.isAgg5
  z5 := Tryz.sizeOf5
  v5 := Tryz.zeroValue5
  t9 := Tryz.underlying9
  a9 := Tryz.isAgg9
  z9 := Tryz.sizeOf9
  v9 := Tryz.zeroValue9
  t20 := Tryz.underlying20
  a20 := Tryz.isAgg20
  z20 := Tryz.sizeOf20
  v20 := Tryz.zeroValue20
  t21 := Tryz.underlying21
  a21 := Tryz.isAgg21
  z21 := Tryz.sizeOf21
  v21 := Tryz.zeroValue21
  t37 := Tryz.underlying52
  a37 := Tryz.isAgg52
  z37 := Tryz.sizeOf52
  v37 := Tryz.zeroValue52
  t46 := Tryz.underlying132
  a46 := Tryz.isAgg132
  z46 := Tryz.sizeOf132
  v46 := Tryz.zeroValue132
  t51 := Tryz.underlying130
  a51 := Tryz.isAgg130
  z51 := Tryz.sizeOf130
  v51 := Tryz.zeroValue130
  t53 := Tryz.underlying93
  a53 := Tryz.isAgg93
  z53 := Tryz.sizeOf93
  v53 := Tryz.zeroValue93
  t75 := Tryz.underlying57
  a75 := Tryz.isAgg57
  z75 := Tryz.sizeOf57
  v75 := Tryz.zeroValue57
  t76 := Tryz.underlying58
  a76 := Tryz.isAgg58
  z76 := Tryz.sizeOf58
  v76 := Tryz.zeroValue58
  t85 := Tryz.underlying137
  a85 := Tryz.isAgg137
  z85 := Tryz.sizeOf137
  v85 := Tryz.zeroValue137
  t127 := Tryz.underlying82
  a127 := Tryz.isAgg82
  z127 := Tryz.sizeOf82
  v127 := Tryz.zeroValue82
  t143 := Tryz.underlying159
  a143 := Tryz.isAgg159
  z143 := Tryz.sizeOf159
  v143 := Tryz.zeroValue159
  t145 := Tryz.underlying161
  a145 := Tryz.isAgg161
  z145 := Tryz.sizeOf161
  v145 := Tryz.zeroValue161
  t167 := Tryz.underlying146
  a167 := Tryz.isAgg146
  z167 := Tryz.sizeOf146
  v167 := Tryz.zeroValue146
  t168 := Tryz.underlying147
  a168 := Tryz.isAgg147
  z168 := Tryz.sizeOf147
  v168 := Tryz.zeroValue147
  t171 := Tryz.underlying110
  a171 := Tryz.isAgg110
  z171 := Tryz.sizeOf110
  v171 := Tryz.zeroValue110
  t173 := Tryz.underlying113
  a173 := Tryz.isAgg113
  z173 := Tryz.sizeOf113
  v173 := Tryz.zeroValue113
  t175 := Tryz.underlying152
  a175 := Tryz.isAgg152
  z175 := Tryz.sizeOf152
  v175 := Tryz.zeroValue152
  t210 := Tryz.underlying156
  a210 := Tryz.isAgg156
  z210 := Tryz.sizeOf156
  v210 := Tryz.zeroValue156
  t212 := Tryz.underlying129
  a212 := Tryz.isAgg129
  z212 := Tryz.sizeOf129
  v212 := Tryz.zeroValue129
  t213 := Tryz.underlying131
  a213 := Tryz.isAgg131
  z213 := Tryz.sizeOf131
  t232 := Tryz.underlying150
  a232 := Tryz.isAgg150
  z232 := Tryz.sizeOf150
  v232 := Tryz.zeroValue150
  t233 := Tryz.underlying151
  a233 := Tryz.isAgg151
  z233 := Tryz.sizeOf151
  v233 := Tryz.zeroValue151
  g15 := by kernel_rfl
  g16 := by kernel_rfl
  g17 := by kernel_rfl
  g18 := by kernel_rfl
  g19 := by kernel_rfl
  t80 := Tryz.underlying45
  a80 := Tryz.isAgg45
  z80 := Tryz.sizeOf45
  v80 := Tryz.zeroValue45
  i0 := by kernel_rfl
  i2 := by kernel_rfl
  i3 := by kernel_rfl
  i4 := by kernel_rfl
  i5 := by kernel_rfl
  i9 := by kernel_rfl
  i20 := by kernel_rfl
  i21 := by kernel_rfl
  i37 := by kernel_rfl
  i46 := by kernel_rfl
  i51 := by kernel_rfl
  i53 := by kernel_rfl
  i75 := by kernel_rfl
  i76 := by kernel_rfl
  i80 := by kernel_rfl
  i85 := by kernel_rfl
  i127 := by kernel_rfl
  i143 := by kernel_rfl
  i145 := by kernel_rfl
  i167 := by kernel_rfl
  i168 := by kernel_rfl
  i171 := by kernel_rfl
  i173 := by kernel_rfl
  i175 := by kernel_rfl
  i210 := by kernel_rfl
  i212 := by kernel_rfl
  i232 := by kernel_rfl
  i233 := by kernel_rfl
  m15 := by kernel_rfl
  m16 := by kernel_rfl
  m17 := by kernel_rfl
  m18 := by kernel_rfl
  m19 := by kernel_rfl
  c0 := by kernel_rfl
  c2 := by kernel_rfl
  c3 := by kernel_rfl
  c4 := by kernel_rfl
  c5 := by kernel_rfl
  c9 := by kernel_rfl
  c20 := by kernel_rfl
  c21 := by kernel_rfl
  c37 := by kernel_rfl
  c46 := by kernel_rfl
  c51 := by kernel_rfl
  c53 := by kernel_rfl
  c75 := by kernel_rfl
  c76 := by kernel_rfl
  c80 := by kernel_rfl
  c85 := by kernel_rfl
  c127 := by kernel_rfl
  c143 := by kernel_rfl
  c145 := by kernel_rfl
  c167 := by kernel_rfl
  c168 := by kernel_rfl
  c171 := by kernel_rfl
  c173 := by kernel_rfl
  c175 := by kernel_rfl
  c210 := by kernel_rfl
  c212 := by kernel_rfl
  c213 := by kernel_rfl
  c232 := by kernel_rfl
  c233 := by kernel_rfl }
end Go.Proofs
namespace Go.Proofs.YteljecehppeamaaGreatDoor
open Go.RowKit Go.Shelf Go.Fw
set_option linter.unusedVariables false
theorem itoa_any (n : Int) (hn : In64 n) (w : World) (hT : Tabs Tryz.prog w) :
    Calls Tryz.prog 22 #[.int .i64 n] w fun e w' => e = .returned (.string (decB n)) ∧ Below w.heap.size w w' := by
  have h := Any.strconv_Itoa Tryz.litoa n hn.1 hn.2 w hT.pow
  change Calls Tryz.prog 22 _ _ _ at h
  exact h.mono fun e w' ⟨h1, k, os, h2⟩ => ⟨h1, below_grow h2⟩
theorem atoi_any (s : ByteArray) (hs : s.size ≤ 1000000) (w : World) (hT : Tabs Tryz.prog w) :
    Calls Tryz.prog 80 #[.string s] w fun e w' => ∃ n ok, (∃ ev, e = .returned (.tuple #[.int .i64 n, ev]) ∧ ((ok = true ∧ ev = .nilIface) ∨ (ok = false ∧ ∃ t p, ev = .iface t p))) ∧ readsAs s n ok ∧ Below w.heap.size w w' := by
  obtain ⟨_, ⟨t2, p2, h2⟩, ⟨t3, p3, h3⟩⟩ := hT
  cases hk : Lib.atoiAll s.data.toList
  · rename_i v
    have h := Any.strconv_Atoi_ok Tryz.latoi s (by omega) v hk w
    change Calls Tryz.prog 80 _ _ _ at h
    exact h.mono fun e w' ⟨h1, h2⟩ => ⟨v, true, ⟨_, h1, .inl ⟨rfl, rfl⟩⟩, ⟨Lib.atoiAll_bounds hk, fun _ => hk, (fun h => by cases h)⟩, below_bytes h2⟩
  · have h := Any.strconv_Atoi_syntax_var Tryz.latoi s (by omega) hk t2 p2 w h2
    change Calls Tryz.prog 80 _ _ _ at h
    exact h.mono fun e w' ⟨N, h1, _, _, h4⟩ => ⟨0, false, ⟨_, h1, .inr ⟨rfl, _, _, rfl⟩⟩, ⟨by unfold In64; omega, (fun h => by cases h), (fun _ v e => by rw [hk] at e; cases e)⟩, h4⟩
  · have h := Any.strconv_Atoi_range_var Tryz.latoi s (by omega) hk t3 p3 w h3
    change Calls Tryz.prog 80 _ _ _ at h
    exact h.mono fun e w' ⟨N, h1, _, _, h4⟩ => ⟨_, false, ⟨_, h1, .inr ⟨rfl, _, _, rfl⟩⟩, ⟨Lib.atoiSat_bounds _, (fun h => by cases h), (fun _ v e => by rw [hk] at e; cases e)⟩, h4⟩
end Go.Proofs.YteljecehppeamaaGreatDoor
