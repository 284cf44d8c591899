/-
  The reference's numbers walked (chapter 41). Condition: few words.
-/
import Derived.Test.YteljecehppeamaaDoorLinNum
namespace Go.Fw
open Go.RowKit
set_option linter.unusedVariables false
theorem strs_getN {l : List ByteArray} {k : Nat} {u : Value} (h : (strs l)[k]? = some u) (hk : k < l.length) : u = .string l[k] := by
  simp [strs, hk] at h
  exact h.symm
theorem strs_lenN (l : List ByteArray) : (strs l).length = l.length := by simp [strs]
end Go.Fw
namespace Go.Proofs.YteljecehppeamaaDoor
open Go.RowKit Go.Fw Go.Shelf
set_option maxHeartbeats 1000000
set_option maxRecDepth 4000
set_option linter.unusedVariables false
set_option linter.unusedSimpArgs false
theorem elemI64 : ElemS Tryd.prog 95 2 (.int .i64 0) 1 8 := ⟨Tryd.underlying95, by kernel_rfl, rfl⟩
def NumsPost (w : World) (l : List ByteArray) (y : Ending) (w' : World) : Prop := ∃ v ok, y = .returned (.tuple #[v, .bool ok]) ∧ (ok = true → GoodW l ∧ MineS 1 w w' 2 v l.length (i64s (numsW l))) ∧ (ok = false → ¬ GoodW l) ∧ Below w.heap.size w w'
theorem rnumbers_any (l : List ByteArray) (n : Nat) (A : Option Addr) (c : Nat) (w : World) (hr : Reads w w.heap.size 1 A n (strs l)) (hl : n ≤ 1000) (hsz : ∀ x ∈ l, x.size ≤ 100000) :
    Calls Tryd.prog 57 #[.slice A n c] w fun y w' => NumsPost w l y w' := by
  have HN : Hid (n = l.length) := Lib.hid (by have := hr.len; rwa [strs_lenN] at this)
  have HR := Lib.hid hr
  have HSZ := Lib.hid hsz
  clear hr hsz
  go_enter Tryd.func57, Tryd.ntmps57
  go_wp2
  go_loopw [4, 5] (fun v i wr => ∃ (k : Nat), k ≤ n ∧ i = .int .i64 k ∧ MineS 1 w wr 2 v k (i64s (numsW (l.take k))) ∧ Hid (GoodW (l.take k))) (fun _ i _ => n - (intOf i).toNat)
  case atStart => exact ⟨0, by omega, rfl, MineS.nil_ 1 w _, Lib.hid (fun x hx => by simp at hx)⟩
  case round =>
    obtain ⟨k, hk, rfl, hm, HG⟩ := hrel
    by_cases hlt : k < n
    · have hkl : k < l.length := by have := HN.out; omega
      obtain ⟨ad, u, rfl, _, hux, hc⟩ := (HR.out.up hm.below).at_ hlt
      obtain rfl := strs_getN hux hkl
      have hxs := HSZ.out _ (List.getElem_mem hkl)
      have HT : Hid (l.take (k + 1) = l.take k ++ [l[k]]) := Lib.hid (List.take_succ_eq_append_getElem hkl)
      have HBAD : Hid (readW l[k] = none → ¬ GoodW l) := Lib.hid (fun h hg => hg _ (List.getElem_mem hkl) h)
      have HX := Lib.hid (fun W => rnumber_any l[k] W hxs)
      clear hux hxs
      generalize l[k] = x at *
      go_wp2_with fail
      refine (HX.out _).mono ?_
      rintro y w1 ⟨⟨m, rfl, hm1, hmv⟩, rfl⟩
      have HMV := Lib.hid (And.intro hm1 hmv)
      clear hm1 hmv
      cases hq : readW x with
      | none =>
        have HQ := Lib.hid (HBAD.out hq)
        have HB := Lib.hid hm.below
        clear hq hm
        simp only [Option.isSome_none]
        go_wp2
        go_ret2
        exact ⟨_, false, rfl, (fun h => by cases h), fun _ => HQ.out, HB.out⟩
      | some q =>
        have e : m = q := HMV.out.2 q hq
        subst e
        have HE : Hid (i64s (numsW (l.take k)) ++ [.int .i64 m] = i64s (numsW (l.take (k + 1)))) := Lib.hid (by rw [HT.out, numsW_snoc hq, i64s_snoc])
        have HG2 : Hid (GoodW (l.take (k + 1))) := Lib.hid (by rw [HT.out]; exact HG.out.snoc hq)
        clear hq
        simp only [Option.isSome_some]
        go_wp2_with (at_builtin; go_must (refine wpList_append_oneG elemI64 (by decide) rfl (.tmp 24) (.tmp 26) rfl rfl hm.own hm.le rfl rfl rfl (by simp [Value.oneCell']) (by omega) (by unfold maxLen; omega) ?_); intro v' w' hm' hg')
        have hm2 := hm.app hg' hm'
        go_roundw
        case rel => exact ⟨k + 1, by omega, by go_num, by rw [← HE.out]; exact hm2, HG2⟩
        case measure => simp [intOf]; omega
    · have hke : k = n := by omega
      have ht : l.take k = l := List.take_of_length_le (by have := HN.out; omega)
      rw [ht] at hm HG
      have HM := Lib.hid hm
      have HN2 : Hid (k = l.length) := Lib.hid (by have := HN.out; omega)
      rw [HN2.out] at HM
      clear ht hke hm
      go_wp2
      go_ret2
      exact ⟨_, true, rfl, fun _ => ⟨HG.out, HM.out⟩, (fun h => by cases h), HM.out.below⟩
end Go.Proofs.YteljecehppeamaaDoor
