/-
  The reference's Words, Number and numbers walked (chapter 41). Condition: few bytes.
-/
import Derived.Test.YteljecehppeamaaDoorLinWith
import Derived.Test.YteljecehppeamaaDoorLinRead
namespace Go.Fw
open Go.RowKit
set_option linter.unusedVariables false
set_option linter.unusedSimpArgs false
/-- words so far: those ahead of place i, when the last one began at f -/
theorem cutW_at (c : UInt8) (l : List UInt8) (f i : Nat) (hf : f ≤ i) (hi : i ≤ l.length) (hno : ∀ j (h : j < l.length), f ≤ j → j < i → l[j] ≠ c) : 
    (i = l.length → cutW c (l.drop f) = [(l.take i).drop f]) ∧ (∀ h : i < l.length, l[i] = c → cutW c (l.drop f) = (l.take i).drop f :: cutW c (l.drop (i + 1))) := by
  have hn : c ∉ (l.take i).drop f := by
    intro hc
    obtain ⟨j, hj, he⟩ := List.getElem_of_mem hc
    have hjl : j < i - f := by simpa [Nat.min_eq_left hi] using hj
    rw [List.getElem_drop, List.getElem_take] at he
    exact hno (f + j) (by omega) (by omega) (by omega) he
  constructor
  · intro e
    rw [e, List.take_length] at hn ⊢
    exact cut_word c _ hn
  · intro h hc
    have e : l.drop f = (l.take i).drop f ++ c :: l.drop (i + 1) := by
      have h1 : l = l.take i ++ (c :: l.drop (i + 1)) := by
        rw [← hc, ← List.drop_eq_getElem_cons h, List.take_append_drop]
      conv => lhs; rw [h1]
      rw [List.drop_append_of_le_length (by simp; omega)]
    rw [e, cut_app c _ _ hn]
end Go.Fw
namespace Go.Proofs.YteljecehppeamaaDoor
open Go.RowKit Go.Fw Go.Shelf
set_option maxHeartbeats 1000000
set_option maxRecDepth 4000
set_option linter.unusedVariables false
set_option linter.unusedSimpArgs false
theorem words_any (s : ByteArray) (w : World) (hs : s.size ≤ 100000) :
    Calls Tryd.prog 40 #[.string s] w fun y w' => ∃ v, y = .returned v ∧ MineS 1 w w' 9 v (wordsB 32 s).length (strs (wordsB 32 s)) := by
  have hsl : s.data.toList.length = s.size := rfl
  go_enter Tryd.func40, Tryd.ntmps40
  go_wp2
  go_loopw [3, 4, 5] (fun v f i wr => ∃ (fn k : Nat) (pre : List ByteArray), fn ≤ k ∧ k ≤ s.size + 1 ∧ fn ≤ s.size + 1 ∧ pre.length ≤ k ∧ f = .int .i64 fn ∧ i = .int .i64 k ∧ MineS 1 w wr 9 v pre.length (strs pre) ∧
      Hid ((fn ≤ s.size → wordsB 32 s = pre ++ (cutW 32 (s.data.toList.drop fn)).map fun l => (⟨l.toArray⟩ : ByteArray)) ∧ (s.size < fn → wordsB 32 s = pre) ∧ (k = s.size + 1 → s.size < fn) ∧ (s.size < fn → k = s.size + 1)) ∧ Hid (∀ j (h : j < s.data.toList.length), fn ≤ j → j < k → s.data.toList[j] ≠ 32))
    (fun _ _ i _ => s.size + 1 - (intOf i).toNat)
  case atStart => exact ⟨0, 0, [], by omega, by omega, by omega, by simp, rfl, rfl, MineS.nil_ 1 w _, Lib.hid ⟨fun _ => by simp [wordsB], fun h => by omega, fun h => by omega, fun h => by omega⟩, Lib.hid (fun j h h1 h2 => by omega)⟩
  case round =>
    obtain ⟨fn, k, pre, hfk, hk, hfs, hpl, rfl, rfl, hm, HP, HNO⟩ := hrel
    by_cases hlt : k ≤ s.size
    · have hfs2 : fn ≤ s.size := by omega
      have hat := cutW_at 32 s.data.toList fn k hfk (by omega) HNO.out
      have HAT := Lib.hid hat
      clear hat
      have hx : s.extract fn k = (⟨((s.data.toList.take k).drop fn).toArray⟩ : ByteArray) := bytes_ext (by rw [extract_list])
      have HX := Lib.hid hx
      clear hx
      by_cases hend : k = s.size
      · subst hend
        have HW2 : Hid (wordsB 32 s = pre ++ [s.extract fn s.size]) := Lib.hid (by rw [HX.out, HP.out.1 hfs2, HAT.out.1 rfl]; first | done | rfl)
        have hle3 : (fn : Int) ≤ (s.size : Int) := by omega
        clear hle3
        go_wp2_with (at_builtin; go_must (refine wpList_append_oneG elemS (by decide) rfl (.tmp 22) (.tmp 27) rfl rfl hm.own hm.le (by simp) rfl rfl (by simp [Value.oneCell']) (by omega) (by unfold maxLen; omega) ?_); intro v' w' hm' hg')
        have hm2 := hm.app hg' hm'
        go_roundw
        case rel =>
          refine ⟨s.size + 1, s.size + 1, pre ++ [s.extract fn s.size], by omega, by omega, by omega, by simp; omega, by go_num, by go_num, ?_, Lib.hid ⟨fun h => by omega, fun _ => HW2.out, fun _ => by omega, fun _ => rfl⟩, Lib.hid (fun j h h1 h2 => by omega)⟩
          rw [List.length_append, strs_snoc]
          exact hm2
        case measure => first | (simp [intOf]; done) | (simp [intOf]; omega)
      · have hkl : k < s.size := by omega
        have hkI : ((k : Int) == (s.size : Int)) = false := by rw [beq_eq_false_iff_ne]; omega
        by_cases hsp : s[k] = 32
        · have HW2 : Hid (wordsB 32 s = (pre ++ [s.extract fn k]) ++ (cutW 32 (s.data.toList.drop (k + 1))).map fun l => (⟨l.toArray⟩ : ByteArray)) := Lib.hid (by
            rw [HP.out.1 hfs2, HAT.out.2 (by omega) hsp, List.map_cons, HX.out, List.append_assoc] <;> rfl)
          have hspI : ((s[k].toNat : Int) == 32) = true := by rw [hsp]; rfl
          have hle3 : (fn : Int) ≤ (k : Int) := by omega
          have hle4 : (k : Int) ≤ (s.size : Int) := by omega
          clear hle3 hle4
          go_wp2_with (at_builtin; go_must (refine wpList_append_oneG elemS (by decide) rfl (.tmp 22) (.tmp 27) rfl rfl hm.own hm.le (by simp) rfl rfl (by simp [Value.oneCell']) (by omega) (by unfold maxLen; omega) ?_); intro v' w' hm' hg')
          have hm2 := hm.app hg' hm'
          go_roundw
          case rel =>
            refine ⟨k + 1, k + 1, pre ++ [s.extract fn k], by omega, by omega, by omega, by simp; omega, by go_num, by go_num, ?_, Lib.hid ⟨fun h => HW2.out, fun h => by omega, fun h => by omega, fun h => by omega⟩, Lib.hid (fun j h h1 h2 => by omega)⟩
            rw [List.length_append, strs_snoc]
            exact hm2
          case measure => first | (simp [intOf]; done) | (simp [intOf]; omega)
        · have hspI : ((s[k].toNat : Int) == 32) = false := by
            rw [beq_eq_false_iff_ne]
            intro h
            exact hsp (UInt8.toNat_inj.1 (by have : s[k].toNat = 32 := by omega
                                             rw [this]; rfl))
          have HSP := Lib.hid hsp
          clear hsp
          go_wp2
          go_roundw
          case rel =>
            refine ⟨fn, k + 1, pre, by omega, by omega, by omega, by omega, rfl, by go_num, hm, Lib.hid ⟨HP.out.1, HP.out.2.1, fun h => by omega, fun h => by omega⟩, Lib.hid fun j h h1 h2 => ?_⟩
            by_cases hjk : j = k
            · subst hjk
              exact HSP.out
            · exact HNO.out j h h1 (by omega)
          case measure => first | (simp [intOf]; done) | (simp [intOf]; omega)
    · have hke : k = s.size + 1 := by omega
      have HW := Lib.hid (HP.out.2.1 (HP.out.2.2.1 hke))
      go_wp2
      go_ret
      refine ⟨_, rfl, ?_⟩
      rw [HW.out]
      exact hm
end Go.Proofs.YteljecehppeamaaDoor
