/-
  ident.Check and the reference's Id walked: which texts are ids (chapter 3). Condition: none.
-/
import Derived.Test.YteljecehppeamaaDoorOwn
import Derived.Lib.OthersKept
import Derived.Laws.RangeAny
namespace Go.Fw
open Go.RowKit
set_option linter.unusedVariables false
set_option linter.unusedSimpArgs false
/-- a letter's number; 0: it is none -/
def codeN (c : Int) : Int := if c = 45 then 1 else if c = 46 then 2 else if 48 ≤ c ∧ c ≤ 57 then c - 45 else if c = 95 then 13 else if 97 ≤ c ∧ c ≤ 122 then c - 83 else 0
theorem codeN_in (c : Int) : 0 ≤ codeN c ∧ codeN c ≤ 39 := by unfold codeN; repeat' split <;> omega
theorem codeN_far {c : Int} (h : 122 < c) : codeN c = 0 := by unfold codeN; repeat' split <;> omega
def letterB (b : UInt8) : Bool := codeN (b.toNat : Int) != 0
def idOk (s : ByteArray) : Bool := decide (1 ≤ s.size) && (decide (s.size ≤ 20) && s.data.toList.all letterB)
theorem letterB_iff {b : UInt8} : letterB b = true ↔ codeN (b.toNat : Int) ≠ 0 := by unfold letterB; simp
theorem idOk_of {s : ByteArray} (h1 : 1 ≤ s.size) (h2 : s.size ≤ 20) (h3 : ∀ (k : Nat) (h : k < s.size), codeN (s[k].toNat : Int) ≠ 0) : idOk s = true := by
  unfold idOk
  simp only [Bool.and_eq_true, decide_eq_true_eq, List.all_eq_true]
  refine ⟨h1, h2, fun b hb => ?_⟩
  obtain ⟨k, hk, rfl⟩ := List.getElem_of_mem hb
  exact letterB_iff.2 (h3 k (by simpa using hk))
theorem idOk_at {s : ByteArray} (h : idOk s = true) : 1 ≤ s.size ∧ s.size ≤ 20 ∧ ∀ (k : Nat) (h : k < s.size), codeN (s[k].toNat : Int) ≠ 0 := by
  unfold idOk at h
  simp only [Bool.and_eq_true, decide_eq_true_eq, List.all_eq_true] at h
  refine ⟨h.1, h.2.1, fun k hk => letterB_iff.1 (h.2.2 _ ?_)⟩
  have : s[k] = s.data.toList[k]'(by simpa using hk) := rfl
  rw [this]
  exact List.getElem_mem _
theorem idOk_no {s : ByteArray} {k : Nat} (hk : k < s.size) (h : codeN (s[k].toNat : Int) = 0) : idOk s = false := by
  cases h2 : idOk s
  · rfl
  · exact absurd h ((idOk_at h2).2.2 k hk)
theorem idOk_short {s : ByteArray} (h : s.size < 1) : idOk s = false := by
  cases h2 : idOk s
  · rfl
  · have := (idOk_at h2).1; omega
theorem idOk_long {s : ByteArray} (h : 20 < s.size) : idOk s = false := by
  cases h2 : idOk s
  · rfl
  · have := (idOk_at h2).2.1; omega
theorem decode_far (s : ByteArray) (pos : Nat) (h : pos < s.size) (ha : ¬ (s[pos]'h).toNat < 128) : 128 ≤ (Utf8.decode s pos).1 := (decode_high s pos h (by omega)).1
/-- the reference's letters, in order -/
def letS : List UInt8 := [45, 46, 48, 49, 50, 51, 52, 53, 54, 55, 56, 57, 95, 97, 98, 99, 100, 101, 102, 103, 104, 105, 106, 107, 108, 109, 110, 111, 112, 113, 114, 115, 116, 117, 118, 119, 120, 121, 122]
def letA : ByteArray := ⟨letS.toArray⟩
theorem letA_size : letA.size = 39 := rfl
theorem let_code : ∀ k : Fin 39, codeN ((letA[k.val]'(by have := k.isLt; rw [letA_size]; exact this)).toNat : Int) = (k.val : Int) + 1 := by decide
theorem let_none (b : UInt8) (h : ∀ (k : Nat) (h : k < 39), letA[k]'(by rw [letA_size]; exact h) ≠ b) : codeN (b.toNat : Int) = 0 := by
  have h2 : b ∉ letS := by
    intro hb
    obtain ⟨k, hk, he⟩ := List.getElem_of_mem hb
    exact h k hk he
  have all : ∀ b : Fin 256, UInt8.ofNat b.val ∉ letS → codeN ((UInt8.ofNat b.val).toNat : Int) = 0 := by decide +kernel
  have := all ⟨b.toNat, b.toNat_lt⟩
  simp only [UInt8.ofNat_toNat] at this
  exact this h2
theorem iterPos_of {w : World} {k : Nat} {s : ByteArray} {p : Nat} (h : w.heap[k]? = some (.stringIter s p)) : w.iterPos k = p := by simp [World.iterPos, h]
theorem idOk_noteq {s : ByteArray} {t : Nat} (h : idOk s = true) (hb : (48 : Nat) ≤ t) : True := trivial
/-- what is wrong with an id -/
def idE (s : ByteArray) : Int := if idOk s = true then 0 else 2
theorem idE_no {s : ByteArray} (h : idOk s = false) : idE s = 2 := by unfold idE; rw [h]; rfl
theorem idE_yes {s : ByteArray} (h : idOk s = true) : idE s = 0 := by unfold idE; rw [h]; rfl
end Go.Fw
namespace Go.Proofs.YteljecehppeamaaDoor
open Go.RowKit Go.Fw
set_option maxHeartbeats 1000000
set_option maxRecDepth 4000
set_option linter.unusedVariables false
set_option linter.unusedSimpArgs false
theorem code_any (c : Int) (w : World) (h0 : 0 ≤ c) (h1 : c ≤ 2147483647) :
    Calls Tryd.prog 61 #[.int .i32 c] w fun x w' => x = .returned (.int .u64 (codeN c)) ∧ w = w' := by
  by_cases e1 : c = 45
  · subst e1
    go_enter Tryd.func61, Tryd.ntmps61
    go_wp2
    go_ret
    exact ⟨rfl, rfl⟩
  by_cases e2 : c = 46
  · subst e2
    go_enter Tryd.func61, Tryd.ntmps61
    go_wp2
    go_ret
    exact ⟨rfl, rfl⟩
  by_cases e5 : c = 95
  · subst e5
    go_enter Tryd.func61, Tryd.ntmps61
    go_wp2
    go_ret
    exact ⟨rfl, rfl⟩
  have b1 : (c == 45) = false := by simpa using e1
  have b2 : (c == 46) = false := by simpa using e2
  have b5 : (c == 95) = false := by simpa using e5
  by_cases e3 : 48 ≤ c ∧ c ≤ 57
  · have HF : Hid (codeN c = c - 45) := Lib.hid (by unfold codeN; rw [if_neg e1, if_neg e2, if_pos e3])
    obtain ⟨e31, e32⟩ := e3
    have w1 : IntKind.i32.wrap (c - 48) = c - 48 := IntWalk.i32_in _ (by omega)
    have w2 : IntKind.u64.wrap (c - 48) = c - 48 := IntWalk.u64_in _ (by omega)
    have w3 : IntKind.u64.wrap (3 + (c - 48)) = 3 + (c - 48) := IntWalk.u64_in _ (by omega)
    clear e1 e2 e5
    go_enter Tryd.func61, Tryd.ntmps61
    go_wp2
    go_ret
    exact ⟨ret_i (by rw [HF.out]; omega), rfl⟩
  have hn3 : ¬ 48 ≤ c ∨ (48 ≤ c ∧ ¬ c ≤ 57) := by omega
  by_cases e4 : 97 ≤ c ∧ c ≤ 122
  · have HF : Hid (codeN c = c - 83) := Lib.hid (by unfold codeN; rw [if_neg e1, if_neg e2, if_neg e3, if_neg e5, if_pos e4])
    obtain ⟨e41, e42⟩ := e4
    have w1 : IntKind.i32.wrap (c - 97) = c - 97 := IntWalk.i32_in _ (by omega)
    have w2 : IntKind.u64.wrap (c - 97) = c - 97 := IntWalk.u64_in _ (by omega)
    have w3 : IntKind.u64.wrap (14 + (c - 97)) = 14 + (c - 97) := IntWalk.u64_in _ (by omega)
    have e6 : 48 ≤ c := by omega
    have e7 : ¬ c ≤ 57 := by omega
    clear e1 e2 e5 e3 hn3
    go_enter Tryd.func61, Tryd.ntmps61
    go_wp2
    go_ret
    exact ⟨ret_i (by rw [HF.out]; omega), rfl⟩
  have hn4 : ¬ 97 ≤ c ∨ (97 ≤ c ∧ ¬ c ≤ 122) := by omega
  have HF : Hid (codeN c = 0) := Lib.hid (by unfold codeN; rw [if_neg e1, if_neg e2, if_neg e3, if_neg e5, if_neg e4])
  clear e1 e2 e5 e3 e4
  rcases hn3 with e31 | ⟨e31, e32⟩ <;> rcases hn4 with e41 | ⟨e41, e42⟩
  all_goals
    first
    | omega
    | (go_enter Tryd.func61, Tryd.ntmps61
       go_wp2
       go_ret
       exact ⟨ret_i HF.out.symm, rfl⟩)
theorem idcheck_any (s : ByteArray) (hs : s.size ≤ maxLen) (w : World) :
    Calls Tryd.prog 45 #[.string s] w fun x w' => x = .returned (.int .i64 (idE s)) ∧ Below w.heap.size w w' := by
  unfold maxLen at hs
  by_cases h1 : s.size < 1
  · have HF := Lib.hid (idE_no (idOk_short h1))
    have h1I : (s.size : Int) < 1 := by omega
    go_enter Tryd.func45, Tryd.ntmps45
    go_wp2
    go_ret
    exact ⟨ret_i HF.out.symm, Below.refl _ _⟩
  by_cases h2 : 20 < s.size
  · have HF := Lib.hid (idE_no (idOk_long h2))
    have h1I : ¬ (s.size : Int) < 1 := by omega
    have h2I : (20 : Int) < s.size := by omega
    go_enter Tryd.func45, Tryd.ntmps45
    go_wp2
    go_ret
    exact ⟨ret_i HF.out.symm, Below.refl _ _⟩
  have h1I : ¬ (s.size : Int) < 1 := by omega
  have h2I : ¬ (20 : Int) < s.size := by omega
  go_enter Tryd.func45, Tryd.ntmps45
  go_wp2
  go_loopw [] (fun wr => ∃ (pos : Nat), pos ≤ s.size ∧ wr.heap[w.heap.size]? = some (.stringIter s pos) ∧ Below w.heap.size w wr ∧ Hid (∀ (k : Nat) (h : k < s.size), k < pos → codeN (s[k].toNat : Int) ≠ 0)) (fun wr => s.size - wr.iterPos w.heap.size)
  case atStart => exact ⟨0, by omega, World.iter_heap w s 0, sub_alloc (Below.refl _ w) _, Lib.hid (fun k _ h => by omega)⟩
  case round =>
    obtain ⟨pos, hp, hit, hb, HK⟩ := hrel
    have hpos0 := iterPos_of hit
    have HP := Lib.hid hpos0
    clear hpos0
    by_cases hlt : pos < s.size
    · by_cases ha : (s[pos]'hlt).toNat < 128
      · have hnx : ∀ ty, (Instr.next (.pointer (some ⟨w.heap.size, 0, none⟩)) true ty).run Tryd.prog wr = _ := fun ty => Lib.run_next_ascii_at wr w.heap.size s pos ty hit hlt ha
        have hit2 := Lib.iterAt_heap wr w.heap.size s pos (pos + 1) hit
        have hb2 := Lib.below_iterAt hb (k := w.heap.size) (Nat.le_refl _) s (pos + 1)
        have HI := Lib.hid hit2
        clear hit hit2
        by_cases hz : codeN ((s[pos]'hlt).toNat : Int) = 0
        · have HF := Lib.hid (idE_no (idOk_no hlt hz))
          have HZ := Lib.hid hz
          have HC := Lib.hid (fun W => code_any ((s[pos]'hlt).toNat : Int) W (by omega) (by omega))
          clear hz
          generalize codeN ((s[pos]'hlt).toNat : Int) = cc at *
          go_wp2_with fail
          refine (HC.out _).mono ?_
          rintro x w1 ⟨rfl, rfl⟩
          rw [HZ.out]
          go_wp2
          go_ret
          exact ⟨ret_i HF.out.symm, hb2⟩
        · have hz2 : (codeN ((s[pos]'hlt).toNat : Int) == 0) = false := by simpa using hz
          have HZ := Lib.hid hz
          have HC := Lib.hid (fun W => code_any ((s[pos]'hlt).toNat : Int) W (by omega) (by omega))
          clear hz
          generalize hcc : codeN ((s[pos]'hlt).toNat : Int) = cc at *
          have HE := Lib.hid hcc
          clear hcc
          go_wp2_with fail
          refine (HC.out _).mono ?_
          rintro x w1 ⟨rfl, rfl⟩
          go_wp2
          go_roundw
          case rel =>
            refine ⟨pos + 1, by omega, HI.out, hb2, Lib.hid fun k hk hlk => ?_⟩
            by_cases hkp : k = pos
            · subst hkp
              rw [HE.out]
              exact HZ.out
            · exact HK.out k hk (by omega)
          case measure => rw [iterPos_of HI.out, HP.out]; omega
      · have hd := decode_far s pos hlt ha
        have hnx : ∀ ty, (Instr.next (.pointer (some ⟨w.heap.size, 0, none⟩)) true ty).run Tryd.prog wr = _ := fun ty => Lib.run_next_any_at wr w.heap.size s pos ty hit hlt
        have hb2 := Lib.below_iterAt hb (k := w.heap.size) (Nat.le_refl _) s (pos + (Utf8.decode s pos).2)
        have hz : codeN ((s[pos]'hlt).toNat : Int) = 0 := codeN_far (by omega)
        have HF := Lib.hid (idE_no (idOk_no hlt hz))
        have hdl : (Utf8.decode s pos).1 ≤ 2147483647 := decode_le s pos
        have hz2 : codeN ((Utf8.decode s pos).1 : Int) = 0 := codeN_far (by omega)
        have HC := Lib.hid (fun W => code_any ((Utf8.decode s pos).1 : Int) W (by omega) (by omega))
        rw [hz2] at HC
        clear hz hz2 hit
        generalize Utf8.decode s pos = dd at *
        go_wp2_with fail
        refine (HC.out _).mono ?_
        rintro x w1 ⟨rfl, rfl⟩
        go_wp2
        go_ret
        exact ⟨ret_i HF.out.symm, hb2⟩
    · have hnx : ∀ ty, (Instr.next (.pointer (some ⟨w.heap.size, 0, none⟩)) true ty).run Tryd.prog wr = _ := fun ty => Lib.run_next_end_at wr w.heap.size s pos ty hit hlt
      have HF := Lib.hid (idE_yes (idOk_of (by omega) (by omega) fun k hk => HK.out k hk (by omega)))
      clear hit
      go_wp2
      go_ret
      exact ⟨ret_i HF.out.symm, hb⟩
theorem place_any (b : UInt8) (w : World) :
    Calls Tryd.prog 60 #[.int .u8 (b.toNat : Int)] w fun x w' => x = .returned (.int .u64 (codeN (b.toNat : Int))) ∧ w = w' := by
  have hb := b.toNat_lt
  go_enter Tryd.func60, Tryd.ntmps60
  go_wp2
  go_loop [3] (fun i => ∃ (k : Nat), k ≤ 39 ∧ i = .int .i64 k ∧ Hid (∀ (j : Nat) (h : j < 39), j < k → letA[j]'(by rw [letA_size]; exact h) ≠ b)) (fun i => 39 - (intOf i).toNat)
  case atStart => exact ⟨0, by omega, rfl, Lib.hid (fun j _ h => by omega)⟩
  case round =>
    obtain ⟨k, hk, rfl, HK⟩ := hrel
    by_cases hlt : k < 39
    · have hsz : k < letA.size := hlt
      have HL := Lib.hid (let_code ⟨k, hlt⟩)
      go_wp2
      · rename_i h h'
        have he : ((letA[k]'hsz).toNat : Int) = (b.toNat : Int) := by first | exact beq_iff_eq.1 h | exact beq_iff_eq.1 h'
        have HE := Lib.hid he
        clear he h h'
        go_ret
        exact ⟨ret_i (by rw [← HE.out]; exact (HL.out.trans (by first | rfl | omega)).symm), rfl⟩
      · rename_i h h'
        have he : ¬ ((letA[k]'hsz).toNat : Int) = (b.toNat : Int) := by first | exact beq_eq_false_iff_ne.1 h | exact beq_eq_false_iff_ne.1 h'
        have HE := Lib.hid he
        clear he h h'
        go_round
        case rel =>
          refine ⟨k + 1, by omega, by go_num, Lib.hid fun j hj hlj => ?_⟩
          by_cases hjk : j = k
          · subst hjk
            intro e
            exact HE.out (by rw [e])
          · exact HK.out j hj (by omega)
        case measure => simp [intOf]; omega
    · have HF := Lib.hid (let_none b fun j hj => HK.out j hj (by omega))
      go_wp2
      go_ret
      exact ⟨ret_i HF.out.symm, rfl⟩
theorem id_any (s : ByteArray) (hs : s.size ≤ maxLen) (w : World) :
    Calls Tryd.prog 44 #[.string s] w fun x w' => x = .returned (.bool (idOk s)) ∧ w = w' := by
  unfold maxLen at hs
  by_cases h1 : s.size < 1
  · have HF := Lib.hid (idOk_short h1)
    have h1I : (s.size : Int) < 1 := by omega
    go_enter Tryd.func44, Tryd.ntmps44
    go_wp2
    go_ret
    exact ⟨ret_b HF.out.symm, rfl⟩
  by_cases h2 : 20 < s.size
  · have HF := Lib.hid (idOk_long h2)
    have h1I : ¬ (s.size : Int) < 1 := by omega
    have h2I : (20 : Int) < s.size := by omega
    go_enter Tryd.func44, Tryd.ntmps44
    go_wp2
    go_ret
    exact ⟨ret_b HF.out.symm, rfl⟩
  have h1I : ¬ (s.size : Int) < 1 := by omega
  have h2I : ¬ (20 : Int) < s.size := by omega
  go_enter Tryd.func44, Tryd.ntmps44
  go_wp2
  go_loop [3] (fun i => ∃ (pos : Nat), pos ≤ s.size ∧ i = .int .i64 pos ∧ Hid (∀ (k : Nat) (h : k < s.size), k < pos → codeN (s[k].toNat : Int) ≠ 0)) (fun i => s.size - (intOf i).toNat)
  case atStart => exact ⟨0, by omega, rfl, Lib.hid (fun k _ h => by omega)⟩
  case round =>
    obtain ⟨pos, hp, rfl, HK⟩ := hrel
    by_cases hlt : pos < s.size
    · have HC := Lib.hid (fun W => place_any (s[pos]'hlt) W)
      by_cases hz : codeN ((s[pos]'hlt).toNat : Int) = 0
      · have HF := Lib.hid (idOk_no hlt hz)
        have HZ := Lib.hid hz
        clear hz
        generalize codeN ((s[pos]'hlt).toNat : Int) = cc at *
        go_wp2_with fail
        refine (HC.out _).mono ?_
        rintro x w1 ⟨rfl, rfl⟩
        rw [HZ.out]
        go_wp2
        go_ret
        exact ⟨ret_b HF.out.symm, rfl⟩
      · have hz2 : (codeN ((s[pos]'hlt).toNat : Int) == 0) = false := by simpa using hz
        have HZ := Lib.hid hz
        clear hz
        generalize hcc : codeN ((s[pos]'hlt).toNat : Int) = cc at *
        have HE := Lib.hid hcc
        clear hcc
        go_wp2_with fail
        refine (HC.out _).mono ?_
        rintro x w1 ⟨rfl, rfl⟩
        go_wp2
        go_round
        case rel =>
          refine ⟨pos + 1, by omega, by go_num, Lib.hid fun k hk hlk => ?_⟩
          by_cases hkp : k = pos
          · subst hkp
            rw [HE.out]
            exact HZ.out
          · exact HK.out k hk (by omega)
        case measure => simp [intOf]; omega
    · have HF := Lib.hid (idOk_of (by omega) (by omega) fun k hk => HK.out k hk (by omega))
      go_wp2
      go_ret
      exact ⟨ret_b HF.out.symm, rfl⟩
end Go.Proofs.YteljecehppeamaaDoor
