/-
  strings.SplitSeq at a sign of one byte: its iterator, and what it hands over. Conditions: texts of few bytes.
-/
import Derived.Test.YtenjhklkljeijaaDoorSeqV
import Derived.Test.YtenjhklkljeijaaDoorWords
import Derived.Test.YtenjhklkljeijaaDoorOwn
import Derived.Shelf.Strings.Search3
namespace Go.Proofs
open Go.Shelf
def Tryd.lsidx_ren : Go.Shelf.Ren := ⟨fun | 143 => 38 | 219 => 49 | 217 => 58 | 225 => 59 | 224 => 60 | 267 => 61 | 266 => 66 | 314 => 67 | n => n, fun | 9 => 9 | 3 => 3 | 4 => 4 | 5 => 5 | 46 => 75 | 146 => 97 | 51 => 83 | n => n, fun | 1 => 5 | n => n⟩
theorem Tryd.lsidx : Go.Proofs.Lays.n143 Tryd.prog Tryd.lsidx_ren := {
  mixed := by kernel_rfl
  f143 := Tryd.func38.trans (congrArg some (by kernel_rfl))
  f217 := Tryd.func58.trans (congrArg some (by kernel_rfl))
  f219 := Tryd.func49.trans (congrArg some (by kernel_rfl))
  f224 := Tryd.func60.trans (congrArg some (by kernel_rfl))
  f225 := Tryd.func59.trans (congrArg some (by kernel_rfl))
  f266 := Tryd.func66.trans (congrArg some (by kernel_rfl))
  f267 := Tryd.func61.trans (congrArg some (by kernel_rfl))
  f314 := Tryd.func67.trans (congrArg some (by kernel_rfl))
  t3 := Tryd.underlying3
  a3 := Tryd.isAgg3
  z3 := Tryd.sizeOf3
  v3 := Tryd.zeroValue3
  t4 := Tryd.underlying4
  a4 := Tryd.isAgg4
  z4 := Tryd.sizeOf4
  v4 := Tryd.zeroValue4
  t5 := Tryd.underlying5
  a5 := Tryd.isAgg5
  z5 := Tryd.sizeOf5
  v5 := Tryd.zeroValue5
  t9 := Tryd.underlying9
  a9 := Tryd.isAgg9
  z9 := Tryd.sizeOf9
  v9 := Tryd.zeroValue9
  t46 := Tryd.underlying75
  a46 := Tryd.isAgg75
  z46 := Tryd.sizeOf75
  v46 := Tryd.zeroValue75
  t51 := Tryd.underlying83
  a51 := Tryd.isAgg83
  z51 := Tryd.sizeOf83
  v51 := Tryd.zeroValue83
  t146 := Tryd.underlying97
  a146 := Tryd.isAgg97
  z146 := Tryd.sizeOf97
  v146 := Tryd.zeroValue97
  g1 := by kernel_rfl }
end Go.Proofs
namespace Go.Fw
open Go.RowKit
set_option linter.unusedVariables false
def cellLen (w : World) (b : Nat) : Nat := match w.cell? ⟨b, 0, none⟩ with
  | some (.string s) => s.size
  | _ => 0
/-- some blocks lie as they lay -/
def SameS (S : Nat → Prop) (W W' : World) : Prop := ∀ k, S k → W'.heap[k]? = W.heap[k]?
theorem SameS.refl (S : Nat → Prop) (W : World) : SameS S W W := fun _ _ => rfl
theorem SameS.trans {S : Nat → Prop} {A B C : World} (h : SameS S A B) (k : SameS S B C) : SameS S A C := fun j hj => (k j hj).trans (h j hj)
theorem SameS.put {S : Nat → Prop} {n : Nat} (hS : ∀ k, S k → k < n) (W : World) (l : Nat) (o o' : Obj) (hl : n ≤ l) (_ : W.heap[l]? = some o) (_ : o.isCells = false) (_ : o.isWalk = false) : SameS S W (W.putObj l o') := fun k hk => World.putObj_heap_other (fun e => by have := hS k hk; omega)
/-- the iterator's own write -/
def TchAt (bs : Nat) (A B : World) : Prop := ∃ v, B = A.setCell ⟨bs, 0, none⟩ v
def In3 (a b c k : Nat) : Prop := k = a ∨ k = b ∨ k = c
end Go.Fw
namespace Go.Proofs.YtenjhklkljeijaaDoor
open Go.RowKit Go.Shelf Go.Fw
set_option maxHeartbeats 2000000
set_option maxRecDepth 100000
set_option linter.unusedVariables false
set_option linter.unusedSimpArgs false
theorem sidx_any (s : ByteArray) (c : UInt8) (w : World) : Calls Tryd.prog 38 #[.string s, .string ⟨#[c]⟩] w fun e w' => e = .returned (.int .i64 (Lib.indexByte s.data.toList c)) ∧ w = w' := by
  have h := Any.strings_Index_one Tryd.lsidx s c w
  change Calls Tryd.prog 38 _ _ _ at h
  exact h.mono fun e w' ⟨h1, h2⟩ => ⟨h1, h2.symm⟩
theorem splitSeq_any (s sep : ByteArray) (w : World) : Calls Tryd.prog 26 #[.string s, .string sep] w fun e w' =>
    e = .returned (.func (.func 36) #[] #[.pointer (some ⟨w.heap.size + 1, 0, none⟩), .pointer (some ⟨w.heap.size, 0, none⟩), .pointer (some ⟨w.heap.size + 2, 0, none⟩)]) ∧
    ((w.alloc (.cells #[.string s] 9)).alloc (.cells #[.string sep] 9)).alloc (.cells #[.int .i64 0] 3) = w' := by
  go_enter Tryd.func26, Tryd.ntmps26
  go_wp2
  go_ret
  exact ⟨rfl, rfl⟩
attribute [local go_sem] Oper.semAt_some
theorem splitSeq1_in (n : Nat) (hn : 1 ≤ n) (l bs bp bv : Nat) (c : UInt8) (s : ByteArray) (hsz : s.size ≤ 1000000) (h1 : bs ≠ bp) (h2 : bs ≠ bv) (J Jx : List ByteArray → World → Prop)
    (hJT : ∀ pre A B, J pre A → TchAt bs A B → J pre B)
    (hY : ∀ pre x W1, J pre W1 → pre ++ [x] <+: wordsB c s → YieldAt Fence.wide (n - 1) Tryd.prog l #[.string x] W1 fun e W' =>
      (e = .returned (.bool true) ∧ J (pre ++ [x]) W' ∧ SameS (In3 bs bp bv) W1 W') ∨ (e = .returned (.bool false) ∧ Jx (pre ++ [x]) W'))
    (W : World) (hS : Blk W bs 9 #[.string s]) (hP : Blk W bp 9 #[.string ⟨#[c]⟩]) (hV : Blk W bv 3 #[.int .i64 0]) (h0 : J [] W) :
    CallsIn Fence.wide n Tryd.prog 36 #[.func (.yield l) #[] #[], .pointer (some ⟨bp, 0, none⟩), .pointer (some ⟨bs, 0, none⟩), .pointer (some ⟨bv, 0, none⟩)] W fun e W' => (∃ v, e = .returned v) ∧
      ((∃ ys, ys = wordsB c s ∧ J ys W') ∨ (∃ pre, pre <+: wordsB c s ∧ pre ≠ [] ∧ Jx pre W')) := by
  refine callsIn_of_wp Tryd.func36 rfl trivial ?_ rfl
  simp only [Tryd.ntmps36, List.size_toArray, List.length_cons, List.length_nil, Nat.reduceAdd, Nat.reduceSub, Array.replicate_succ, Array.replicate_zero, List.push_toArray, List.append_toArray, List.nil_append, List.cons_append]
  have p0 := hP.cell 0
  simp at p0
  obtain ⟨sep, hsep⟩ : ∃ sep : ByteArray, sep = ⟨#[c]⟩ := ⟨_, rfl⟩
  have hsl : sep.size = 1 := by rw [hsep]; rfl
  rw [← hsep] at p0 hP
  have HIX := Lib.hid (fun (x : ByteArray) (w : World) => (by rw [hsep]; exact sidx_any x c w : Calls Tryd.prog 38 #[.string x, .string sep] w fun e w' => e = .returned (.int .i64 (Lib.indexByte x.data.toList c)) ∧ w = w'))
  have HSL := Lib.hid hsl
  clear hsep
  gi_wp2
  clear hsl
  gi_loopw [] (fun wr => ∃ pre s', wordsB c s = pre ++ wordsB c s' ∧ s'.size ≤ s.size ∧ Blk wr bs 9 #[.string s'] ∧ Blk wr bp 9 #[.string sep] ∧ Blk wr bv 3 #[.int .i64 0] ∧ J pre wr) (fun wr => cellLen wr bs)
  case atStart => exact ⟨[], s, rfl, Nat.le_refl _, hS, hP, hV, h0⟩
  case round =>
    obtain ⟨pre, s', hw, hle, hS', hP', hV', hJ⟩ := hrel
    have hs0 := hS'.cell 0
    have hp0 := hP'.cell 0
    have hv0 := hV'.cell 0
    have hf0 := hS'.frozen 0
    simp at hs0 hp0 hv0
    have hwl := wordsB_len c s
    clear hS hP hV p0
    by_cases hmiss : Lib.indexByte s'.data.toList c = -1
    · have hpc := wordsB_miss hmiss
      rw [hpc] at hw
      obtain ⟨fn, tmps, assign, body, hy, hRd⟩ := hY pre s' wr hJ (by rw [hw]; exact List.prefix_refl _)
      have hix := HIX.out s' wr
      rw [hmiss] at hix
      have HIX2 := Lib.hid hix
      have HW := Lib.hid hw
      clear hix hmiss hw hpc
      gi_wp2
      refine ⟨trivial, (callsIn_wide.2 HIX2.out).mono ?_⟩
      rintro e w' ⟨rfl, rfl⟩
      gi_wp2
      refine hRd.mono ?_
      rintro e W3 (⟨rfl, hJ3, hk3⟩ | ⟨rfl, hJx3⟩)
      · gi_wp2
        go_end0
        exact ⟨⟨_, rfl⟩, .inl ⟨_, rfl, by rw [HW.out]; exact hJ3⟩⟩
      · gi_wp2
        go_end0
        exact ⟨⟨_, rfl⟩, .inr ⟨_, by rw [HW.out]; exact List.prefix_refl _, by simp, hJx3⟩⟩
    · obtain ⟨i, hi⟩ : ∃ i : Nat, Lib.indexByte s'.data.toList c = (i : Int) := by
        rcases indexByte_cases c s'.data.toList with ⟨h, _⟩ | ⟨i, h, _, _⟩
        · exact absurd h hmiss
        · exact ⟨i, h⟩
      obtain ⟨hlt, hpc⟩ := wordsB_hit hi
      rw [hpc] at hw
      obtain ⟨fn, tmps, assign, body, hy, hRd⟩ := hY pre (s'.extract 0 i) wr hJ (by rw [hw]; exact ⟨wordsB c (s'.extract (i + 1) s'.size), by simp⟩)
      have hix := HIX.out s' wr
      rw [hi] at hix
      have HIX2 := Lib.hid hix
      have HW := Lib.hid hw
      have hi0 : ¬ (i : Int) < 0 := by omega
      have his : (i : Int) ≤ (s'.size : Int) := by omega
      have hi1 : (i : Int) + 1 ≤ (s'.size : Int) := by omega
      have hw1 : IntKind.i64.wrap ((i : Int) + 1) = (i : Int) + 1 := IntWalk.i64_in _ ⟨by omega, by omega⟩
      have hn1 : ((i : Int) + 1).toNat = i + 1 := by omega
      have hn2 : 0 ≤ (i : Int) + 1 := by omega
      have hib : i ≤ 1000000 := by omega
      clear hix hmiss hw hpc
      gi_wp2
      refine ⟨trivial, (callsIn_wide.2 HIX2.out).mono ?_⟩
      rintro e w' ⟨rfl, rfl⟩
      gi_wp2
      refine hRd.mono ?_
      rintro e W3 (⟨rfl, hJ3, hk3⟩ | ⟨rfl, hJx3⟩)
      · have hS3 : Blk W3 bs 9 #[.string s'] := (hk3 bs (.inl rfl)).trans hS'
        have hP3 : Blk W3 bp 9 #[.string sep] := (hk3 bp (.inr (.inl rfl))).trans hP'
        have hV3 : Blk W3 bv 3 #[.int .i64 0] := (hk3 bv (.inr (.inr rfl))).trans hV'
        have hs3 := hS3.cell 0
        have hp3 := hP3.cell 0
        have hf3 := hS3.frozen 0
        simp at hs3 hp3
        have hS4 := hS3.set_ 0 (.string (s'.extract (i + 1) s'.size))
        have hP4 := hP3.far (p := ⟨bs, 0, none⟩) (Ne.symm h1) (.string (s'.extract (i + 1) s'.size))
        have hV4 := hV3.far (p := ⟨bs, 0, none⟩) (Ne.symm h2) (.string (s'.extract (i + 1) s'.size))
        have hJ4 := hJT _ _ _ hJ3 ⟨.string (s'.extract (i + 1) s'.size), rfl⟩
        have hz4 : (s'.extract (i + 1) s'.size).size = s'.size - (i + 1) := by simp [ByteArray.size_extract]
        have H4 := Lib.hid (And.intro hS4 (And.intro hP4 (And.intro hV4 (And.intro hJ4 hz4))))
        have hm0 : cellLen wr bs = s'.size := by unfold cellLen; rw [hs0]
        have HM0 := Lib.hid hm0
        have hsl := HSL.out
        clear hS4 hP4 hV4 hJ4 hz4 hm0 hS' hP' hV' hs0 hp0 hv0 hf0 hJ hJ3 hS3 hP3 hV3
        gi_wp2
        go_roundw
        case rel => exact ⟨pre ++ [s'.extract 0 i], s'.extract (i + 1) s'.size, by rw [HW.out]; simp, by rw [H4.out.2.2.2.2]; omega, by simpa using H4.out.1, H4.out.2.1, H4.out.2.2.1, H4.out.2.2.2.1⟩
        case measure =>
          rw [HM0.out]
          have h5 : cellLen (W3.setCell ⟨bs, 0, none⟩ (.string (s'.extract (i + 1) s'.size))) bs = s'.size - (i + 1) := by
            unfold cellLen
            rw [H4.out.1.cell]
            simp only [Array.setIfInBounds, List.size_toArray, List.length_cons, List.length_nil]
            exact H4.out.2.2.2.2
          rw [h5]
          omega
      · gi_wp2
        refine bodyPost_ret (results_none rfl _ _ _) rfl ?_
        exact ⟨⟨_, rfl⟩, .inr ⟨_, by rw [HW.out]; exact ⟨wordsB c (s'.extract (i + 1) s'.size), by simp⟩, by simp, hJx3⟩⟩
theorem splitSeq1_stops (n : Nat) (hn : 1 ≤ n) (bs bp bv : Nat) (c : UInt8) (s : ByteArray) (hsz : s.size ≤ 1000000) (h1 : bs ≠ bp) (h2 : bs ≠ bv) (w : World)
    (hS : Blk w bs 9 #[.string s]) (hP : Blk w bp 9 #[.string ⟨#[c]⟩]) (hV : Blk w bv 3 #[.int .i64 0]) :
    SeqV Fence.wide n Tryd.prog 36 #[.pointer (some ⟨bp, 0, none⟩), .pointer (some ⟨bs, 0, none⟩), .pointer (some ⟨bv, 0, none⟩)] (fun x : ByteArray => #[.string x]) (SameS (In3 bs bp bv)) (TchAt bs) (fun ys => ys = wordsB c s) (fun pre => pre <+: wordsB c s ∧ pre ≠ []) (fun pre => pre <+: wordsB c s) w :=
  fun l J Jx W hW _ _ hJT _ hY h0 => (splitSeq1_in n hn l bs bp bv c s hsz h1 h2 J Jx hJT hY W (hS.later hW) (hP.later hW) (hV.later hW) h0).mono
    fun e W' ⟨he, h⟩ => ⟨he, h.imp id fun ⟨pre, q1, q2, q3⟩ => ⟨pre, ⟨q1, q2⟩, q3⟩⟩
end Go.Proofs.YtenjhklkljeijaaDoor
