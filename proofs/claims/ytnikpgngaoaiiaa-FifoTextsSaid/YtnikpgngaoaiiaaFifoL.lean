/-
  Queues of numbers, one by one: All, List, Has, Drop. Condition: none.
-/
import Derived.Test.YtnikpgngaoaiiaaFifoI
import Derived.Shelf.SlicesG.Turned
import Derived.RangeFuncNested
import Derived.RangeFuncBound
import Derived.RangeFuncCalls
import Derived.RangeFuncLeaves
import Derived.RangeFuncBox
import Derived.Shelf.Abstract
import Derived.OwnWalkIn
import Derived.TacticsInMore
import Derived.LoopNIn
import Derived.LoopIn
namespace Go.Fw
open Go.RowKit
set_option linter.unusedVariables false
/-- some blocks lie as they lay -/
def Same (S : Nat → Prop) (W W' : World) : Prop := ∀ k, S k → W'.heap[k]? = W.heap[k]?
theorem Same.refl (S : Nat → Prop) (W : World) : Same S W W := fun _ _ => rfl
theorem Same.trans {S : Nat → Prop} {A B C : World} (h : Same S A B) (k : Same S B C) : Same S A C := fun j hj => (k j hj).trans (h j hj)
theorem Same.put {S : Nat → Prop} {n : Nat} (hS : ∀ k, S k → k < n) (W : World) (l : Nat) (o o' : Obj) (hl : n ≤ l) (_ : W.heap[l]? = some o) (_ : o.isCells = false) (_ : o.isWalk = false) : Same S W (W.putObj l o') := fun k hk => World.putObj_heap_other (fun e => by have := hS k hk; omega)
theorem same_ownT {α : Type} {S : Nat → Prop} {B : Nat} (W0 : World) (hS : ∀ k, S k → k < B) : OwnFrom B (fun (_ : List α) W => Same S W0 W ∧ B ≤ W.heap.size) := fun s W W' row hs hg hr =>
  ⟨fun k hk => (hg.block k (by have := hS k hk; have := hs.2; omega) (fun e => by have := (hr k e.symm).1; have := hS k hk; omega)).trans (hs.1 k hk), Nat.le_trans hs.2 hg.size⟩
/-- where a queue lies, and the variable that leads to it -/
def InQ (p Bb : Nat) (vf vb : Value) (k : Nat) : Prop := QBl p vf vb k ∨ k = Bb
theorem QAt.same {α : Type} {cells : List α → List Value} {T e : TypeId} {w w' : World} {p B Bb : Nat} {vf vb : Value} {f b : List α} (h : QAt cells T e w p B vf vb f b) (hS : Same (InQ p Bb vf vb) w w') : QAt cells T e w' p B vf vb f b := h.turn fun k hk => hS k (.inl hk)
end Go.Fw
namespace Go.Proofs
open Go.Shelf
def Try.lidx_ren : Go.Shelf.Ren := ⟨fun | 29 => 24 | n => n, fun | 22 => 24 | 23 => 3 | 3 => 3 | 0 => 0 | 4 => 4 | n => n, fun | n => n⟩
theorem Try.lidx : Go.Proofs.SlLaysN.n29 Try.prog Try.lidx_ren := {
  mixed := by kernel_rfl
  f29 := ⟨Try.f24.name, by decide, Try.func24.trans (congrArg some (by kernel_rfl))⟩
  t0 := Try.underlying0
  a0 := Try.isAgg0
  z0 := Try.sizeOf0
  v0 := Try.zeroValue0
  t3 := Try.underlying3
  a3 := Try.isAgg3
  z3 := Try.sizeOf3
  v3 := Try.zeroValue3
  t4 := Try.underlying4
  a4 := Try.isAgg4
  z4 := Try.sizeOf4
  v4 := Try.zeroValue4
  t22 := Try.underlying24
  a22 := Try.isAgg24
  z22 := Try.sizeOf24
  v22 := Try.zeroValue24
  t23 := Try.underlying3
  a23 := Try.isAgg3
  z23 := Try.sizeOf3
  v23 := Try.zeroValue3 }
def Try.ldel_ren : Go.Shelf.Ren := ⟨fun | 45 => 25 | n => n, fun | 22 => 24 | 23 => 3 | 3 => 3 | 4 => 4 | 0 => 0 | n => n, fun | n => n⟩
theorem Try.ldel : Go.Proofs.SlLaysN.n45 Try.prog Try.ldel_ren := {
  mixed := by kernel_rfl
  f45 := ⟨Try.f25.name, by decide, Try.func25.trans (congrArg some (by kernel_rfl))⟩
  t0 := Try.underlying0
  a0 := Try.isAgg0
  z0 := Try.sizeOf0
  v0 := Try.zeroValue0
  t3 := Try.underlying3
  a3 := Try.isAgg3
  z3 := Try.sizeOf3
  v3 := Try.zeroValue3
  t4 := Try.underlying4
  a4 := Try.isAgg4
  z4 := Try.sizeOf4
  v4 := Try.zeroValue4
  t22 := Try.underlying24
  a22 := Try.isAgg24
  z22 := Try.sizeOf24
  v22 := Try.zeroValue24
  t23 := Try.underlying3
  a23 := Try.isAgg3
  z23 := Try.sizeOf3
  v23 := Try.zeroValue3
  i23 := by kernel_rfl }
end Go.Proofs
namespace Go.Proofs.Ytnikpgngaoaiiaa
open Go.RowKit Go.Shelf Go.Fw
set_option maxHeartbeats 2000000
set_option maxRecDepth 100000
set_option linter.unusedVariables false
set_option linter.unusedSimpArgs false
attribute [local go_sem] Oper.semAt_some
theorem qiall1_in (n : Nat) (hn : 1 ≤ n) (l Bb p B tb : Nat) (vf vb : Value) (f b L : List Int) (hL : L = f.reverse ++ b) (hfew : L.length ≤ 100000) (J Jx : List Int → World → Prop)
    (hY : ∀ pre x W, J pre W → pre.length < L.length → YieldAt Fence.wide (n - 1) Try.prog l #[.int .i64 x] W fun e W' =>
      (e = .returned (.bool true) ∧ J (pre ++ [x]) W' ∧ Same (InQ p Bb vf vb) W W') ∨ (e = .returned (.bool false) ∧ Jx (pre ++ [x]) W'))
    (W : World) (hBn : Blk W Bb tb #[.pointer (some ⟨p, 0, none⟩)]) (hR : QI W p B vf vb f b) (h0 : J [] W) :
    CallsIn Fence.wide n Try.prog 36 #[.func (.yield l) #[] #[], .pointer (some ⟨Bb, 0, none⟩)] W fun e W' => (∃ v, e = .returned v) ∧
      ((∃ ys, ys = L ∧ J ys W') ∨ (∃ pre, pre <+: L ∧ pre ≠ [] ∧ Jx pre W')) := by
  have hll : L.length = f.length + b.length := by rw [hL]; simp
  have HL := Lib.hid hL
  clear hL
  obtain ⟨Af, cf, rfl, hcf, _⟩ := own_form hR.front
  obtain ⟨Ab, cb, rfl, hcb, _⟩ := own_form hR.back
  have hff : f.length ≤ 100000 := by omega
  have hbb : b.length ≤ 100000 := by omega
  have HLL := Lib.hid hll
  clear hll
  refine callsIn_of_wp Try.func36 rfl trivial ?_ rfl
  simp only [Try.ntmps36, List.size_toArray, List.length_cons, List.length_nil, Nat.reduceAdd, Nat.reduceSub, Array.replicate_succ, Array.replicate_zero, List.push_toArray, List.append_toArray, List.nil_append, List.cons_append]
  have b0 := hBn.cell 0
  simp at b0
  have c0 := hR.c0
  have hw0 : IntKind.i64.wrap ((f.length : Int) - 1) = (f.length : Int) - 1 := IntWalk.i64_in _ ⟨by omega, by omega⟩
  gi_wp2
  gi_loopw [3] (fun i wr => ∃ k : Nat, k ≤ f.length ∧ i = .int .i64 ((f.length : Int) - 1 - k) ∧ Hid (J (L.take k) wr ∧ Same (InQ p Bb (.slice Af f.length cf) (.slice Ab b.length cb)) W wr)) (fun i _ => (intOf i + 1).toNat)
  case atStart => exact ⟨0, Nat.zero_le _, by simp, Lib.hid ⟨by simpa using h0, Same.refl _ _⟩⟩
  case round =>
    obtain ⟨k, hk, rfl, HJ⟩ := hrel
    have hq1 := hR.same HJ.out.2
    have b1 : wr.cell? ⟨Bb, 0, none⟩ = some (.pointer (some ⟨p, 0, none⟩)) := by
      have hb1 : Blk wr Bb tb #[.pointer (some ⟨p, 0, none⟩)] := (HJ.out.2 Bb (.inr rfl)).trans hBn
      have := hb1.cell 0
      simpa using this
    by_cases hlt : k < f.length
    · obtain ⟨m, hm⟩ : ∃ m, f.length = m + 1 + k := ⟨f.length - 1 - k, by omega⟩
      have hmk : m < f.length := by omega
      obtain ⟨g, c, e1, _, _, _, hcell, _, _⟩ := own_at hq1.front hmk
      injection e1 with e1 _ e3
      subst e1 e3
      have hkl : k < L.length := by have := HLL.out; omega
      have hs : L.take (k + 1) = L.take k ++ [L[k]] := List.take_succ_eq_append_getElem hkl
      have hx : L[k] = f[m] := by
        have h1 : L[k]? = f[m]? := by
          rw [HL.out, List.getElem?_append_left (by simpa using hlt), List.getElem?_reverse hlt]
          congr 1
          omega
        rw [List.getElem?_eq_getElem hkl, List.getElem?_eq_getElem hmk] at h1
        exact Option.some.inj h1
      rw [show (i64s f)[m]? = some (.int .i64 f[m]) by simp [i64s, hmk], ← hx] at hcell
      obtain ⟨fn, tmps, assign, body, hy, hRd⟩ := hY _ L[k] wr HJ.out.1 (by simp; omega)
      have HS := Lib.hid hs
      have c1 := hq1.c0
      have him : (f.length : Int) - 1 - k = (m : Int) := by omega
      have hmlt : (m : Int) < (f.length : Int) := by omega
      have hw1 : IntKind.i64.wrap ((m : Int) - 1) = (m : Int) - 1 := IntWalk.i64_in _ ⟨by omega, by omega⟩
      rw [him]
      have HM := Lib.hid (And.intro him hm)
      clear hs hx hq1 him hm
      generalize L[k] = x at *
      gi_wp2
      refine hRd.mono ?_
      rintro e W3 (⟨rfl, hJ3, hk3⟩ | ⟨rfl, hJx3⟩)
      · gi_wp2
        go_roundw
        case rel => exact ⟨k + 1, by omega, by have := HM.out.1; congr 1; omega, Lib.hid ⟨by rw [HS.out]; exact hJ3, HJ.out.2.trans hk3⟩⟩
        case measure => have := HM.out.1; simp [intOf]
      · gi_wp2
        refine bodyPost_ret (results_none rfl _ _ _) rfl ?_
        exact ⟨⟨_, rfl⟩, .inr ⟨_, ⟨L.drop (k + 1), by rw [← HS.out, List.take_append_drop]⟩, by simp, hJx3⟩⟩
    · obtain rfl : k = f.length := by omega
      have hm1 : (f.length : Int) - 1 - (f.length : Int) = -1 := by omega
      rw [hm1]
      have c1 := hq1.c1
      clear hq1
      gi_wp2
      gi_loopw [33] (fun i wr => ∃ j : Nat, j ≤ b.length ∧ i = .int .i64 j ∧ Hid (J (L.take (f.length + j)) wr ∧ Same (InQ p Bb (.slice Af f.length cf) (.slice Ab b.length cb)) W wr)) (fun i _ => b.length - (intOf i).toNat)
      case atStart => exact ⟨0, Nat.zero_le _, rfl, Lib.hid ⟨HJ.out.1, HJ.out.2⟩⟩
      case round =>
        obtain ⟨j, hj, rfl, HK⟩ := hrel
        have hq2 := hR.same HK.out.2
        by_cases hjt : j < b.length
        · obtain ⟨g, c, e1, _, _, _, hcell, _, _⟩ := own_at hq2.back hjt
          injection e1 with e1 _ e3
          subst e1 e3
          have hkl : f.length + j < L.length := by have := HLL.out; omega
          have hs : L.take (f.length + (j + 1)) = L.take (f.length + j) ++ [L[f.length + j]] := List.take_succ_eq_append_getElem hkl
          have hx : L[f.length + j] = b[j] := by
            have h1 : L[f.length + j]? = b[j]? := by
              rw [HL.out, List.getElem?_append_right (by simp)]
              congr 1
              simp
            rw [List.getElem?_eq_getElem hkl, List.getElem?_eq_getElem hjt] at h1
            exact Option.some.inj h1
          rw [show (i64s b)[j]? = some (.int .i64 b[j]) by simp [i64s, hjt], ← hx] at hcell
          obtain ⟨fn, tmps, assign, body, hy, hRd⟩ := hY _ L[f.length + j] _ HK.out.1 (by simp; omega)
          have HS := Lib.hid hs
          have hjl : (j : Int) < (b.length : Int) := by omega
          clear hs hx hq2
          generalize L[f.length + j] = x at *
          gi_wp2
          refine hRd.mono ?_
          rintro e W3 (⟨rfl, hJ3, hk3⟩ | ⟨rfl, hJx3⟩)
          · gi_wp2
            go_roundw
            case rel => exact ⟨j + 1, by omega, by simp, Lib.hid ⟨by rw [HS.out]; exact hJ3, HK.out.2.trans hk3⟩⟩
            case measure => simp [intOf]; omega
          · gi_wp2
            refine bodyPost_ret (results_none rfl _ _ _) rfl ?_
            exact ⟨⟨_, rfl⟩, .inr ⟨_, ⟨L.drop (f.length + (j + 1)), by rw [← HS.out, List.take_append_drop]⟩, by simp, hJx3⟩⟩
        · obtain rfl : j = b.length := by omega
          have hJe := HK.out.1
          rw [List.take_of_length_le (by have := HLL.out; omega)] at hJe
          gi_wp2
          go_end0
          exact ⟨⟨_, rfl⟩, .inl ⟨_, rfl, hJe⟩⟩
theorem qiall_any (v : Option Addr) (w : World) : Calls Try.prog 26 #[.pointer v] w fun e w' => e = .returned (.func (.func 36) #[] #[.pointer (some ⟨w.heap.size, 0, none⟩)]) ∧ w.alloc (.cells #[.pointer v] 50) = w' := by
  go_enter Try.func26, Try.ntmps26
  go_wp2
  go_ret
  exact ⟨rfl, rfl⟩
theorem qiall1_nil (n : Nat) (hn : 1 ≤ n) (l Bb tb : Nat) (J : List Int → World → Prop) (W : World) (hBn : Blk W Bb tb #[.pointer none]) (h0 : J [] W) :
    CallsIn Fence.wide n Try.prog 36 #[.func (.yield l) #[] #[], .pointer (some ⟨Bb, 0, none⟩)] W fun e W' => (∃ v, e = .returned v) ∧ J [] W' := by
  refine callsIn_of_wp Try.func36 rfl trivial ?_ rfl
  simp only [Try.ntmps36, List.size_toArray, List.length_cons, List.length_nil, Nat.reduceAdd, Nat.reduceSub, Array.replicate_succ, Array.replicate_zero, List.push_toArray, List.append_toArray, List.nil_append, List.cons_append]
  have b0 := hBn.cell 0
  simp at b0
  gi_wp2
  refine bodyPost_ret (results_none rfl _ _ _) rfl ?_
  exact ⟨⟨_, rfl⟩, h0⟩
theorem qistops (n : Nat) (hn : 1 ≤ n) (Bb p B tb : Nat) (vf vb : Value) (f b : List Int) (w : World) (hBn : Blk w Bb tb #[.pointer (some ⟨p, 0, none⟩)]) (hR : QI w p B vf vb f b) (hfew : (f.reverse ++ b).length ≤ 100000) :
    SeqStopsK Fence.wide n Try.prog 36 #[.pointer (some ⟨Bb, 0, none⟩)] (fun x : Int => #[Value.int .i64 x]) (Same (InQ p Bb vf vb)) (fun ys => ys = f.reverse ++ b) (fun pre => pre <+: (f.reverse ++ b) ∧ pre ≠ []) (f.reverse ++ b).length w := fun l J Jx W hW hJ _ hY h0 =>
  (qiall1_in n hn l Bb p B tb vf vb f b _ rfl hfew J Jx hY W (hBn.later hW) (hR.up hW) h0).mono
    fun e W' ⟨he, h⟩ => ⟨he, h.imp id fun ⟨pre, h1, h2, h3⟩ => ⟨pre, ⟨h1, h2⟩, h3⟩⟩
theorem qistops_nil (n : Nat) (hn : 1 ≤ n) (Bb tb : Nat) (S : Nat → Prop) (w : World) (hBn : Blk w Bb tb #[.pointer none]) :
    SeqStopsK Fence.wide n Try.prog 36 #[.pointer (some ⟨Bb, 0, none⟩)] (fun x : Int => #[Value.int .i64 x]) (Same S) (fun ys => ys = []) (fun pre => pre <+: [] ∧ pre ≠ []) 0 w := fun l J Jx W hW hJ _ hY h0 =>
  (qiall1_nil n hn l Bb tb J W (hBn.later hW) h0).mono fun e W' ⟨he, h⟩ => ⟨he, .inl ⟨_, rfl, h⟩⟩
end Go.Proofs.Ytnikpgngaoaiiaa
