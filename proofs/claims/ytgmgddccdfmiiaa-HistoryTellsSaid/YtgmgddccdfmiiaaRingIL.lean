/-
  Rings of numbers, one by one: All, List, Clone. Condition: none.
-/
import Derived.Test.YtgmgddccdfmiiaaRingI
import Derived.RangeFuncNested
import Derived.RangeFuncBound
import Derived.RangeFuncCalls
import Derived.RangeFuncLeaves
import Derived.RangeFuncBox
import Derived.Shelf.Abstract
import Derived.OwnWalkIn
import Derived.TacticsInMore
import Derived.LoopNIn
import Derived.LoopIn
namespace Go.Fw
open Go.RowKit
set_option linter.unusedVariables false
/-- some blocks lie as they lay -/
def Same (S : Nat → Prop) (W W' : World) : Prop := ∀ k, S k → W'.heap[k]? = W.heap[k]?
theorem Same.refl (S : Nat → Prop) (W : World) : Same S W W := fun _ _ => rfl
theorem Same.trans {S : Nat → Prop} {A B C : World} (h : Same S A B) (k : Same S B C) : Same S A C := fun j hj => (k j hj).trans (h j hj)
theorem Same.put {S : Nat → Prop} {n : Nat} (hS : ∀ k, S k → k < n) (W : World) (l : Nat) (o o' : Obj) (hl : n ≤ l) (_ : W.heap[l]? = some o) (_ : o.isCells = false) (_ : o.isWalk = false) : Same S W (W.putObj l o') := fun k hk => World.putObj_heap_other (fun e => by have := hS k hk; omega)
theorem Same.of_below {S : Nat → Prop} {B : Nat} {W W' : World} (hb : Below B W W') (hS : ∀ k, S k → k < B) : Same S W W' := fun k hk => hb.block k (hS k hk)
theorem same_own {S : Nat → Prop} {B : Nat} (W0 : World) (hS : ∀ k, S k → k < B) : OwnFrom B (fun (_ : List Int) W => Same S W0 W ∧ B ≤ W.heap.size) := fun s W W' row hs hg hr =>
  ⟨fun k hk => (hg.block k (by have := hS k hk; have := hs.2; omega) (fun e => by have := (hr k e.symm).1; have := hS k hk; omega)).trans (hs.1 k hk), Nat.le_trans hs.2 hg.size⟩
/-- where a ring and its array lie, and the variable that leads to it -/
def InRg (p Bb : Nat) (sl : Value) (k : Nat) : Prop := (k = p ∨ sl.ownBlock = some k) ∨ k = Bb
theorem RgAt.same {α : Type} {cells : List α → List Value} {s : Nat} {T e : TypeId} {w w' : World} {p B Bb : Nat} {sl : Value} {r : Rg α} (h : RgAt cells s T e w p B sl r) (hS : Same (InRg p Bb sl) w w') : RgAt cells s T e w' p B sl r := by
  refine ⟨(hS p (.inl (.inl rfl))).trans h.blk, ⟨h.own.1, ?_⟩, h.ok⟩
  rcases h.own.2 with h2 | ⟨g, cap, cur, rfl, hB, hh, h3⟩
  · exact .inl h2
  · exact .inr ⟨g, cap, cur, rfl, hB, (hS g (.inl (.inr rfl))).trans hh, h3⟩
theorem RgAt.in_lt {α : Type} {cells : List α → List Value} {s : Nat} {T e : TypeId} {w : World} {p B Bb : Nat} {sl : Value} {r : Rg α} (h : RgAt cells s T e w p B sl r) (hb : Bb < w.heap.size) : ∀ k, InRg p Bb sl k → k < w.heap.size := by
  rintro k ((rfl | hk) | rfl)
  · exact h.blk.lt
  · exact (h.own.lt k hk).2
  · exact hb
end Go.Fw
namespace Go.Proofs.Ytgmgddccdfmiiaa
open Go.RowKit Go.Shelf Go.Fw
set_option maxHeartbeats 2000000
set_option maxRecDepth 100000
set_option linter.unusedVariables false
set_option linter.unusedSimpArgs false
attribute [local go_sem] Oper.semAt_some
theorem iall1_in (n : Nat) (hn : 1 ≤ n) (l Bb p B tb : Nat) (sl : Value) (r : Rg Int) (J Jx : List Int → World → Prop)
    (hY : ∀ pre x W, J pre W → pre.length < r.list.length → YieldAt Fence.wide (n - 1) Try.prog l #[.int .i64 x] W fun e W' =>
      (e = .returned (.bool true) ∧ J (pre ++ [x]) W' ∧ Same (InRg p Bb sl) W W') ∨ (e = .returned (.bool false) ∧ Jx (pre ++ [x]) W'))
    (hJd : ∀ pre W, J pre W → J pre W.drew)
    (W : World) (hBn : Blk W Bb tb #[.pointer (some ⟨p, 0, none⟩)]) (hR : RgI W p B sl r) (h0 : J [] W) :
    CallsIn Fence.wide n Try.prog 58 #[.func (.yield l) #[] #[], .pointer (some ⟨Bb, 0, none⟩)] W fun e W' => (∃ v, e = .returned v) ∧
      ((∃ ys, ys = r.list ∧ J ys W') ∨ (∃ pre, pre <+: r.list ∧ pre ≠ [] ∧ Jx pre W')) := by
  have hll := Rg.length r
  have hroom := hR.ok.most
  have hfits := hR.ok.fits
  refine callsIn_of_wp Try.func58 rfl trivial ?_ rfl
  simp only [Try.ntmps58, List.size_toArray, List.length_cons, List.length_nil, Nat.reduceAdd, Nat.reduceSub, Array.replicate_succ, Array.replicate_zero, List.push_toArray, List.append_toArray, List.nil_append, List.cons_append]
  have b0 := hBn.cell 0
  simp at b0
  gi_wp2
  refine ⟨trivial, (callsIn_wide.2 (ilen_any p B sl r _ hR)).mono ?_⟩
  rintro e w' ⟨rfl, rfl⟩
  gi_wp2
  gi_loopw [8] (fun i wr => ∃ k : Nat, k ≤ r.items.length ∧ i = .int .i64 k ∧ J (r.list.take k) wr ∧ Same (InRg p Bb sl) W wr) (fun i _ => r.items.length - (intOf i).toNat)
  case atStart => exact ⟨0, Nat.zero_le _, rfl, by simpa using h0, Same.refl _ _⟩
  case round =>
    obtain ⟨k, hk, rfl, hJs, hS⟩ := hrel
    by_cases hlt : k < r.items.length
    · have hkl : k < r.list.length := by omega
      have b1 : wr.cell? ⟨Bb, 0, none⟩ = some (.pointer (some ⟨p, 0, none⟩)) := by
        have hb1 : Blk wr Bb tb #[.pointer (some ⟨p, 0, none⟩)] := (hS Bb (.inr rfl)).trans hBn
        have := hb1.cell 0
        simpa using this
      have hat := iat_any p B sl r k wr (hR.same hS) hkl
      have hs : r.list.take (k + 1) = r.list.take k ++ [r.list[k]] := List.take_succ_eq_append_getElem hkl
      obtain ⟨fn, tmps, assign, body, hy, hRd⟩ := hY _ r.list[k] wr.drew (hJd _ _ hJs) (by simp; omega)
      generalize r.list[k] = x at *
      gi_wp2
      refine ⟨trivial, (callsIn_wide.2 hat).mono ?_⟩
      rintro e w' ⟨rfl, rfl⟩
      gi_wp2
      refine hRd.mono ?_
      rintro e W3 (⟨rfl, hJ3, hk3⟩ | ⟨rfl, hJx3⟩)
      · gi_wp2
        go_roundw
        case rel => exact ⟨k + 1, by omega, by simp, by rw [hs]; exact hJ3, hS.trans hk3⟩
        case measure => simp [intOf]; omega
      · gi_wp2
        refine bodyPost_ret (results_none rfl _ _ _) rfl ?_
        exact ⟨⟨_, rfl⟩, .inr ⟨_, ⟨r.list.drop (k + 1), by rw [← hs, List.take_append_drop]⟩, by simp, hJx3⟩⟩
    · obtain rfl : k = r.items.length := by omega
      rw [List.take_of_length_le (by omega)] at hJs
      gi_wp2
      go_end0
      exact ⟨⟨_, rfl⟩, .inl ⟨_, rfl, hJs⟩⟩
theorem iall_any (v : Option Addr) (w : World) : Calls Try.prog 46 #[.pointer v] w fun e w' => e = .returned (.func (.func 58) #[] #[.pointer (some ⟨w.heap.size, 0, none⟩)]) ∧ w.alloc (.cells #[.pointer v] 35) = w' := by
  go_enter Try.func46, Try.ntmps46
  go_wp2
  go_ret
  exact ⟨rfl, rfl⟩
theorem istops (n : Nat) (hn : 1 ≤ n) (Bb p B tb : Nat) (sl : Value) (r : Rg Int) (w : World) (hBn : Blk w Bb tb #[.pointer (some ⟨p, 0, none⟩)]) (hR : RgI w p B sl r) :
    SeqStopsK Fence.wide n Try.prog 58 #[.pointer (some ⟨Bb, 0, none⟩)] (fun x : Int => #[Value.int .i64 x]) (Same (InRg p Bb sl)) (fun ys => ys = r.list) (fun pre => pre <+: r.list ∧ pre ≠ []) r.list.length w := fun l J Jx W hW hJ _ hY h0 =>
  (iall1_in n hn l Bb p B tb sl r J Jx hY (fun pre W1 h => hJ pre W1 _ none h ⟨rfl, rfl, rfl, Nat.le_refl _, fun _ _ _ => rfl⟩ (fun _ e => by cases e)) W (hBn.later hW) (hR.up hW) h0).mono
    fun e W' ⟨he, h⟩ => ⟨he, h.imp id fun ⟨pre, h1, h2, h3⟩ => ⟨pre, ⟨h1, h2⟩, h3⟩⟩
theorem iall1_nil (n : Nat) (hn : 1 ≤ n) (l Bb tb : Nat) (J : List Int → World → Prop) (W : World) (hBn : Blk W Bb tb #[.pointer none]) (h0 : J [] W) :
    CallsIn Fence.wide n Try.prog 58 #[.func (.yield l) #[] #[], .pointer (some ⟨Bb, 0, none⟩)] W fun e W' => (∃ v, e = .returned v) ∧ J [] W' := by
  refine callsIn_of_wp Try.func58 rfl trivial ?_ rfl
  simp only [Try.ntmps58, List.size_toArray, List.length_cons, List.length_nil, Nat.reduceAdd, Nat.reduceSub, Array.replicate_succ, Array.replicate_zero, List.push_toArray, List.append_toArray, List.nil_append, List.cons_append]
  have b0 := hBn.cell 0
  simp at b0
  gi_wp2
  refine ⟨trivial, (callsIn_wide.2 (ilen_nil _)).mono ?_⟩
  rintro e w' ⟨rfl, rfl⟩
  gi_wp2
  gi_loopw [8] (fun i wr => i = .int .i64 0 ∧ J [] wr) (fun _ _ => 0)
  case atStart => exact ⟨rfl, h0⟩
  case round =>
    obtain ⟨rfl, hJs⟩ := hrel
    gi_wp2
    go_end0
    exact ⟨⟨_, rfl⟩, hJs⟩
theorem istops_nil (n : Nat) (hn : 1 ≤ n) (Bb tb : Nat) (S : Nat → Prop) (w : World) (hBn : Blk w Bb tb #[.pointer none]) :
    SeqStopsK Fence.wide n Try.prog 58 #[.pointer (some ⟨Bb, 0, none⟩)] (fun x : Int => #[Value.int .i64 x]) (Same S) (fun ys => ys = []) (fun pre => pre <+: [] ∧ pre ≠ []) 0 w := fun l J Jx W hW hJ _ hY h0 =>
  (iall1_nil n hn l Bb tb J W (hBn.later hW) h0).mono fun e W' ⟨he, h⟩ => ⟨he, .inl ⟨_, rfl, h⟩⟩
theorem ilist_of (pt : Option Addr) (S0 : Nat → Prop) (L : List Int) (w : World) (hS0 : ∀ k, S0 k → k < w.heap.size) (hL : L.length ≤ 4096)
    (hst : SeqStopsK Fence.wide 2 Try.prog 58 #[.pointer (some ⟨w.heap.size + 1, 0, none⟩)] (fun x : Int => #[Value.int .i64 x]) (Same (fun k => S0 k ∨ k = w.heap.size + 1)) (fun ys => ys = L) (fun pre => pre <+: L ∧ pre ≠ []) L.length
      ((w.alloc (.cells #[.slice none 0 0] 34)).alloc (.cells #[.pointer pt] 35))) :
    Calls Try.prog 19 #[.pointer pt] w fun e w' => ∃ v, e = .returned v ∧ MineS 1 w w' 3 v L.length (i64s L) := by
  obtain ⟨i0, hi, hz0, hz1, hz2⟩ := info_parts elemIntR.info
  refine (callsIn_wide (n := 3)).1 ?_
  refine callsIn_of_wp_marks Try.func19 rfl trivial ?_ rfl
  simp only [Try.ntmps19, List.size_toArray, List.length_cons, List.length_nil, Nat.reduceAdd, Nat.reduceSub, Array.replicate_succ, Array.replicate_zero, List.push_toArray, List.append_toArray, List.nil_append, List.cons_append]
  gi_wp2
  refine ⟨trivial, (callsIn_wide.2 (iall_any _ _)).mono ?_⟩
  rintro e w' ⟨rfl, rfl⟩
  gi_wp2
  have bO := Boxed.new w 34 (.slice none 0 0)
  have hB0 : Below w.heap.size w ((w.alloc (.cells #[.slice none 0 0] 34)).alloc (.cells #[.pointer pt] 35)) := ((Below.refl _ w).alloc (Nat.le_refl _) _).alloc (by simp) _
  have bN : Blk ((w.alloc (.cells #[.slice none 0 0] 34)).alloc (.cells #[.pointer pt] 35)) (w.heap.size + 1) 35 #[.pointer pt] := Blk.new_at _ _ _ (by simp)
  have hin : ∀ k, (S0 k ∨ k = w.heap.size + 1) → k < ((w.alloc (.cells #[.slice none 0 0] 34)).alloc (.cells #[.pointer pt] 35)).heap.size := by
    rintro k (hk | rfl)
    · have := hS0 k hk; simp; omega
    · simp
  have hinO : ∀ k, (S0 k ∨ k = w.heap.size + 1) → k ≠ w.heap.size := by
    rintro k (hk | rfl)
    · have := hS0 k hk; omega
    · omega
  refine wpIn_rangeFunc_ownG rfl (by decide) (gf := 58) (lb := #[.pointer (some ⟨w.heap.size + 1, 0, none⟩)]) rfl trivial (enters_of Try.func58 (by kernel_rfl) rfl)
    hst (fun h k => h.trans k) (fun W l o o' hl h1 h2 h3 => Same.put hin W l o o' hl h1 h2 h3) (Below.refl _ _) (fun _ => rfl)
    (fun pre W => ((∃ v, Boxed W w.heap.size 34 v ∧ W.ownsRow w.heap.size 3 1 v pre.length (i64s pre) ∧ True) ∧ Below w.heap.size w W) ∧ (Same (fun k => S0 k ∨ k = w.heap.size + 1) ((w.alloc (.cells #[.slice none 0 0] 34)).alloc (.cells #[.pointer pt] 35)) W ∧ ((w.alloc (.cells #[.slice none 0 0] 34)).alloc (.cells #[.pointer pt] 35)).heap.size ≤ W.heap.size))
    (fun _ _ _ => False)
    (OwnFrom.and (OwnFrom.and (Own.from (holdsRow_own w.heap.size w.heap.size 34 3 1 (fun (pre : List Int) => pre.length) (fun pre => i64s pre) (fun _ _ => True)) _) (ownFrom_below (Nat.le_refl _) (by simp; omega))) (same_own _ hin))
    (fun _ _ _ _ _ hs _ _ => hs)
    ⟨⟨⟨_, bO.alloc _, World.ownsRow_nil _ _ _ _, trivial⟩, hB0⟩, Same.refl _ _, Nat.le_refl _⟩
    (fun x => { tmps := #[.pointer pt, undef, .slice none 0 0, .pointer (some ⟨w.heap.size, 0, none⟩), .int .i64 x, .pointer pt, .func (.func 58) #[] #[.pointer (some ⟨w.heap.size + 1, 0, none⟩)], .int .i64 x, undef, undef, undef, undef, undef], defers := [] }) ?assign ?body ?done ?stop
  case assign =>
    intro l x W K hK
    gi_wp2
    exact hK
  case body =>
    rintro l pre x W ⟨⟨⟨v, hv, hrow, _⟩, hBl⟩, hSm, hsz⟩ hlt
    have hc := hv.cell
    have hpl : pre.length < 4096 := by omega
    obtain ⟨Av, cv, rfl, _, _⟩ := own_form hrow
    gi_wp2_with (gi_at_builtin; refine wpListIn_append_own _ rfl _ _ 34 rfl w.heap.size 3 i0 (.int .i64 0) 1 8 elemIntR.under hi hz0 hz1 hz2 rfl (by decide) _ _ _ rfl (hrow.alloc _) ⟨W.heap.size, 0, none⟩ 1 1 [.int .i64 x] rfl rfl (cell_one_new _ _ _) (by simp [Value.oneCell']) (by unfold maxLen; omega) (by omega) (by have := hBl.size; simp; omega) ?_; intro v' w1 hown' hgrow _; obtain ⟨g', cap', rfl⟩ := ownsRow_succ hown'; obtain ⟨hv1, hv2, hr2, hk2, hb2⟩ := hv.appended (by decide) hrow hBl.size (Nat.le_refl _) hown' hgrow; have hc1 := hv1.cell; have hf1 := hv1.frozen)
    have hbB : Blk W (w.heap.size + 1) 35 #[.pointer pt] := (hSm _ (.inr rfl)).trans bN
    have hnB := own_ne hrow hbB (by decide)
    have hSame : Same (fun k => S0 k ∨ k = w.heap.size + 1) W (w1.setCell ⟨w.heap.size, 0, none⟩ (.slice (some ⟨g', 0, none⟩) (pre.length + 1) cap')) := by
      intro k hk
      have hkW : k < W.heap.size := Nat.lt_of_lt_of_le (hin k hk) hsz
      refine (Below.heap_setCell w1 _ _ k (hinO k hk)).trans ((hgrow.block k (by simp; omega) ?_).trans (Below.heap_alloc W _ k hkW))
      intro e
      have e2 : (Value.slice Av pre.length cv).ownBlock = some k := e.symm
      rcases hk with hk | rfl
      · have := (hrow.lt _ e2).1; have := hS0 k hk; omega
      · exact hnB e2
    exact ⟨hk2.from _, hSame, ⟨⟨⟨_, hv2, by simpa [i64s] using hr2, trivial⟩, hBl.trans hb2⟩, hSm.trans hSame, Nat.le_trans hsz hk2.size⟩⟩
  case done =>
    rintro D ys W hD rfl ⟨⟨⟨v, hv, hrow, _⟩, hBl⟩, _⟩ hK
    have hc := hv.cell
    gi_wp2
    refine ⟨by simp, .inl ⟨_, _, rfl, run_takeDeferred hK, ?_⟩⟩
    exact ⟨_, results_tmp rfl _ _ _, v, rfl, ownsRow_putObj hrow _ hK rfl, hBl.trans (belowK_b (w := w) (Nat.le_refl _) W D _ _ (by simp at hD; omega) hK rfl rfl)⟩
  case stop =>
    rintro D c pre W _ _ h _
    exact h.elim
theorem ilist_nil (w : World) : Calls Try.prog 19 #[.pointer none] w fun e w' => ∃ v, e = .returned v ∧ MineS 1 w w' 3 v 0 (i64s []) :=
  ilist_of none (fun _ => False) [] w (fun _ h => h.elim) (by simp) (istops_nil 2 (by decide) _ 35 _ _ (Blk.new_at _ _ _ (by simp)))
theorem ilist_any (p B : Nat) (sl : Value) (r : Rg Int) (w : World) (hR : RgI w p B sl r) :
    Calls Try.prog 19 #[.pointer (some ⟨p, 0, none⟩)] w fun e w' => ∃ v, e = .returned v ∧ MineS 1 w w' 3 v r.list.length (i64s r.list) := by
  have hB0 : Below w.heap.size w ((w.alloc (.cells #[.slice none 0 0] 34)).alloc (.cells #[.pointer (some ⟨p, 0, none⟩)] 35)) := ((Below.refl _ w).alloc (Nat.le_refl _) _).alloc (by simp) _
  have hll := Rg.length r
  have hroom := hR.ok.most
  have hfits := hR.ok.fits
  refine ilist_of _ (fun k => k = p ∨ sl.ownBlock = some k) r.list w ?_ (by omega) (istops 2 (by decide) (w.heap.size + 1) p B 35 sl r _ (Blk.new_at _ _ _ (by simp)) (hR.up hB0))
  rintro k (rfl | hk)
  · exact hR.blk.lt
  · exact (hR.own.lt k hk).2
end Go.Proofs.Ytgmgddccdfmiiaa
