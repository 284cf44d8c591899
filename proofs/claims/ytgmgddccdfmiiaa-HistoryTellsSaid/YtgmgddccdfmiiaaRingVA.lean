/-
  Rings of decisions: All, List. Condition: none.
-/
import Derived.Test.YtgmgddccdfmiiaaRingVL
namespace Go.Fw
open Go.RowKit
theorem same_ownA {α : Type} {S : Nat → Prop} {B : Nat} (W0 : World) (hS : ∀ k, S k → k < B) : OwnFrom B (fun (_ : List α) W => Same S W0 W ∧ B ≤ W.heap.size) := fun s W W' row hs hg hr =>
  ⟨fun k hk => (hg.block k (by have := hS k hk; have := hs.2; omega) (fun e => by have := (hr k e.symm).1; have := hS k hk; omega)).trans (hs.1 k hk), Nat.le_trans hs.2 hg.size⟩
theorem cell_five_new (w : World) (t : TypeId) (x1 x2 x3 x4 x5 : Int) : ∀ (j : Nat) (u : Value), (Adv.cells ⟨x1, x2, x3, x4, x5⟩)[j]? = some u → (w.alloc (.cells #[.int .i64 x1, .int .i64 x2, .int .i64 x3, .int .i64 x4, .int .i64 x5] t)).cell? ((⟨w.heap.size, 0, none⟩ : Addr).add j) = some u := by
  intro j u hu
  rw [show (⟨w.heap.size, 0, none⟩ : Addr).add j = ⟨w.heap.size, j, none⟩ by unfold Addr.add; split <;> simp_all]
  rw [World.cell?_alloc_mark]
  simpa [Adv.cells] using hu
end Go.Fw
namespace Go.Proofs.Ytgmgddccdfmiiaa
open Go.RowKit Go.Shelf Go.Fw
set_option maxHeartbeats 2000000
set_option maxRecDepth 100000
set_option linter.unusedVariables false
set_option linter.unusedSimpArgs false
attribute [local go_sem] Oper.semAt_some
theorem vall1_in (n : Nat) (hn : 1 ≤ n) (l Bb p B tb : Nat) (sl : Value) (r : Rg Adv) (J Jx : List Adv → World → Prop)
    (hY : ∀ pre x W, J pre W → pre.length < r.list.length → YieldAt Fence.wide (n - 1) Try.prog l #[x.val] W fun e W' =>
      (e = .returned (.bool true) ∧ J (pre ++ [x]) W' ∧ Same (InRg p Bb sl) W W') ∨ (e = .returned (.bool false) ∧ Jx (pre ++ [x]) W'))
    (hJd : ∀ pre W W', J pre W → Below W.heap.size W W' → J pre W')
    (W : World) (hBn : Blk W Bb tb #[.pointer (some ⟨p, 0, none⟩)]) (hR : RgV W p B sl r) (h0 : J [] W) :
    CallsIn Fence.wide n Try.prog 65 #[.func (.yield l) #[] #[], .pointer (some ⟨Bb, 0, none⟩)] W fun e W' => (∃ v, e = .returned v) ∧
      ((∃ ys, ys = r.list ∧ J ys W') ∨ (∃ pre, pre <+: r.list ∧ pre ≠ [] ∧ Jx pre W')) := by
  have hll := Rg.length r
  have hroom := hR.ok.most
  have hfits := hR.ok.fits
  refine callsIn_of_wp Try.func65 rfl trivial ?_ rfl
  simp only [Try.ntmps65, List.size_toArray, List.length_cons, List.length_nil, Nat.reduceAdd, Nat.reduceSub, Array.replicate_succ, Array.replicate_zero, List.push_toArray, List.append_toArray, List.nil_append, List.cons_append]
  have b0 := hBn.cell 0
  simp at b0
  gi_wp2
  refine ⟨trivial, (callsIn_wide.2 (vlen_any p B sl r _ hR)).mono ?_⟩
  rintro e w' ⟨rfl, rfl⟩
  gi_wp2
  gi_loopw [8] (fun i wr => ∃ k : Nat, k ≤ r.items.length ∧ i = .int .i64 k ∧ J (r.list.take k) wr ∧ Same (InRg p Bb sl) W wr) (fun i _ => r.items.length - (intOf i).toNat)
  case atStart => exact ⟨0, Nat.zero_le _, rfl, by simpa using h0, Same.refl _ _⟩
  case round =>
    obtain ⟨k, hk, rfl, hJs, hS⟩ := hrel
    have hin := (hR.same hS).in_lt (Bb := Bb) (Blk.lt (show Blk wr Bb tb #[.pointer (some ⟨p, 0, none⟩)] from (hS Bb (.inr rfl)).trans hBn))
    by_cases hlt : k < r.items.length
    · have hkl : k < r.list.length := by omega
      have b1 : wr.cell? ⟨Bb, 0, none⟩ = some (.pointer (some ⟨p, 0, none⟩)) := by
        have hb1 : Blk wr Bb tb #[.pointer (some ⟨p, 0, none⟩)] := (hS Bb (.inr rfl)).trans hBn
        have := hb1.cell 0
        simpa using this
      have hat := vat_any p B sl r k wr (hR.same hS) hkl
      have hs : r.list.take (k + 1) = r.list.take k ++ [r.list[k]] := List.take_succ_eq_append_getElem hkl
      generalize r.list[k] = x at *
      gi_wp2
      refine ⟨trivial, (callsIn_wide.2 hat).mono ?_⟩
      rintro e w1 ⟨rfl, hb1⟩
      have hb2 : Below wr.heap.size wr (w1.alloc (.cells x.arr 53)) := sub_alloc hb1 _
      obtain ⟨fn, tmps, assign, body, hy, hRd⟩ := hY _ x _ (hJd _ _ _ hJs hb2) (by simp; omega)
      have bn := Blk.new_at w1 53 x.arr rfl
      have hS2 : Same (InRg p Bb sl) wr (w1.alloc (.cells x.arr 53)) := Same.of_below hb2 hin
      obtain ⟨x1, x2, x3, x4, x5⟩ := x
      obtain ⟨g0, g1, g2, g3, g4⟩ := bn.five
      unfold Adv.val Adv.arr at *
      simp only at *
      gi_wp2
      refine hRd.mono ?_
      rintro e W3 (⟨rfl, hJ3, hk3⟩ | ⟨rfl, hJx3⟩)
      · gi_wp2
        go_roundw
        case rel => exact ⟨k + 1, by omega, by simp, by rw [hs]; exact hJ3, hS.trans (hS2.trans hk3)⟩
        case measure => simp [intOf]; omega
      · gi_wp2
        refine bodyPost_ret (results_none rfl _ _ _) rfl ?_
        exact ⟨⟨_, rfl⟩, .inr ⟨_, ⟨r.list.drop (k + 1), by rw [← hs, List.take_append_drop]⟩, by simp, hJx3⟩⟩
    · obtain rfl : k = r.items.length := by omega
      rw [List.take_of_length_le (by omega)] at hJs
      gi_wp2
      go_end0
      exact ⟨⟨_, rfl⟩, .inl ⟨_, rfl, hJs⟩⟩
theorem vall_any (v : Option Addr) (w : World) : Calls Try.prog 63 #[.pointer v] w fun e w' => e = .returned (.func (.func 65) #[] #[.pointer (some ⟨w.heap.size, 0, none⟩)]) ∧ w.alloc (.cells #[.pointer v] 81) = w' := by
  go_enter Try.func63, Try.ntmps63
  go_wp2
  go_ret
  exact ⟨rfl, rfl⟩
theorem vstops (n : Nat) (hn : 1 ≤ n) (Bb p B tb : Nat) (sl : Value) (r : Rg Adv) (w : World) (hBn : Blk w Bb tb #[.pointer (some ⟨p, 0, none⟩)]) (hR : RgV w p B sl r) :
    SeqStopsK Fence.wide n Try.prog 65 #[.pointer (some ⟨Bb, 0, none⟩)] (fun x : Adv => #[x.val]) (Same (InRg p Bb sl)) (fun ys => ys = r.list) (fun pre => pre <+: r.list ∧ pre ≠ []) r.list.length w := fun l J Jx W hW hJ _ hY h0 =>
  (vall1_in n hn l Bb p B tb sl r J Jx hY (fun pre W1 W2 h hb => hJ pre W1 W2 none h ⟨hb.os, hb.tape, hb.output, hb.size, fun i hi _ => hb.block i hi⟩ (fun _ e => by cases e)) W (hBn.later hW) (hR.up hW) h0).mono
    fun e W' ⟨he, h⟩ => ⟨he, h.imp id fun ⟨pre, h1, h2, h3⟩ => ⟨pre, ⟨h1, h2⟩, h3⟩⟩
theorem vall1_nil (n : Nat) (hn : 1 ≤ n) (l Bb tb : Nat) (J : List Adv → World → Prop) (W : World) (hBn : Blk W Bb tb #[.pointer none]) (h0 : J [] W) :
    CallsIn Fence.wide n Try.prog 65 #[.func (.yield l) #[] #[], .pointer (some ⟨Bb, 0, none⟩)] W fun e W' => (∃ v, e = .returned v) ∧ J [] W' := by
  refine callsIn_of_wp Try.func65 rfl trivial ?_ rfl
  simp only [Try.ntmps65, List.size_toArray, List.length_cons, List.length_nil, Nat.reduceAdd, Nat.reduceSub, Array.replicate_succ, Array.replicate_zero, List.push_toArray, List.append_toArray, List.nil_append, List.cons_append]
  have b0 := hBn.cell 0
  simp at b0
  gi_wp2
  refine ⟨trivial, (callsIn_wide.2 (vlen_nil _)).mono ?_⟩
  rintro e w' ⟨rfl, rfl⟩
  gi_wp2
  gi_loopw [8] (fun i wr => i = .int .i64 0 ∧ J [] wr) (fun _ _ => 0)
  case atStart => exact ⟨rfl, h0⟩
  case round =>
    obtain ⟨rfl, hJs⟩ := hrel
    gi_wp2
    go_end0
    exact ⟨⟨_, rfl⟩, hJs⟩
theorem vstops_nil (n : Nat) (hn : 1 ≤ n) (Bb tb : Nat) (S : Nat → Prop) (w : World) (hBn : Blk w Bb tb #[.pointer none]) :
    SeqStopsK Fence.wide n Try.prog 65 #[.pointer (some ⟨Bb, 0, none⟩)] (fun x : Adv => #[x.val]) (Same S) (fun ys => ys = []) (fun pre => pre <+: [] ∧ pre ≠ []) 0 w := fun l J Jx W hW hJ _ hY h0 =>
  (vall1_nil n hn l Bb tb J W (hBn.later hW) h0).mono fun e W' ⟨he, h⟩ => ⟨he, .inl ⟨_, rfl, h⟩⟩
/-- the loop's variable -/
def AxV (N : Nat) (pt : Option Addr) (sz : Nat) (x : Adv) (a : Act) (W : World) : Prop :=
  ∃ b, N ≤ b ∧ b ≠ sz ∧ Blk W b 53 x.arr ∧ a = { tmps := #[.pointer pt, undef, .slice none 0 0, .pointer (some ⟨sz, 0, none⟩), .pointer (some ⟨b, 0, none⟩), .pointer pt, .func (.func 65) #[] #[.pointer (some ⟨sz + 1, 0, none⟩)], x.val, undef, undef, undef, undef, undef], defers := [] }
theorem vlist_of (pt : Option Addr) (S0 : Nat → Prop) (L : List Adv) (w : World) (hS0 : ∀ k, S0 k → k < w.heap.size) (hL : L.length ≤ 4096)
    (hst : SeqStopsK Fence.wide 2 Try.prog 65 #[.pointer (some ⟨w.heap.size + 1, 0, none⟩)] (fun x : Adv => #[x.val]) (Same (fun k => S0 k ∨ k = w.heap.size + 1)) (fun ys => ys = L) (fun pre => pre <+: L ∧ pre ≠ []) L.length
      ((w.alloc (.cells #[.slice none 0 0] 46)).alloc (.cells #[.pointer pt] 81))) :
    Calls Try.prog 56 #[.pointer pt] w fun e w' => ∃ v, e = .returned v ∧ MineS 5 w w' 53 v L.length (advs L) := by
  obtain ⟨i0, hi, hz0, hz1, hz2⟩ := info_parts elemAdvR.info
  refine (callsIn_wide (n := 3)).1 ?_
  refine callsIn_of_wp_marks Try.func56 rfl trivial ?_ rfl
  simp only [Try.ntmps56, List.size_toArray, List.length_cons, List.length_nil, Nat.reduceAdd, Nat.reduceSub, Array.replicate_succ, Array.replicate_zero, List.push_toArray, List.append_toArray, List.nil_append, List.cons_append]
  gi_wp2
  refine ⟨trivial, (callsIn_wide.2 (vall_any _ _)).mono ?_⟩
  rintro e w' ⟨rfl, rfl⟩
  gi_wp2
  have bO := Boxed.new w 46 (.slice none 0 0)
  have hB0 : Below w.heap.size w ((w.alloc (.cells #[.slice none 0 0] 46)).alloc (.cells #[.pointer pt] 81)) := ((Below.refl _ w).alloc (Nat.le_refl _) _).alloc (by simp) _
  have bN : Blk ((w.alloc (.cells #[.slice none 0 0] 46)).alloc (.cells #[.pointer pt] 81)) (w.heap.size + 1) 81 #[.pointer pt] := Blk.new_at _ _ _ (by simp)
  have hin : ∀ k, (S0 k ∨ k = w.heap.size + 1) → k < ((w.alloc (.cells #[.slice none 0 0] 46)).alloc (.cells #[.pointer pt] 81)).heap.size := by
    rintro k (hk | rfl)
    · have := hS0 k hk; simp; omega
    · simp
  have hinO : ∀ k, (S0 k ∨ k = w.heap.size + 1) → k ≠ w.heap.size := by
    rintro k (hk | rfl)
    · have := hS0 k hk; omega
    · omega
  refine wpIn_rangeFunc_ownH rfl (by decide) (gf := 65) (lb := #[.pointer (some ⟨w.heap.size + 1, 0, none⟩)]) rfl trivial (enters_of Try.func65 (by kernel_rfl) rfl)
    hst (fun h k => h.trans k) (fun W l o o' hl h1 h2 h3 => Same.put hin W l o o' hl h1 h2 h3) (Below.refl _ _) (fun _ => rfl)
    (fun pre W => ((∃ v, Boxed W w.heap.size 46 v ∧ W.ownsRow w.heap.size 53 5 v pre.length (advs pre) ∧ True) ∧ Below w.heap.size w W) ∧ (Same (fun k => S0 k ∨ k = w.heap.size + 1) ((w.alloc (.cells #[.slice none 0 0] 46)).alloc (.cells #[.pointer pt] 81)) W ∧ ((w.alloc (.cells #[.slice none 0 0] 46)).alloc (.cells #[.pointer pt] 81)).heap.size ≤ W.heap.size))
    (fun _ _ _ => False)
    (OwnFrom.and (OwnFrom.and (Own.from (holdsRow_own w.heap.size w.heap.size 46 53 5 (fun (pre : List Adv) => pre.length) (fun pre => advs pre) (fun _ _ => True)) _) (ownFrom_below (Nat.le_refl _) (by simp; omega))) (same_ownA _ hin))
    (fun _ _ _ _ _ hs _ _ => hs)
    ⟨⟨⟨_, bO.alloc _, World.ownsRow_nil _ _ _ _, trivial⟩, hB0⟩, Same.refl _ _, Nat.le_refl _⟩
    (AxV (w.heap.size + 2) pt w.heap.size) ?hAx ?assign ?body ?done ?stop
  case hAx =>
    rintro x a' _ W W' row ⟨b, h1, h2, hb, e⟩ hg hr
    refine ⟨b, h1, h2, (hg.block b hb.lt fun e2 => ?_).trans hb, e⟩
    obtain ⟨_, o, ho, hc⟩ := hr b e2.symm
    unfold Blk at hb
    rw [hb] at ho
    cases ho
    cases hc
  case assign =>
    intro l pre x W K hI hK
    obtain ⟨x1, x2, x3, x4, x5⟩ := x
    unfold Adv.val
    gi_wp2
    have hb2 : Below W.heap.size W (W.alloc (.cells (Adv.arr ⟨x1, x2, x3, x4, x5⟩) 53)) := sub_alloc (Below.refl _ _) _
    refine hK _ _ ((KeepsOthers.alloc W _).from _) (Same.of_below hb2 fun k hk => Nat.lt_of_lt_of_le (hin k hk) hI.2.2) ?_ ⟨W.heap.size, ?_, ?_, Blk.new_at W 53 (Adv.arr ⟨x1, x2, x3, x4, x5⟩) rfl, rfl⟩
    · obtain ⟨⟨⟨v, hv, hrow, _⟩, hBl⟩, hSm, hsz⟩ := hI
      exact ⟨⟨⟨v, hv.alloc _, hrow.alloc _, trivial⟩, hBl.alloc hBl.size _⟩, hSm.trans (Same.of_below hb2 fun k hk => Nat.lt_of_lt_of_le (hin k hk) hsz), Nat.le_trans hsz hb2.size⟩
    · have := hI.2.2; simp at this; omega
    · have := hI.2.2; simp at this; omega
  case body =>
    rintro l pre x a W _ _ ⟨⟨⟨v, hv, hrow, _⟩, hBl⟩, hSm, hsz⟩ ⟨b, hb1, hb2, hbb, rfl⟩ hlt
    have hc := hv.cell
    have hpl : pre.length < 4096 := by omega
    obtain ⟨Av, cv, rfl, _, _⟩ := own_form hrow
    obtain ⟨x1, x2, x3, x4, x5⟩ := x
    obtain ⟨g0, g1, g2, g3, g4⟩ := hbb.five
    simp only at g0 g1 g2 g3 g4
    clear hbb
    gi_wp2_with (gi_at_builtin; refine wpListIn_append_own _ rfl _ _ 46 rfl w.heap.size 53 i0 _ 5 40 elemAdvR.under hi hz0 hz1 hz2 rfl (by decide) _ _ _ rfl (hrow.alloc _) ⟨W.heap.size, 0, none⟩ 1 1 (Adv.cells ⟨x1, x2, x3, x4, x5⟩) rfl rfl (cell_five_new _ _ _ _ _ _ _) (by simp [Adv.cells, Value.oneCell']) (by unfold maxLen; omega) (by omega) (by have := hBl.size; simp; omega) ?_; intro v' w1 hown' hgrow _; obtain ⟨g', cap', rfl⟩ := ownsRow_succ hown'; obtain ⟨hv1, hv2, hr2, hk2, hb2⟩ := hv.appended (by decide) hrow hBl.size (Nat.le_refl _) hown' hgrow; have hc1 := hv1.cell; have hf1 := hv1.frozen)
    have hbB : Blk W (w.heap.size + 1) 81 #[.pointer pt] := (hSm _ (.inr rfl)).trans bN
    have hnB := own_ne hrow hbB (by decide)
    have hSame : Same (fun k => S0 k ∨ k = w.heap.size + 1) W (w1.setCell ⟨w.heap.size, 0, none⟩ (.slice (some ⟨g', 0, none⟩) (pre.length + 1) cap')) := by
      intro k hk
      have hkW : k < W.heap.size := Nat.lt_of_lt_of_le (hin k hk) hsz
      refine (Below.heap_setCell w1 _ _ k (hinO k hk)).trans ((hgrow.block k (by simp; omega) ?_).trans (Below.heap_alloc W _ k hkW))
      intro e
      have e2 : (Value.slice Av pre.length cv).ownBlock = some k := e.symm
      rcases hk with hk | rfl
      · have := (hrow.lt _ e2).1; have := hS0 k hk; omega
      · exact hnB e2
    exact ⟨hk2.from _, hSame, ⟨⟨⟨_, hv2, by simpa [advs] using hr2, trivial⟩, hBl.trans hb2⟩, hSm.trans hSame, Nat.le_trans hsz hk2.size⟩⟩
  case done =>
    rintro D ys W hD rfl ⟨⟨⟨v, hv, hrow, _⟩, hBl⟩, _⟩ hK
    have hc := hv.cell
    gi_wp2
    refine ⟨by simp, .inl ⟨_, _, rfl, run_takeDeferred hK, ?_⟩⟩
    exact ⟨_, results_tmp rfl _ _ _, v, rfl, ownsRow_putObj hrow _ hK rfl, hBl.trans (belowK_b (w := w) (Nat.le_refl _) W D _ _ (by simp at hD; omega) hK rfl rfl)⟩
  case stop =>
    rintro D c pre W _ _ h _
    exact h.elim
theorem vlist_nil (w : World) : Calls Try.prog 56 #[.pointer none] w fun e w' => ∃ v, e = .returned v ∧ MineS 5 w w' 53 v 0 (advs []) :=
  vlist_of none (fun _ => False) [] w (fun _ h => h.elim) (by simp) (vstops_nil 2 (by decide) _ 81 _ _ (Blk.new_at _ _ _ (by simp)))
theorem vlist_any (p B : Nat) (sl : Value) (r : Rg Adv) (w : World) (hR : RgV w p B sl r) :
    Calls Try.prog 56 #[.pointer (some ⟨p, 0, none⟩)] w fun e w' => ∃ v, e = .returned v ∧ MineS 5 w w' 53 v r.list.length (advs r.list) := by
  have hB0 : Below w.heap.size w ((w.alloc (.cells #[.slice none 0 0] 46)).alloc (.cells #[.pointer (some ⟨p, 0, none⟩)] 81)) := ((Below.refl _ w).alloc (Nat.le_refl _) _).alloc (by simp) _
  have hll := Rg.length r
  have hroom := hR.ok.most
  have hfits := hR.ok.fits
  refine vlist_of _ (fun k => k = p ∨ sl.ownBlock = some k) r.list w ?_ (by omega) (vstops 2 (by decide) (w.heap.size + 1) p B 81 sl r _ (Blk.new_at _ _ _ (by simp)) (hR.up hB0))
  rintro k (rfl | hk)
  · exact hR.blk.lt
  · exact (hR.own.lt k hk).2
end Go.Proofs.Ytgmgddccdfmiiaa
