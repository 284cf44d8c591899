/-
  Queues of numbers: Collect, List. Condition: none.
-/
import Derived.Test.YtnikpgngaoaiiaaFifoL
namespace Go.Proofs.Ytnikpgngaoaiiaa
open Go.RowKit Go.Shelf Go.Fw
set_option maxHeartbeats 2000000
set_option maxRecDepth 100000
set_option linter.unusedVariables false
set_option linter.unusedSimpArgs false
attribute [local go_sem] Oper.semAt_some
theorem iapseq_of (Bb : Nat) (S : Nat → Prop) (L : List Int) (w : World) (hS0 : ∀ k, S k → k < w.heap.size) (hBb : S Bb) (tb : TypeId) (ht : 3 ≠ tb) (cb : Array Value) (hblk : Blk w Bb tb cb) (hL : L.length ≤ 100000)
    (hst : SeqStopsK Fence.wide 2 Try.prog 36 #[.pointer (some ⟨Bb, 0, none⟩)] (fun x : Int => #[Value.int .i64 x]) (Same S) (fun ys => ys = L) (fun pre => pre <+: L ∧ pre ≠ []) L.length (w.alloc (.cells #[.slice none 0 0] 24))) :
    Calls Try.prog 37 #[.slice none 0 0, .func (.func 36) #[] #[.pointer (some ⟨Bb, 0, none⟩)]] w fun e w' => ∃ v, e = .returned v ∧ MineS 1 w w' 3 v L.length (i64s L) := by
  obtain ⟨i0, hi, hz0, hz1, hz2⟩ := info_parts elemIntQ.info
  refine (callsIn_wide (n := 3)).1 ?_
  refine callsIn_of_wp_marks Try.func37 rfl trivial ?_ rfl
  simp only [Try.ntmps37, List.size_toArray, List.length_cons, List.length_nil, Nat.reduceAdd, Nat.reduceSub, Array.replicate_succ, Array.replicate_zero, List.push_toArray, List.append_toArray, List.nil_append, List.cons_append]
  gi_wp2
  have bO := Boxed.new w 24 (.slice none 0 0)
  have hB0 : Below w.heap.size w (w.alloc (.cells #[.slice none 0 0] 24)) := (Below.refl _ w).alloc (Nat.le_refl _) _
  have hin : ∀ k, S k → k < (w.alloc (.cells #[.slice none 0 0] 24)).heap.size := fun k hk => by have := hS0 k hk; simp; omega
  have hinO : ∀ k, S k → k ≠ w.heap.size := fun k hk => by have := hS0 k hk; omega
  refine wpIn_rangeFunc_ownG rfl (by decide) (gf := 36) (lb := #[.pointer (some ⟨Bb, 0, none⟩)]) rfl trivial (enters_of Try.func36 (by kernel_rfl) rfl)
    hst (fun h k => h.trans k) (fun W l o o' hl h1 h2 h3 => Same.put hin W l o o' hl h1 h2 h3) (Below.refl _ _) (fun _ => rfl)
    (fun pre W => ((∃ v, Boxed W w.heap.size 24 v ∧ W.ownsRow w.heap.size 3 1 v pre.length (i64s pre) ∧ True) ∧ Below w.heap.size w W) ∧ (Same S (w.alloc (.cells #[.slice none 0 0] 24)) W ∧ (w.alloc (.cells #[.slice none 0 0] 24)).heap.size ≤ W.heap.size))
    (fun _ _ _ => False)
    (OwnFrom.and (OwnFrom.and (Own.from (holdsRow_own w.heap.size w.heap.size 24 3 1 (fun (pre : List Int) => pre.length) (fun pre => i64s pre) (fun _ _ => True)) _) (ownFrom_below (Nat.le_refl _) (by simp))) (same_ownT _ hin))
    (fun _ _ _ _ _ hs _ _ => hs)
    ⟨⟨⟨_, bO, World.ownsRow_nil _ _ _ _, trivial⟩, hB0⟩, Same.refl _ _, Nat.le_refl _⟩
    (fun x => { tmps := #[.slice none 0 0, .func (.func 36) #[] #[.pointer (some ⟨Bb, 0, none⟩)], .pointer (some ⟨w.heap.size, 0, none⟩), undef, .slice none 0 0, .int .i64 x, .func (.func 36) #[] #[.pointer (some ⟨Bb, 0, none⟩)], .int .i64 x, undef, undef, undef, undef, undef], defers := [] }) ?assign ?body ?done ?stop
  case assign =>
    intro l x W K hK
    gi_wp2
    exact hK
  case body =>
    rintro l pre x W ⟨⟨⟨v, hv, hrow, _⟩, hBl⟩, hSm, hsz⟩ hlt
    have hc := hv.cell
    have hpl : pre.length < 100000 := by omega
    obtain ⟨Av, cv, rfl, _, _⟩ := own_form hrow
    gi_wp2_with (gi_at_builtin; refine wpListIn_append_own _ rfl _ _ 24 rfl w.heap.size 3 i0 (.int .i64 0) 1 8 elemIntQ.under hi hz0 hz1 hz2 rfl (by decide) _ _ _ rfl (hrow.alloc _) ⟨W.heap.size, 0, none⟩ 1 1 [.int .i64 x] rfl rfl (cell_one_new _ _ _) (by simp [Value.oneCell']) (by unfold maxLen; omega) (by omega) (by have := hBl.size; simp; omega) ?_; intro v' w1 hown' hgrow _; obtain ⟨g', cap', rfl⟩ := ownsRow_succ hown'; obtain ⟨hv1, hv2, hr2, hk2, hb2⟩ := hv.appended (by decide) hrow hBl.size (Nat.le_refl _) hown' hgrow; have hc1 := hv1.cell; have hf1 := hv1.frozen)
    have hbB : Blk W Bb tb cb := (hSm _ hBb).trans (hblk.alloc _)
    have hnB := own_ne hrow hbB ht
    have hSame : Same S W (w1.setCell ⟨w.heap.size, 0, none⟩ (.slice (some ⟨g', 0, none⟩) (pre.length + 1) cap')) := by
      intro k hk
      have hkW : k < W.heap.size := Nat.lt_of_lt_of_le (hin k hk) hsz
      refine (Below.heap_setCell w1 _ _ k (hinO k hk)).trans ((hgrow.block k (by simp; omega) ?_).trans (Below.heap_alloc W _ k hkW))
      intro e
      have e2 : (Value.slice Av pre.length cv).ownBlock = some k := e.symm
      have := (hrow.lt _ e2).1
      have := hS0 k hk
      omega
    exact ⟨hk2.from _, hSame, ⟨⟨⟨_, hv2, by simpa [i64s] using hr2, trivial⟩, hBl.trans hb2⟩, hSm.trans hSame, Nat.le_trans hsz hk2.size⟩⟩
  case done =>
    rintro D ys W hD rfl ⟨⟨⟨v, hv, hrow, _⟩, hBl⟩, _⟩ hK
    have hc := hv.cell
    gi_wp2
    refine ⟨by simp, .inl ⟨_, _, rfl, run_takeDeferred hK, ?_⟩⟩
    exact ⟨_, results_tmp rfl _ _ _, v, rfl, ownsRow_putObj hrow _ hK rfl, hBl.trans (belowK_b (w := w) (Nat.le_refl _) W D _ _ (by simp at hD; omega) hK rfl rfl)⟩
  case stop =>
    rintro D c pre W _ _ h _
    exact h.elim
theorem icoll_of (Bb : Nat) (S : Nat → Prop) (L : List Int) (w : World) (hS0 : ∀ k, S k → k < w.heap.size) (hBb : S Bb) (tb : TypeId) (ht : 3 ≠ tb) (cb : Array Value) (hblk : Blk w Bb tb cb) (hL : L.length ≤ 100000)
    (hst : SeqStopsK Fence.wide 2 Try.prog 36 #[.pointer (some ⟨Bb, 0, none⟩)] (fun x : Int => #[Value.int .i64 x]) (Same S) (fun ys => ys = L) (fun pre => pre <+: L ∧ pre ≠ []) L.length (w.alloc (.cells #[.slice none 0 0] 24))) :
    Calls Try.prog 27 #[.func (.func 36) #[] #[.pointer (some ⟨Bb, 0, none⟩)]] w fun e w' => ∃ v, e = .returned v ∧ MineS 1 w w' 3 v L.length (i64s L) := by
  have HC := Lib.hid (iapseq_of Bb S L w hS0 hBb tb ht cb hblk hL hst)
  clear hst hblk
  go_enter Try.func27, Try.ntmps27
  go_wp2_with fail
  refine HC.out.mono ?_
  rintro e w' ⟨v, rfl, hm⟩
  have HM := Lib.hid hm
  clear hm
  go_wp2
  go_ret
  exact ⟨v, rfl, HM.out⟩
theorem qilist_any (p B : Nat) (S : Nat → Prop) (L : List Int) (w : World) (h : QIHas w p B S L) (hl : L.length ≤ 100000) :
    Calls Try.prog 13 #[.pointer (some ⟨p, 0, none⟩)] w fun e w' => ∃ v, e = .returned v ∧ MineS 1 w w' 3 v L.length (i64s L) := by
  obtain ⟨vf, vb, f, b, hq, rfl, rfl⟩ := h
  have hb1 : Below w.heap.size w (w.alloc (.cells #[.pointer (some ⟨p, 0, none⟩)] 50)) := sub_alloc (Below.refl _ w) _
  have hbn : Blk (w.alloc (.cells #[.pointer (some ⟨p, 0, none⟩)] 50)) w.heap.size 50 #[.pointer (some ⟨p, 0, none⟩)] := Blk.new_at _ _ _ rfl
  have hq1 := hq.up hb1
  have hcol := icoll_of w.heap.size (InQ p w.heap.size vf vb) (f.reverse ++ b) (w.alloc (.cells #[.pointer (some ⟨p, 0, none⟩)] 50)) (by
      rintro k (hk | rfl)
      · have := hq.lt k hk; simp; omega
      · simp) (.inr rfl) 50 (by decide) _ hbn hl (qistops 2 (by decide) w.heap.size p B 50 vf vb f b _ (hbn.alloc _) (hq1.up (sub_alloc (Below.refl _ _) _)) hl)
  have HC := Lib.hid (And.intro hcol hb1)
  clear hcol hb1 hbn hq1 hq
  go_enter Try.func13, Try.ntmps13
  go_wp2_with fail
  refine (qiall_any _ _).mono ?_
  rintro e w1 ⟨rfl, rfl⟩
  go_wp2_with fail
  refine HC.out.1.mono ?_
  rintro e w' ⟨v, rfl, hm⟩
  have HM := Lib.hid (hm.lower HC.out.2)
  clear hm
  go_wp2
  go_ret
  exact ⟨v, rfl, HM.out⟩
theorem qilist_nil (w : World) : Calls Try.prog 13 #[.pointer none] w fun e w' => ∃ v, e = .returned v ∧ MineS 1 w w' 3 v 0 (i64s []) := by
  have hb1 : Below w.heap.size w (w.alloc (.cells #[.pointer none] 50)) := sub_alloc (Below.refl _ w) _
  have hbn : Blk (w.alloc (.cells #[.pointer none] 50)) w.heap.size 50 #[.pointer none] := Blk.new_at _ _ _ rfl
  have hcol := icoll_of w.heap.size (fun k => k = w.heap.size) [] (w.alloc (.cells #[.pointer none] 50)) (by rintro k rfl; simp) rfl 50 (by decide) _ hbn (by simp) (qistops_nil 2 (by decide) w.heap.size 50 _ _ (hbn.alloc _))
  have HC := Lib.hid (And.intro hcol hb1)
  clear hcol hb1 hbn
  go_enter Try.func13, Try.ntmps13
  go_wp2_with fail
  refine (qiall_any _ _).mono ?_
  rintro e w1 ⟨rfl, rfl⟩
  go_wp2_with fail
  refine HC.out.1.mono ?_
  rintro e w' ⟨v, rfl, hm⟩
  have HM := Lib.hid (hm.lower HC.out.2)
  clear hm
  go_wp2
  go_ret
  exact ⟨v, rfl, HM.out⟩
end Go.Proofs.Ytnikpgngaoaiiaa
