/-
  Queues of strings: Len, Put, Get of nobody, All, Collect, List. Condition: none. (Printed by gen_fifos.py out of the queues of numbers.)
-/
import Derived.Test.YtnikpgngaoaiiaaFifoC
import Derived.Test.YtnikpgngaoaiiaaArgStrs
namespace Go.Proofs.Ytnikpgngaoaiiaa
open Go.RowKit Go.Fw Go.Shelf
set_option maxHeartbeats 2000000
set_option maxRecDepth 100000
set_option linter.unusedVariables false
set_option linter.unusedSimpArgs false
theorem elemStrQ : ElemS Try.prog 39 9 (.string ByteArray.empty) 1 16 := ⟨Try.underlying39, by kernel_rfl, rfl⟩
attribute [local go_sem] Oper.semAt_some
abbrev QS (w : World) (p B : Nat) (vf vb : Value) (f b : List ByteArray) : Prop := QAt strs 41 9 w p B vf vb f b
abbrev QSHas (w : World) (p B : Nat) (S : Nat → Prop) (L : List ByteArray) : Prop := QHas strs 41 9 w p B S L
abbrev QSNew (w w' : World) (p B : Nat) (S : Nat → Prop) (L : List ByteArray) : Prop := QNew strs 41 9 w w' p B S L
theorem qslen_nil (w : World) : Calls Try.prog 18 #[.pointer none] w fun e w' => e = .returned (.int .i64 0) ∧ w = w' := by
  go_enter Try.func18, Try.ntmps18
  go_wp2
  go_ret
  exact ⟨rfl, rfl⟩
theorem qslen_any (p B : Nat) (S : Nat → Prop) (L : List ByteArray) (w : World) (h : QSHas w p B S L) (hl : L.length ≤ 100000) : Calls Try.prog 18 #[.pointer (some ⟨p, 0, none⟩)] w fun e w' => e = .returned (.int .i64 (L.length : Int)) ∧ w.drew = w' := by
  obtain ⟨vf, vb, f, b, hq, rfl, rfl⟩ := h
  have c0 := hq.c0
  have c1 := hq.c1
  obtain ⟨Af, cf, rfl, _, _⟩ := own_form hq.front
  obtain ⟨Ab, cb, rfl, _, _⟩ := own_form hq.back
  have HQ := Lib.hid hq
  have hs : IntKind.i64.wrap ((f.length : Int) + (b.length : Int)) = (((f.reverse ++ b).length : Nat) : Int) := by
    simp at hl ⊢
    rw [IntWalk.i64_in _ ⟨by omega, by omega⟩]
  have HS := Lib.hid hs
  clear hq hl hs
  go_enter Try.func18, Try.ntmps18
  go_wp2
  refine still_all (by kernel_rfl) (by kernel_rfl) ?_
  repeat still_step
  refine wpStill_nil ?_
  go_wp2
  go_ret
  exact ⟨by rw [HS.out]; rfl, rfl⟩
theorem qsput_nil (x : ByteArray) (w : World) : Calls Try.prog 16 #[.pointer none, .string x] w fun e w' => e = .returned (.bool false) ∧ w = w' := by
  go_enter Try.func16, Try.ntmps16
  go_wp2
  go_ret
  exact ⟨rfl, rfl⟩
theorem qsput_any (p B : Nat) (S : Nat → Prop) (L : List ByteArray) (x : ByteArray) (w : World) (h : QSHas w p B S L) (hB : B ≤ w.heap.size) (hl : L.length ≤ 100000) :
    Calls Try.prog 16 #[.pointer (some ⟨p, 0, none⟩), .string x] w fun e w' => e = .returned (.bool true) ∧ QSNew w w' p B S (L ++ [x]) := by
  obtain ⟨vf, vb, f, b, hq, rfl, rfl⟩ := h
  have c1 := hq.c1
  have f1 := hq.blk.frozen 1
  have hbl : b.length ≤ 100000 := by simp at hl; omega
  have hown := hq.back
  have hnp := own_ne hq.back hq.blk (by decide)
  obtain ⟨Ab, cb, rfl, _, _⟩ := own_form hq.back
  have HQ := Lib.hid hq
  clear hq hl
  go_enter Try.func16, Try.ntmps16
  go_wp2_with (at_builtin; go_must (refine wpList_append_oneN (w := w) (n := b.length) (xs := strs b) elemStrQ (by decide) rfl (.tmp 11) (.tmp 13) rfl rfl hown hB rfl rfl rfl (by simp [Value.oneCell']) (by omega) (by unfold maxLen; omega) ?_); intro v' w' hm' hg' hvb; obtain ⟨A3, k3, rfl, _, _⟩ := own_form hm'; have hb3 : Blk w' p 41 _ := HQ.out.blk.grown hg' (Ne.symm hnp); have q0 := hb3.cell 1; have q1 := hb3.frozen 1; simp at q0)
  go_ret
  have hK : Keep (QBl p vf (Value.slice Ab b.length cb)) w w' := grownK (w1 := w) (Keep.refl (fun _ => False) w) hg' (fun _ h => h.elim) fun k e => .inr (.inr e)
  have hnp3 := own_ne hm' hb3 (by decide)
  have hf3 : w'.ownsRow B 9 1 vf f.length (strs f) := own_turn HQ.out.front fun k e => hg'.block k (HQ.out.lt k (.inr (.inl e))) (fun e2 => HQ.out.apart k e e2.symm)
  have hnf3 := own_ne hf3 hb3 (by decide)
  refine ⟨rfl, _, ⟨vf, .slice A3 (b.length + 1) k3, f, b ++ [x], ⟨by simpa using hb3.set_ 1 (.slice A3 (b.length + 1) k3), own_set (p := ⟨p, 1, none⟩) hf3 hnf3 _, ?_, ?_⟩, by simp, rfl⟩, hK.setCell (p := ⟨p, 1, none⟩) (.inl (.inl rfl)) _, ?_⟩
  · have ho4 := own_set (p := ⟨p, 1, none⟩) hm' hnp3 (.slice A3 (b.length + 1) k3)
    simpa [strs] using ho4
  · intro k e e2
    rcases hvb with h1 | h1
    · exact HQ.out.apart k e (h1.symm.trans e2)
    · have := h1 k e2; have := HQ.out.lt k (.inr (.inl e)); omega
  · rintro k (rfl | e | e)
    · exact .inl (.inl rfl)
    · exact .inl (.inr (.inl e))
    · rcases hvb with h1 | h1
      · exact .inl (.inr (.inr (h1.symm.trans e)))
      · exact .inr (h1 k e)
theorem qsget_nil (w : World) : Calls Try.prog 20 #[.pointer none] w fun e w' => e = .returned (.tuple #[.string ByteArray.empty, .bool false]) ∧ w = w' := by
  go_enter Try.func20, Try.ntmps20
  go_wp2_with fail
  refine (qslen_nil _).mono ?_
  rintro e w' ⟨rfl, rfl⟩
  go_wp2
  go_ret2
  exact ⟨rfl, rfl⟩
theorem qsall1_in (n : Nat) (hn : 1 ≤ n) (l Bb p B tb : Nat) (vf vb : Value) (f b L : List ByteArray) (hL : L = f.reverse ++ b) (hfew : L.length ≤ 100000) (J Jx : List ByteArray → World → Prop)
    (hY : ∀ pre x W, J pre W → pre.length < L.length → YieldAt Fence.wide (n - 1) Try.prog l #[.string x] W fun e W' =>
      (e = .returned (.bool true) ∧ J (pre ++ [x]) W' ∧ Same (InQ p Bb vf vb) W W') ∨ (e = .returned (.bool false) ∧ Jx (pre ++ [x]) W'))
    (W : World) (hBn : Blk W Bb tb #[.pointer (some ⟨p, 0, none⟩)]) (hR : QS W p B vf vb f b) (h0 : J [] W) :
    CallsIn Fence.wide n Try.prog 32 #[.func (.yield l) #[] #[], .pointer (some ⟨Bb, 0, none⟩)] W fun e W' => (∃ v, e = .returned v) ∧
      ((∃ ys, ys = L ∧ J ys W') ∨ (∃ pre, pre <+: L ∧ pre ≠ [] ∧ Jx pre W')) := by
  have hll : L.length = f.length + b.length := by rw [hL]; simp
  have HL := Lib.hid hL
  clear hL
  obtain ⟨Af, cf, rfl, hcf, _⟩ := own_form hR.front
  obtain ⟨Ab, cb, rfl, hcb, _⟩ := own_form hR.back
  have hff : f.length ≤ 100000 := by omega
  have hbb : b.length ≤ 100000 := by omega
  have HLL := Lib.hid hll
  clear hll
  refine callsIn_of_wp Try.func32 rfl trivial ?_ rfl
  simp only [Try.ntmps32, List.size_toArray, List.length_cons, List.length_nil, Nat.reduceAdd, Nat.reduceSub, Array.replicate_succ, Array.replicate_zero, List.push_toArray, List.append_toArray, List.nil_append, List.cons_append]
  have b0 := hBn.cell 0
  simp at b0
  have c0 := hR.c0
  have hw0 : IntKind.i64.wrap ((f.length : Int) - 1) = (f.length : Int) - 1 := IntWalk.i64_in _ ⟨by omega, by omega⟩
  gi_wp2
  gi_loopw [3] (fun i wr => ∃ k : Nat, k ≤ f.length ∧ i = .int .i64 ((f.length : Int) - 1 - k) ∧ Hid (J (L.take k) wr ∧ Same (InQ p Bb (.slice Af f.length cf) (.slice Ab b.length cb)) W wr)) (fun i _ => (intOf i + 1).toNat)
  case atStart => exact ⟨0, Nat.zero_le _, by simp, Lib.hid ⟨by simpa using h0, Same.refl _ _⟩⟩
  case round =>
    obtain ⟨k, hk, rfl, HJ⟩ := hrel
    have hq1 := hR.same HJ.out.2
    have b1 : wr.cell? ⟨Bb, 0, none⟩ = some (.pointer (some ⟨p, 0, none⟩)) := by
      have hb1 : Blk wr Bb tb #[.pointer (some ⟨p, 0, none⟩)] := (HJ.out.2 Bb (.inr rfl)).trans hBn
      have := hb1.cell 0
      simpa using this
    by_cases hlt : k < f.length
    · obtain ⟨m, hm⟩ : ∃ m, f.length = m + 1 + k := ⟨f.length - 1 - k, by omega⟩
      have hmk : m < f.length := by omega
      obtain ⟨g, c, e1, _, _, _, hcell, _, _⟩ := own_at hq1.front hmk
      injection e1 with e1 _ e3
      subst e1 e3
      have hkl : k < L.length := by have := HLL.out; omega
      have hs : L.take (k + 1) = L.take k ++ [L[k]] := List.take_succ_eq_append_getElem hkl
      have hx : L[k] = f[m] := by
        have h1 : L[k]? = f[m]? := by
          rw [HL.out, List.getElem?_append_left (by simpa using hlt), List.getElem?_reverse hlt]
          congr 1
          omega
        rw [List.getElem?_eq_getElem hkl, List.getElem?_eq_getElem hmk] at h1
        exact Option.some.inj h1
      rw [show (strs f)[m]? = some (.string f[m]) by simp [strs, hmk], ← hx] at hcell
      obtain ⟨fn, tmps, assign, body, hy, hRd⟩ := hY _ L[k] wr HJ.out.1 (by simp; omega)
      have HS := Lib.hid hs
      have c1 := hq1.c0
      have him : (f.length : Int) - 1 - k = (m : Int) := by omega
      have hmlt : (m : Int) < (f.length : Int) := by omega
      have hw1 : IntKind.i64.wrap ((m : Int) - 1) = (m : Int) - 1 := IntWalk.i64_in _ ⟨by omega, by omega⟩
      rw [him]
      have HM := Lib.hid (And.intro him hm)
      clear hs hx hq1 him hm
      generalize L[k] = x at *
      gi_wp2
      refine hRd.mono ?_
      rintro e W3 (⟨rfl, hJ3, hk3⟩ | ⟨rfl, hJx3⟩)
      · gi_wp2
        go_roundw
        case rel => exact ⟨k + 1, by omega, by have := HM.out.1; congr 1; omega, Lib.hid ⟨by rw [HS.out]; exact hJ3, HJ.out.2.trans hk3⟩⟩
        case measure => have := HM.out.1; simp [intOf]
      · gi_wp2
        refine bodyPost_ret (results_none rfl _ _ _) rfl ?_
        exact ⟨⟨_, rfl⟩, .inr ⟨_, ⟨L.drop (k + 1), by rw [← HS.out, List.take_append_drop]⟩, by simp, hJx3⟩⟩
    · obtain rfl : k = f.length := by omega
      have hm1 : (f.length : Int) - 1 - (f.length : Int) = -1 := by omega
      rw [hm1]
      have c1 := hq1.c1
      clear hq1
      gi_wp2
      gi_loopw [33] (fun i wr => ∃ j : Nat, j ≤ b.length ∧ i = .int .i64 j ∧ Hid (J (L.take (f.length + j)) wr ∧ Same (InQ p Bb (.slice Af f.length cf) (.slice Ab b.length cb)) W wr)) (fun i _ => b.length - (intOf i).toNat)
      case atStart => exact ⟨0, Nat.zero_le _, rfl, Lib.hid ⟨HJ.out.1, HJ.out.2⟩⟩
      case round =>
        obtain ⟨j, hj, rfl, HK⟩ := hrel
        have hq2 := hR.same HK.out.2
        by_cases hjt : j < b.length
        · obtain ⟨g, c, e1, _, _, _, hcell, _, _⟩ := own_at hq2.back hjt
          injection e1 with e1 _ e3
          subst e1 e3
          have hkl : f.length + j < L.length := by have := HLL.out; omega
          have hs : L.take (f.length + (j + 1)) = L.take (f.length + j) ++ [L[f.length + j]] := List.take_succ_eq_append_getElem hkl
          have hx : L[f.length + j] = b[j] := by
            have h1 : L[f.length + j]? = b[j]? := by
              rw [HL.out, List.getElem?_append_right (by simp)]
              congr 1
              simp
            rw [List.getElem?_eq_getElem hkl, List.getElem?_eq_getElem hjt] at h1
            exact Option.some.inj h1
          rw [show (strs b)[j]? = some (.string b[j]) by simp [strs, hjt], ← hx] at hcell
          obtain ⟨fn, tmps, assign, body, hy, hRd⟩ := hY _ L[f.length + j] _ HK.out.1 (by simp; omega)
          have HS := Lib.hid hs
          have hjl : (j : Int) < (b.length : Int) := by omega
          clear hs hx hq2
          generalize L[f.length + j] = x at *
          gi_wp2
          refine hRd.mono ?_
          rintro e W3 (⟨rfl, hJ3, hk3⟩ | ⟨rfl, hJx3⟩)
          · gi_wp2
            go_roundw
            case rel => exact ⟨j + 1, by omega, by simp, Lib.hid ⟨by rw [HS.out]; exact hJ3, HK.out.2.trans hk3⟩⟩
            case measure => simp [intOf]; omega
          · gi_wp2
            refine bodyPost_ret (results_none rfl _ _ _) rfl ?_
            exact ⟨⟨_, rfl⟩, .inr ⟨_, ⟨L.drop (f.length + (j + 1)), by rw [← HS.out, List.take_append_drop]⟩, by simp, hJx3⟩⟩
        · obtain rfl : j = b.length := by omega
          have hJe := HK.out.1
          rw [List.take_of_length_le (by have := HLL.out; omega)] at hJe
          gi_wp2
          go_end0
          exact ⟨⟨_, rfl⟩, .inl ⟨_, rfl, hJe⟩⟩
theorem qsall_any (v : Option Addr) (w : World) : Calls Try.prog 19 #[.pointer v] w fun e w' => e = .returned (.func (.func 32) #[] #[.pointer (some ⟨w.heap.size, 0, none⟩)]) ∧ w.alloc (.cells #[.pointer v] 46) = w' := by
  go_enter Try.func19, Try.ntmps19
  go_wp2
  go_ret
  exact ⟨rfl, rfl⟩
theorem qsall1_nil (n : Nat) (hn : 1 ≤ n) (l Bb tb : Nat) (J : List ByteArray → World → Prop) (W : World) (hBn : Blk W Bb tb #[.pointer none]) (h0 : J [] W) :
    CallsIn Fence.wide n Try.prog 32 #[.func (.yield l) #[] #[], .pointer (some ⟨Bb, 0, none⟩)] W fun e W' => (∃ v, e = .returned v) ∧ J [] W' := by
  refine callsIn_of_wp Try.func32 rfl trivial ?_ rfl
  simp only [Try.ntmps32, List.size_toArray, List.length_cons, List.length_nil, Nat.reduceAdd, Nat.reduceSub, Array.replicate_succ, Array.replicate_zero, List.push_toArray, List.append_toArray, List.nil_append, List.cons_append]
  have b0 := hBn.cell 0
  simp at b0
  gi_wp2
  refine bodyPost_ret (results_none rfl _ _ _) rfl ?_
  exact ⟨⟨_, rfl⟩, h0⟩
theorem qsstops (n : Nat) (hn : 1 ≤ n) (Bb p B tb : Nat) (vf vb : Value) (f b : List ByteArray) (w : World) (hBn : Blk w Bb tb #[.pointer (some ⟨p, 0, none⟩)]) (hR : QS w p B vf vb f b) (hfew : (f.reverse ++ b).length ≤ 100000) :
    SeqStopsK Fence.wide n Try.prog 32 #[.pointer (some ⟨Bb, 0, none⟩)] (fun x : ByteArray => #[Value.string x]) (Same (InQ p Bb vf vb)) (fun ys => ys = f.reverse ++ b) (fun pre => pre <+: (f.reverse ++ b) ∧ pre ≠ []) (f.reverse ++ b).length w := fun l J Jx W hW hJ _ hY h0 =>
  (qsall1_in n hn l Bb p B tb vf vb f b _ rfl hfew J Jx hY W (hBn.later hW) (hR.up hW) h0).mono
    fun e W' ⟨he, h⟩ => ⟨he, h.imp id fun ⟨pre, h1, h2, h3⟩ => ⟨pre, ⟨h1, h2⟩, h3⟩⟩
theorem qsstops_nil (n : Nat) (hn : 1 ≤ n) (Bb tb : Nat) (S : Nat → Prop) (w : World) (hBn : Blk w Bb tb #[.pointer none]) :
    SeqStopsK Fence.wide n Try.prog 32 #[.pointer (some ⟨Bb, 0, none⟩)] (fun x : ByteArray => #[Value.string x]) (Same S) (fun ys => ys = []) (fun pre => pre <+: [] ∧ pre ≠ []) 0 w := fun l J Jx W hW hJ _ hY h0 =>
  (qsall1_nil n hn l Bb tb J W (hBn.later hW) h0).mono fun e W' ⟨he, h⟩ => ⟨he, .inl ⟨_, rfl, h⟩⟩
theorem sapseq_of (Bb : Nat) (S : Nat → Prop) (L : List ByteArray) (w : World) (hS0 : ∀ k, S k → k < w.heap.size) (hBb : S Bb) (tb : TypeId) (ht : 9 ≠ tb) (cb : Array Value) (hblk : Blk w Bb tb cb) (hL : L.length ≤ 100000)
    (hst : SeqStopsK Fence.wide 2 Try.prog 32 #[.pointer (some ⟨Bb, 0, none⟩)] (fun x : ByteArray => #[Value.string x]) (Same S) (fun ys => ys = L) (fun pre => pre <+: L ∧ pre ≠ []) L.length (w.alloc (.cells #[.slice none 0 0] 39))) :
    Calls Try.prog 40 #[.slice none 0 0, .func (.func 32) #[] #[.pointer (some ⟨Bb, 0, none⟩)]] w fun e w' => ∃ v, e = .returned v ∧ MineS 1 w w' 9 v L.length (strs L) := by
  obtain ⟨i0, hi, hz0, hz1, hz2⟩ := info_parts elemStrQ.info
  refine (callsIn_wide (n := 3)).1 ?_
  refine callsIn_of_wp_marks Try.func40 rfl trivial ?_ rfl
  simp only [Try.ntmps40, List.size_toArray, List.length_cons, List.length_nil, Nat.reduceAdd, Nat.reduceSub, Array.replicate_succ, Array.replicate_zero, List.push_toArray, List.append_toArray, List.nil_append, List.cons_append]
  gi_wp2
  have bO := Boxed.new w 39 (.slice none 0 0)
  have hB0 : Below w.heap.size w (w.alloc (.cells #[.slice none 0 0] 39)) := (Below.refl _ w).alloc (Nat.le_refl _) _
  have hin : ∀ k, S k → k < (w.alloc (.cells #[.slice none 0 0] 39)).heap.size := fun k hk => by have := hS0 k hk; simp; omega
  have hinO : ∀ k, S k → k ≠ w.heap.size := fun k hk => by have := hS0 k hk; omega
  refine wpIn_rangeFunc_ownG rfl (by decide) (gf := 32) (lb := #[.pointer (some ⟨Bb, 0, none⟩)]) rfl trivial (enters_of Try.func32 (by kernel_rfl) rfl)
    hst (fun h k => h.trans k) (fun W l o o' hl h1 h2 h3 => Same.put hin W l o o' hl h1 h2 h3) (Below.refl _ _) (fun _ => rfl)
    (fun pre W => ((∃ v, Boxed W w.heap.size 39 v ∧ W.ownsRow w.heap.size 9 1 v pre.length (strs pre) ∧ True) ∧ Below w.heap.size w W) ∧ (Same S (w.alloc (.cells #[.slice none 0 0] 39)) W ∧ (w.alloc (.cells #[.slice none 0 0] 39)).heap.size ≤ W.heap.size))
    (fun _ _ _ => False)
    (OwnFrom.and (OwnFrom.and (Own.from (holdsRow_own w.heap.size w.heap.size 39 9 1 (fun (pre : List ByteArray) => pre.length) (fun pre => strs pre) (fun _ _ => True)) _) (ownFrom_below (Nat.le_refl _) (by simp))) (same_ownT _ hin))
    (fun _ _ _ _ _ hs _ _ => hs)
    ⟨⟨⟨_, bO, World.ownsRow_nil _ _ _ _, trivial⟩, hB0⟩, Same.refl _ _, Nat.le_refl _⟩
    (fun x => { tmps := #[.slice none 0 0, .func (.func 32) #[] #[.pointer (some ⟨Bb, 0, none⟩)], .pointer (some ⟨w.heap.size, 0, none⟩), undef, .slice none 0 0, .string x, .func (.func 32) #[] #[.pointer (some ⟨Bb, 0, none⟩)], .string x, undef, undef, undef, undef, undef], defers := [] }) ?assign ?body ?done ?stop
  case assign =>
    intro l x W K hK
    gi_wp2
    exact hK
  case body =>
    rintro l pre x W ⟨⟨⟨v, hv, hrow, _⟩, hBl⟩, hSm, hsz⟩ hlt
    have hc := hv.cell
    have hpl : pre.length < 100000 := by omega
    obtain ⟨Av, cv, rfl, _, _⟩ := own_form hrow
    gi_wp2_with (gi_at_builtin; refine wpListIn_append_own _ rfl _ _ 39 rfl w.heap.size 9 i0 (.string ByteArray.empty) 1 16 elemStrQ.under hi hz0 hz1 hz2 rfl (by decide) _ _ _ rfl (hrow.alloc _) ⟨W.heap.size, 0, none⟩ 1 1 [.string x] rfl rfl (cell_one_new _ _ _) (by simp [Value.oneCell']) (by unfold maxLen; omega) (by omega) (by have := hBl.size; simp; omega) ?_; intro v' w1 hown' hgrow _; obtain ⟨g', cap', rfl⟩ := ownsRow_succ hown'; obtain ⟨hv1, hv2, hr2, hk2, hb2⟩ := hv.appended (by decide) hrow hBl.size (Nat.le_refl _) hown' hgrow; have hc1 := hv1.cell; have hf1 := hv1.frozen)
    have hbB : Blk W Bb tb cb := (hSm _ hBb).trans (hblk.alloc _)
    have hnB := own_ne hrow hbB ht
    have hSame : Same S W (w1.setCell ⟨w.heap.size, 0, none⟩ (.slice (some ⟨g', 0, none⟩) (pre.length + 1) cap')) := by
      intro k hk
      have hkW : k < W.heap.size := Nat.lt_of_lt_of_le (hin k hk) hsz
      refine (Below.heap_setCell w1 _ _ k (hinO k hk)).trans ((hgrow.block k (by simp; omega) ?_).trans (Below.heap_alloc W _ k hkW))
      intro e
      have e2 : (Value.slice Av pre.length cv).ownBlock = some k := e.symm
      have := (hrow.lt _ e2).1
      have := hS0 k hk
      omega
    exact ⟨hk2.from _, hSame, ⟨⟨⟨_, hv2, by simpa [strs] using hr2, trivial⟩, hBl.trans hb2⟩, hSm.trans hSame, Nat.le_trans hsz hk2.size⟩⟩
  case done =>
    rintro D ys W hD rfl ⟨⟨⟨v, hv, hrow, _⟩, hBl⟩, _⟩ hK
    have hc := hv.cell
    gi_wp2
    refine ⟨by simp, .inl ⟨_, _, rfl, run_takeDeferred hK, ?_⟩⟩
    exact ⟨_, results_tmp rfl _ _ _, v, rfl, ownsRow_putObj hrow _ hK rfl, hBl.trans (belowK_b (w := w) (Nat.le_refl _) W D _ _ (by simp at hD; omega) hK rfl rfl)⟩
  case stop =>
    rintro D c pre W _ _ h _
    exact h.elim
theorem scoll_of (Bb : Nat) (S : Nat → Prop) (L : List ByteArray) (w : World) (hS0 : ∀ k, S k → k < w.heap.size) (hBb : S Bb) (tb : TypeId) (ht : 9 ≠ tb) (cb : Array Value) (hblk : Blk w Bb tb cb) (hL : L.length ≤ 100000)
    (hst : SeqStopsK Fence.wide 2 Try.prog 32 #[.pointer (some ⟨Bb, 0, none⟩)] (fun x : ByteArray => #[Value.string x]) (Same S) (fun ys => ys = L) (fun pre => pre <+: L ∧ pre ≠ []) L.length (w.alloc (.cells #[.slice none 0 0] 39))) :
    Calls Try.prog 38 #[.func (.func 32) #[] #[.pointer (some ⟨Bb, 0, none⟩)]] w fun e w' => ∃ v, e = .returned v ∧ MineS 1 w w' 9 v L.length (strs L) := by
  have HC := Lib.hid (sapseq_of Bb S L w hS0 hBb tb ht cb hblk hL hst)
  clear hst hblk
  go_enter Try.func38, Try.ntmps38
  go_wp2_with fail
  refine HC.out.mono ?_
  rintro e w' ⟨v, rfl, hm⟩
  have HM := Lib.hid hm
  clear hm
  go_wp2
  go_ret
  exact ⟨v, rfl, HM.out⟩
theorem qslist_any (p B : Nat) (S : Nat → Prop) (L : List ByteArray) (w : World) (h : QSHas w p B S L) (hl : L.length ≤ 100000) :
    Calls Try.prog 29 #[.pointer (some ⟨p, 0, none⟩)] w fun e w' => ∃ v, e = .returned v ∧ MineS 1 w w' 9 v L.length (strs L) := by
  obtain ⟨vf, vb, f, b, hq, rfl, rfl⟩ := h
  have hb1 : Below w.heap.size w (w.alloc (.cells #[.pointer (some ⟨p, 0, none⟩)] 46)) := sub_alloc (Below.refl _ w) _
  have hbn : Blk (w.alloc (.cells #[.pointer (some ⟨p, 0, none⟩)] 46)) w.heap.size 46 #[.pointer (some ⟨p, 0, none⟩)] := Blk.new_at _ _ _ rfl
  have hq1 := hq.up hb1
  have hcol := scoll_of w.heap.size (InQ p w.heap.size vf vb) (f.reverse ++ b) (w.alloc (.cells #[.pointer (some ⟨p, 0, none⟩)] 46)) (by
      rintro k (hk | rfl)
      · have := hq.lt k hk; simp; omega
      · simp) (.inr rfl) 46 (by decide) _ hbn hl (qsstops 2 (by decide) w.heap.size p B 46 vf vb f b _ (hbn.alloc _) (hq1.up (sub_alloc (Below.refl _ _) _)) hl)
  have HC := Lib.hid (And.intro hcol hb1)
  clear hcol hb1 hbn hq1 hq
  go_enter Try.func29, Try.ntmps29
  go_wp2_with fail
  refine (qsall_any _ _).mono ?_
  rintro e w1 ⟨rfl, rfl⟩
  go_wp2_with fail
  refine HC.out.1.mono ?_
  rintro e w' ⟨v, rfl, hm⟩
  have HM := Lib.hid (hm.lower HC.out.2)
  clear hm
  go_wp2
  go_ret
  exact ⟨v, rfl, HM.out⟩
theorem qslist_nil (w : World) : Calls Try.prog 29 #[.pointer none] w fun e w' => ∃ v, e = .returned v ∧ MineS 1 w w' 9 v 0 (strs []) := by
  have hb1 : Below w.heap.size w (w.alloc (.cells #[.pointer none] 46)) := sub_alloc (Below.refl _ w) _
  have hbn : Blk (w.alloc (.cells #[.pointer none] 46)) w.heap.size 46 #[.pointer none] := Blk.new_at _ _ _ rfl
  have hcol := scoll_of w.heap.size (fun k => k = w.heap.size) [] (w.alloc (.cells #[.pointer none] 46)) (by rintro k rfl; simp) rfl 46 (by decide) _ hbn (by simp) (qsstops_nil 2 (by decide) w.heap.size 46 _ _ (hbn.alloc _))
  have HC := Lib.hid (And.intro hcol hb1)
  clear hcol hb1 hbn
  go_enter Try.func29, Try.ntmps29
  go_wp2_with fail
  refine (qsall_any _ _).mono ?_
  rintro e w1 ⟨rfl, rfl⟩
  go_wp2_with fail
  refine HC.out.1.mono ?_
  rintro e w' ⟨v, rfl, hm⟩
  have HM := Lib.hid (hm.lower HC.out.2)
  clear hm
  go_wp2
  go_ret
  exact ⟨v, rfl, HM.out⟩
end Go.Proofs.Ytnikpgngaoaiiaa
