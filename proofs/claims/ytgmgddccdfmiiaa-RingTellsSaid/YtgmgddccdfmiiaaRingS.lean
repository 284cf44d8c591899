/-
  Rings of strings, walked: New, Push, Len, Room, At, All. Condition: none. (Printed by gen_rings.py out of the rings of numbers.)
-/
import Derived.Test.YtgmgddccdfmiiaaRingIL
namespace Go.Fw
open Go.RowKit
set_option linter.unusedVariables false
def strs (l : List ByteArray) : List Value := l.map .string
@[simp] theorem strs_length (l : List ByteArray) : (strs l).length = l.length := by simp [strs]
theorem strs_one (l : List ByteArray) : ∀ u ∈ strs l, u.oneCell' = true := by
  intro u hu
  obtain ⟨x, _, rfl⟩ := List.mem_map.1 hu
  rfl
theorem strs_get {l : List ByteArray} {k : Nat} {u : Value} (h : (strs l)[k]? = some u) (hk : k < l.length) : .string l[k] = u := by
  unfold strs at h
  rw [List.getElem?_map, List.getElem?_eq_getElem hk] at h
  exact Option.some.inj h
theorem strs_set (l : List ByteArray) (k : Nat) (x : ByteArray) : (strs l).set k (.string x) = strs (l.set k x) := by simp [strs, List.map_set]
end Go.Fw
namespace Go.Proofs.Ytgmgddccdfmiiaa
open Go.RowKit Go.Fw Go.Shelf
set_option maxHeartbeats 2000000
set_option maxRecDepth 100000
set_option linter.unusedVariables false
set_option linter.unusedSimpArgs false
theorem elemStrR : ElemS Try.prog 22 9 (.string ByteArray.empty) 1 16 := ⟨Try.underlying22, by kernel_rfl, rfl⟩
abbrev RgS (w : World) (p B : Nat) (sl : Value) (r : Rg ByteArray) : Prop := RgAt strs 1 71 9 w p B sl r
theorem snew_no (n : Int) (w : World) (h : ¬ (1 ≤ n ∧ n ≤ 4096)) : Calls Try.prog 11 #[.int .i64 n] w fun e w' => e = .returned (.pointer none) ∧ w = w' := by
  by_cases h1 : n < 1
  · go_enter Try.func11, Try.ntmps11
    go_wp2
    go_ret
    exact ⟨rfl, rfl⟩
  · have h2 : 4096 < n := by omega
    go_enter Try.func11, Try.ntmps11
    go_wp2
    go_ret
    exact ⟨rfl, rfl⟩
theorem snew_yes (n : Nat) (w : World) (h1 : 1 ≤ n) (h2 : n ≤ 4096) : Calls Try.prog 11 #[.int .i64 (n : Int)] w fun e w' => e = .returned (.pointer (some ⟨w.heap.size, 0, none⟩)) ∧ w.alloc (.cells #[.slice none 0 0, .int .i64 0, .int .i64 (n : Int)] 71) = w' := by
  go_enter Try.func11, Try.ntmps11
  go_wp2
  go_ret
  exact ⟨rfl, rfl⟩
theorem slen_nil (w : World) : Calls Try.prog 44 #[.pointer none] w fun e w' => e = .returned (.int .i64 0) ∧ w = w' := by
  go_enter Try.func44, Try.ntmps44
  go_wp2
  go_ret
  exact ⟨rfl, rfl⟩
theorem slen_any (p B : Nat) (sl : Value) (r : Rg ByteArray) (w : World) (h : RgS w p B sl r) : Calls Try.prog 44 #[.pointer (some ⟨p, 0, none⟩)] w fun e w' => e = .returned (.int .i64 (r.items.length : Int)) ∧ w = w' := by
  have c0 := h.c0
  obtain ⟨A, c, rfl, _, _⟩ := own_form h.own
  go_enter Try.func44, Try.ntmps44
  go_wp2
  go_ret
  exact ⟨rfl, rfl⟩
theorem spush_nil (x : ByteArray) (w : World) : Calls Try.prog 12 #[.pointer none, .string x] w fun e w' => e = .returned (.tuple #[.string ByteArray.empty, .bool false]) ∧ w = w' := by
  go_enter Try.func12, Try.ntmps12
  go_wp2
  go_ret2
  exact ⟨rfl, rfl⟩
/-- what is pushed out -/
def outS (r : Rg ByteArray) : ByteArray × Bool := if r.items.length < r.room then (ByteArray.empty, false) else (r.list.head?.getD ByteArray.empty, true)
theorem spush_all (p B : Nat) (sl : Value) (r : Rg ByteArray) (x : ByteArray) (w : World) (h : RgS w p B sl r) (hB : B ≤ w.heap.size) (hpB : p < B ∨ True) :
    Calls Try.prog 12 #[.pointer (some ⟨p, 0, none⟩), .string x] w fun e w' => e = .returned (.tuple #[.string (outS r).1, .bool (outS r).2]) ∧ ∃ sl', RgS w' p B sl' (r.push x) ∧ Keep (fun j => j = p ∨ sl.ownBlock = some j) w w' ∧ (sl'.ownBlock = sl.ownBlock ∨ ∀ k, sl'.ownBlock = some k → w.heap.size ≤ k) := by
  have c0 := h.c0
  have c1 := h.c1
  have c2 := h.c2
  have f0 := h.blk.frozen 0
  have f1 := h.blk.frozen 1
  have hnp := own_ne h.own h.blk (by decide)
  have hlp := h.blk.lt
  have hok := h.ok
  have hown := h.own
  have hpush : r.push x = if r.items.length < r.room then { r with items := r.items ++ [x] } else ⟨r.items.set r.from_ x, (r.from_ + 1) % r.room, r.room⟩ := rfl
  have hout : outS r = if r.items.length < r.room then (ByteArray.empty, false) else (r.list.head?.getD ByteArray.empty, true) := rfl
  have HPO := Lib.hid (And.intro hpush hout)
  have hroom := hok.most
  have hpos := hok.pos
  have hfits := hok.fits
  have hz2 : ((r.room : Int) == 0) = false := by simp; omega
  obtain ⟨A, c, rfl, _, _⟩ := own_form h.own
  have HH := Lib.hid h
  clear hpush hout h
  by_cases hlt : r.items.length < r.room
  · have HLT := Lib.hid hlt
    have hlt2 : (r.items.length : Int) < (r.room : Int) := by omega
    clear hok
    go_enter Try.func12, Try.ntmps12
    go_wp2
    refine still_all (by kernel_rfl) (by kernel_rfl) ?_
    repeat still_step
    refine wpStill_nil ?_
    have hownd : w.drew.ownsRow B 9 1 (.slice A r.items.length c) r.items.length (strs r.items) := hown
    go_wp2_with (at_builtin; go_must (refine wpList_append_oneN (w := w.drew) (n := r.items.length) (xs := strs r.items) elemStrR (by decide) rfl (.tmp 34) (.tmp 36) rfl rfl hownd hB rfl rfl rfl (by simp [Value.oneCell']) (by omega) (by unfold maxLen; omega) ?_); intro v' w' hm' hg' hvb; obtain ⟨A3, k3, rfl, _, _⟩ := own_form hm'; have hb3 : Blk w' p 71 _ := HH.out.drew.blk.grown hg' (Ne.symm hnp); have q0 := hb3.cell 0; have q1 := hb3.frozen 0; simp at q0)
    go_ret2
    have hK : Keep (fun j => j = p ∨ (Value.slice A r.items.length c).ownBlock = some j) w w' := grownK (w1 := w.drew) (Keep.refl (fun _ => False) w).drew hg' (fun _ h => h.elim) fun k e => .inr e
    refine ⟨by rw [HPO.out.2, if_pos HLT.out]; rfl, ⟨.slice A3 (r.items.length + 1) k3, ?_, hK.setCell (p := ⟨p, 0, none⟩) (.inl (.inl rfl)) _, hvb⟩⟩
    rw [HPO.out.1, if_pos HLT.out]
    have hq := Rg.push_ok HH.out.ok x
    rw [HPO.out.1, if_pos HLT.out] at hq
    have hb4 := hb3.set_ 0 (.slice A3 (r.items.length + 1) k3)
    refine ⟨by simpa using hb4, ?_, hq⟩
    have ho4 := own_set (p := ⟨p, 0, none⟩) hm' (own_ne hm' hb3 (by decide)) (.slice A3 (r.items.length + 1) k3)
    simpa [strs] using ho4
  · have hl : r.items.length = r.room := by omega
    have hfl : r.from_ < r.items.length := by have := hok.lt; omega
    obtain ⟨hj, hhead⟩ := Rg.head hok hlt
    obtain ⟨g, cc, e1, hgB, hgs, hnc, hcell, hfro, hset⟩ := own_at hown hfl
    injection e1 with e11 _ e12
    subst e11 e12
    have hgp : g ≠ p := fun e => hnp (by rw [← e]; rfl)
    have hpg : p ≠ g := fun e => hgp e.symm
    have hget : (strs r.items)[r.from_]? = some (.string r.items[r.from_]) := by simp [strs, hfl]
    rw [hget] at hcell
    have hlt2 : ¬ (r.items.length : Int) < (r.room : Int) := by omega
    have hsx := hset (.string x)
    rw [strs_set] at hsx
    have HF := Lib.hid (And.intro hlt (And.intro hhead (And.intro hsx hl)))
    have hfr := hok.lt
    clear hsx hset hhead hok hlt hl hget
    have hz3 : ¬ r.room = 0 := by omega
    have hmod : (IntKind.i64.wrap ((r.from_ : Int) + 1)).tmod (r.room : Int) = (((r.from_ + 1) % r.room : Nat) : Int) := by
      rw [IntWalk.i64_in _ ⟨by omega, by omega⟩, Int.tmod_eq_emod_of_nonneg (by omega)]
      push_cast
      rfl
    generalize r.items[r.from_] = y at *
    go_enter Try.func12, Try.ntmps12
    go_wp2
    refine still_all (by kernel_rfl) (by kernel_rfl) ?_
    repeat still_step
    refine wpStill_nil ?_
    go_wp2
    refine still_all (by kernel_rfl) (by kernel_rfl) ?_
    repeat still_step
    refine wpStill_nil ?_
    go_wp2
    refine still_start 10 (by kernel_rfl) (by kernel_rfl) ?_
    simp only [List.take_succ_cons, List.take_zero, List.drop_succ_cons, List.drop_zero]
    repeat still_step
    refine wpStill_nil ?_
    go_wp2
    refine still_start 13 (by kernel_rfl) (by kernel_rfl) ?_
    simp only [List.take_succ_cons, List.take_zero, List.drop_succ_cons, List.drop_zero]
    repeat still_step
    refine wpStill_nil ?_
    go_wp2
    go_ret2
    have hR : RgS ((w.setCell ⟨g, r.from_, none⟩ (.string x)).setCell ⟨p, 1, none⟩ (.int .i64 (((r.from_ : Int) + 1) % (r.room : Int)))) p B (.slice (some ⟨g, 0, none⟩) r.items.length c) (r.push x) := by
      have hq := Rg.push_ok HH.out.ok x
      rw [HPO.out.1, if_neg HF.out.1] at hq ⊢
      have hb := (HH.out.blk.far (p := ⟨g, r.from_, none⟩) hpg (.string x)).set_ 1 (.int .i64 (((r.from_ : Int) + 1) % (r.room : Int)))
      have ho := own_set (p := ⟨p, 1, none⟩) HF.out.2.2.1 hnp (.int .i64 (((r.from_ : Int) + 1) % (r.room : Int)))
      exact ⟨by simpa using hb, by simpa using ho, hq⟩
    have hK : Keep (fun j => j = p ∨ (Value.slice (some ⟨g, 0, none⟩) r.items.length c).ownBlock = some j) w ((w.setCell ⟨g, r.from_, none⟩ (.string x)).setCell ⟨p, 1, none⟩ (.int .i64 (((r.from_ : Int) + 1) % (r.room : Int)))) :=
      ((Keep.refl _ w).setCell (p := ⟨g, r.from_, none⟩) (.inl (.inr rfl)) _).setCell (p := ⟨p, 1, none⟩) (.inl (.inl rfl)) _
    exact ⟨by rw [HPO.out.2, if_neg HF.out.1, HF.out.2.1]; rfl, _, hR.drew.drew.drew.drew, hK.drew.drew.drew.drew, .inl rfl⟩
theorem spush_any (p B : Nat) (sl : Value) (r : Rg ByteArray) (x : ByteArray) (w : World) (h : RgS w p B sl r) (hB : B ≤ w.heap.size) (hpB : p < B ∨ True) :
    Calls Try.prog 12 #[.pointer (some ⟨p, 0, none⟩), .string x] w fun e w' => e = .returned (.tuple #[.string (outS r).1, .bool (outS r).2]) ∧ ∃ sl', RgS w' p B sl' (r.push x) ∧ Keep (fun j => j = p ∨ sl.ownBlock = some j) w w' :=
  (spush_all p B sl r x w h hB hpB).mono fun _ _ ⟨h1, sl', h2, h3, _⟩ => ⟨h1, sl', h2, h3⟩
theorem sat_no (p B : Nat) (sl : Value) (r : Rg ByteArray) (i : Int) (w : World) (h : RgS w p B sl r) (hi : ¬ (0 ≤ i ∧ i < (r.items.length : Int))) :
    Calls Try.prog 13 #[.pointer (some ⟨p, 0, none⟩), .int .i64 i] w fun e w' => e = .returned (.tuple #[.string ByteArray.empty, .bool false]) ∧ w = w' := by
  have hl := slen_any p B sl r w h
  have HL := Lib.hid hl
  clear hl
  by_cases h1 : i < 0
  · go_enter Try.func13, Try.ntmps13
    go_wp2
    go_ret2
    exact ⟨rfl, rfl⟩
  · have h2 : (r.items.length : Int) ≤ i := by omega
    go_enter Try.func13, Try.ntmps13
    go_wp2_with fail
    refine HL.out.mono ?_
    rintro e w1 ⟨rfl, rfl⟩
    go_wp2
    go_ret2
    exact ⟨rfl, rfl⟩
theorem sat_any (p B : Nat) (sl : Value) (r : Rg ByteArray) (i : Nat) (w : World) (h : RgS w p B sl r) (hi : i < r.list.length) :
    Calls Try.prog 13 #[.pointer (some ⟨p, 0, none⟩), .int .i64 (i : Int)] w fun e w' => e = .returned (.tuple #[.string r.list[i], .bool true]) ∧ w.drew = w' := by
  have hl := slen_any p B sl r w h
  have HL := Lib.hid hl
  have hll := Rg.length r
  obtain ⟨hj, hget⟩ := Rg.get h.ok hi
  have hroom := h.ok.most
  have hfits := h.ok.fits
  have hlt := h.ok.lt
  have c0 := h.c0
  have c1 := h.c1
  have hmod : (IntKind.i64.wrap ((r.from_ : Int) + (i : Int))).tmod (r.items.length : Int) = (((r.from_ + i) % r.items.length : Nat) : Int) := by
    rw [IntWalk.i64_in _ ⟨by omega, by omega⟩, Int.tmod_eq_emod_of_nonneg (by omega)]
    push_cast
    rfl
  have hgl : r.items[(r.from_ + i) % r.items.length]? = some r.list[i] := by rw [hget]; exact List.getElem?_eq_getElem hj
  generalize (r.from_ + i) % r.items.length = j at hj hmod hgl
  obtain ⟨g, c, rfl, hgB, hgs, hnc, hcell, _, _⟩ := own_at h.own hj
  have hg2 : (strs r.items)[j]? = some (.string r.list[i]) := by unfold strs; rw [List.getElem?_map, hgl]; rfl
  rw [hg2] at hcell
  have hin : (i : Int) < (r.items.length : Int) := by omega
  have hjn : (j : Int) < (r.items.length : Int) := by omega
  have hz3 : ¬ r.items.length = 0 := by omega
  generalize r.list[i] = y at *
  clear hl h hg2 hget hgl
  go_enter Try.func13, Try.ntmps13
  go_wp2_with fail
  refine HL.out.mono ?_
  rintro e w1 ⟨rfl, rfl⟩
  go_wp2
  refine still_all (by kernel_rfl) (by kernel_rfl) ?_
  repeat still_step
  refine wpStill_nil ?_
  go_wp2
  go_ret2
  exact ⟨rfl, rfl⟩
attribute [local go_sem] Oper.semAt_some
theorem sall1_in (n : Nat) (hn : 1 ≤ n) (l Bb p B tb : Nat) (sl : Value) (r : Rg ByteArray) (J Jx : List ByteArray → World → Prop)
    (hY : ∀ pre x W, J pre W → pre.length < r.list.length → YieldAt Fence.wide (n - 1) Try.prog l #[.string x] W fun e W' =>
      (e = .returned (.bool true) ∧ J (pre ++ [x]) W' ∧ Same (InRg p Bb sl) W W') ∨ (e = .returned (.bool false) ∧ Jx (pre ++ [x]) W'))
    (hJd : ∀ pre W, J pre W → J pre W.drew)
    (W : World) (hBn : Blk W Bb tb #[.pointer (some ⟨p, 0, none⟩)]) (hR : RgS W p B sl r) (h0 : J [] W) :
    CallsIn Fence.wide n Try.prog 45 #[.func (.yield l) #[] #[], .pointer (some ⟨Bb, 0, none⟩)] W fun e W' => (∃ v, e = .returned v) ∧
      ((∃ ys, ys = r.list ∧ J ys W') ∨ (∃ pre, pre <+: r.list ∧ pre ≠ [] ∧ Jx pre W')) := by
  have hll := Rg.length r
  have hroom := hR.ok.most
  have hfits := hR.ok.fits
  refine callsIn_of_wp Try.func45 rfl trivial ?_ rfl
  simp only [Try.ntmps45, List.size_toArray, List.length_cons, List.length_nil, Nat.reduceAdd, Nat.reduceSub, Array.replicate_succ, Array.replicate_zero, List.push_toArray, List.append_toArray, List.nil_append, List.cons_append]
  have b0 := hBn.cell 0
  simp at b0
  gi_wp2
  refine ⟨trivial, (callsIn_wide.2 (slen_any p B sl r _ hR)).mono ?_⟩
  rintro e w' ⟨rfl, rfl⟩
  gi_wp2
  gi_loopw [8] (fun i wr => ∃ k : Nat, k ≤ r.items.length ∧ i = .int .i64 k ∧ J (r.list.take k) wr ∧ Same (InRg p Bb sl) W wr) (fun i _ => r.items.length - (intOf i).toNat)
  case atStart => exact ⟨0, Nat.zero_le _, rfl, by simpa using h0, Same.refl _ _⟩
  case round =>
    obtain ⟨k, hk, rfl, hJs, hS⟩ := hrel
    by_cases hlt : k < r.items.length
    · have hkl : k < r.list.length := by omega
      have b1 : wr.cell? ⟨Bb, 0, none⟩ = some (.pointer (some ⟨p, 0, none⟩)) := by
        have hb1 : Blk wr Bb tb #[.pointer (some ⟨p, 0, none⟩)] := (hS Bb (.inr rfl)).trans hBn
        have := hb1.cell 0
        simpa using this
      have hat := sat_any p B sl r k wr (hR.same hS) hkl
      have hs : r.list.take (k + 1) = r.list.take k ++ [r.list[k]] := List.take_succ_eq_append_getElem hkl
      obtain ⟨fn, tmps, assign, body, hy, hRd⟩ := hY _ r.list[k] wr.drew (hJd _ _ hJs) (by simp; omega)
      generalize r.list[k] = x at *
      gi_wp2
      refine ⟨trivial, (callsIn_wide.2 hat).mono ?_⟩
      rintro e w' ⟨rfl, rfl⟩
      gi_wp2
      refine hRd.mono ?_
      rintro e W3 (⟨rfl, hJ3, hk3⟩ | ⟨rfl, hJx3⟩)
      · gi_wp2
        go_roundw
        case rel => exact ⟨k + 1, by omega, by simp, by rw [hs]; exact hJ3, hS.trans hk3⟩
        case measure => simp [intOf]; omega
      · gi_wp2
        refine bodyPost_ret (results_none rfl _ _ _) rfl ?_
        exact ⟨⟨_, rfl⟩, .inr ⟨_, ⟨r.list.drop (k + 1), by rw [← hs, List.take_append_drop]⟩, by simp, hJx3⟩⟩
    · obtain rfl : k = r.items.length := by omega
      rw [List.take_of_length_le (by omega)] at hJs
      gi_wp2
      go_end0
      exact ⟨⟨_, rfl⟩, .inl ⟨_, rfl, hJs⟩⟩
theorem sall_any (v : Option Addr) (w : World) : Calls Try.prog 15 #[.pointer v] w fun e w' => e = .returned (.func (.func 45) #[] #[.pointer (some ⟨w.heap.size, 0, none⟩)]) ∧ w.alloc (.cells #[.pointer v] 24) = w' := by
  go_enter Try.func15, Try.ntmps15
  go_wp2
  go_ret
  exact ⟨rfl, rfl⟩
theorem sstops (n : Nat) (hn : 1 ≤ n) (Bb p B tb : Nat) (sl : Value) (r : Rg ByteArray) (w : World) (hBn : Blk w Bb tb #[.pointer (some ⟨p, 0, none⟩)]) (hR : RgS w p B sl r) :
    SeqStopsK Fence.wide n Try.prog 45 #[.pointer (some ⟨Bb, 0, none⟩)] (fun x : ByteArray => #[Value.string x]) (Same (InRg p Bb sl)) (fun ys => ys = r.list) (fun pre => pre <+: r.list ∧ pre ≠ []) r.list.length w := fun l J Jx W hW hJ _ hY h0 =>
  (sall1_in n hn l Bb p B tb sl r J Jx hY (fun pre W1 h => hJ pre W1 _ none h ⟨rfl, rfl, rfl, Nat.le_refl _, fun _ _ _ => rfl⟩ (fun _ e => by cases e)) W (hBn.later hW) (hR.up hW) h0).mono
    fun e W' ⟨he, h⟩ => ⟨he, h.imp id fun ⟨pre, h1, h2, h3⟩ => ⟨pre, ⟨h1, h2⟩, h3⟩⟩
end Go.Proofs.Ytgmgddccdfmiiaa
