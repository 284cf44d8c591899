/-
  Rings of numbers, walked: New, Push, Len, Room, At, Clone. Condition: none.
-/
import Derived.Test.YtgmgddccdfmiiaaRing
import Derived.Test.YtgmgddccdfmiiaaRegion
import Derived.Test.YtgmgddccdfmiiaaStill
import Derived.Test.YtgmgddccdfmiiaaOwnN
namespace Go.Fw
open Go.RowKit
set_option linter.unusedVariables false
/-- a ring in memory -/
structure RgAt {α : Type} (cells : List α → List Value) (s : Nat) (T e : TypeId) (w : World) (p B : Nat) (sl : Value) (r : Rg α) : Prop where
  blk : Blk w p T #[sl, .int .i64 (r.from_ : Int), .int .i64 (r.room : Int)]
  own : w.ownsRow B e s sl r.items.length (cells r.items)
  ok : r.ok
section
variable {α : Type} {cells : List α → List Value} {s : Nat} {T e : TypeId} {w w' : World} {p B : Nat} {sl : Value} {r : Rg α}
theorem RgAt.c0 (h : RgAt cells s T e w p B sl r) : w.cell? ⟨p, 0, none⟩ = some sl := by rw [h.blk.cell]; rfl
theorem RgAt.c1 (h : RgAt cells s T e w p B sl r) : w.cell? ⟨p, 1, none⟩ = some (.int .i64 (r.from_ : Int)) := by rw [h.blk.cell]; rfl
theorem RgAt.c2 (h : RgAt cells s T e w p B sl r) : w.cell? ⟨p, 2, none⟩ = some (.int .i64 (r.room : Int)) := by rw [h.blk.cell]; rfl
theorem RgAt.up (h : RgAt cells s T e w p B sl r) (hb : Below w.heap.size w w') : RgAt cells s T e w' p B sl r := ⟨h.blk.later hb, own_later h.own hb, h.ok⟩
theorem RgAt.drew (h : RgAt cells s T e w p B sl r) : RgAt cells s T e w.drew p B sl r := ⟨h.blk, h.own, h.ok⟩
theorem RgAt.keep {L : Nat → Prop} (h : RgAt cells s T e w p B sl r) (hK : Keep L w w') (hp : ¬ L p) (hs : ∀ k, sl.ownBlock = some k → ¬ L k) : RgAt cells s T e w' p B sl r := by
  refine ⟨hK.blk h.blk hp, ⟨h.own.1, ?_⟩, h.ok⟩
  rcases h.own.2 with h2 | ⟨g, cap, cur, rfl, hB, hh, h3⟩
  · exact .inl h2
  · exact .inr ⟨g, cap, cur, rfl, hB, (hK.block g (Blk.lt (t := e) (cs := cur) hh) (hs g rfl)).trans hh, h3⟩
theorem RgAt.new_ (w : World) (n : Nat) (h1 : 1 ≤ n) (h2 : n ≤ 4096) (hc : cells [] = []) : RgAt cells s T e (w.alloc (.cells #[.slice none 0 0, .int .i64 0, .int .i64 (n : Int)] T)) w.heap.size w.heap.size (.slice none 0 0) ⟨[], 0, n⟩ :=
  ⟨Blk.new_at _ _ _ rfl, by rw [hc]; exact World.ownsRow_nil _ _ _ _, Rg.ok_new h1 h2⟩
end
theorem i64s_set (l : List Int) (k : Nat) (x : Int) : (i64s l).set k (.int .i64 x) = i64s (l.set k x) := by simp [i64s, List.map_set]
end Go.Fw
namespace Go.Proofs.Ytgmgddccdfmiiaa
open Go.RowKit Go.Fw
set_option maxHeartbeats 1000000
set_option maxRecDepth 4000
set_option linter.unusedVariables false
set_option linter.unusedSimpArgs false
theorem elemIntR : ElemS Try.prog 34 3 (.int .i64 0) 1 8 := ⟨Try.underlying34, by kernel_rfl, rfl⟩
abbrev RgI (w : World) (p B : Nat) (sl : Value) (r : Rg Int) : Prop := RgAt i64s 1 74 3 w p B sl r
theorem inew_no (n : Int) (w : World) (h : ¬ (1 ≤ n ∧ n ≤ 4096)) : Calls Try.prog 16 #[.int .i64 n] w fun e w' => e = .returned (.pointer none) ∧ w = w' := by
  by_cases h1 : n < 1
  · go_enter Try.func16, Try.ntmps16
    go_wp2
    go_ret
    exact ⟨rfl, rfl⟩
  · have h2 : 4096 < n := by omega
    go_enter Try.func16, Try.ntmps16
    go_wp2
    go_ret
    exact ⟨rfl, rfl⟩
theorem inew_yes (n : Nat) (w : World) (h1 : 1 ≤ n) (h2 : n ≤ 4096) : Calls Try.prog 16 #[.int .i64 (n : Int)] w fun e w' => e = .returned (.pointer (some ⟨w.heap.size, 0, none⟩)) ∧ w.alloc (.cells #[.slice none 0 0, .int .i64 0, .int .i64 (n : Int)] 74) = w' := by
  go_enter Try.func16, Try.ntmps16
  go_wp2
  go_ret
  exact ⟨rfl, rfl⟩
theorem ilen_nil (w : World) : Calls Try.prog 22 #[.pointer none] w fun e w' => e = .returned (.int .i64 0) ∧ w = w' := by
  go_enter Try.func22, Try.ntmps22
  go_wp2
  go_ret
  exact ⟨rfl, rfl⟩
theorem ilen_any (p B : Nat) (sl : Value) (r : Rg Int) (w : World) (h : RgI w p B sl r) : Calls Try.prog 22 #[.pointer (some ⟨p, 0, none⟩)] w fun e w' => e = .returned (.int .i64 (r.items.length : Int)) ∧ w = w' := by
  have c0 := h.c0
  obtain ⟨A, c, rfl, _, _⟩ := own_form h.own
  go_enter Try.func22, Try.ntmps22
  go_wp2
  go_ret
  exact ⟨rfl, rfl⟩
theorem iroom_nil (w : World) : Calls Try.prog 21 #[.pointer none] w fun e w' => e = .returned (.int .i64 0) ∧ w = w' := by
  go_enter Try.func21, Try.ntmps21
  go_wp2
  go_ret
  exact ⟨rfl, rfl⟩
theorem iroom_any (p B : Nat) (sl : Value) (r : Rg Int) (w : World) (h : RgI w p B sl r) : Calls Try.prog 21 #[.pointer (some ⟨p, 0, none⟩)] w fun e w' => e = .returned (.int .i64 (r.room : Int)) ∧ w = w' := by
  have c2 := h.c2
  go_enter Try.func21, Try.ntmps21
  go_wp2
  go_ret
  exact ⟨rfl, rfl⟩
theorem ipush_nil (x : Int) (w : World) : Calls Try.prog 17 #[.pointer none, .int .i64 x] w fun e w' => e = .returned (.tuple #[.int .i64 0, .bool false]) ∧ w = w' := by
  go_enter Try.func17, Try.ntmps17
  go_wp2
  go_ret2
  exact ⟨rfl, rfl⟩
/-- what is pushed out -/
def outI (r : Rg Int) : Int × Bool := if r.items.length < r.room then (0, false) else (r.list.head?.getD 0, true)
theorem ipush_all (p B : Nat) (sl : Value) (r : Rg Int) (x : Int) (w : World) (h : RgI w p B sl r) (hB : B ≤ w.heap.size) (hpB : p < B ∨ True) :
    Calls Try.prog 17 #[.pointer (some ⟨p, 0, none⟩), .int .i64 x] w fun e w' => e = .returned (.tuple #[.int .i64 (outI r).1, .bool (outI r).2]) ∧ ∃ sl', RgI w' p B sl' (r.push x) ∧ Keep (fun j => j = p ∨ sl.ownBlock = some j) w w' ∧ (sl'.ownBlock = sl.ownBlock ∨ ∀ k, sl'.ownBlock = some k → w.heap.size ≤ k) := by
  have c0 := h.c0
  have c1 := h.c1
  have c2 := h.c2
  have f0 := h.blk.frozen 0
  have f1 := h.blk.frozen 1
  have hnp := own_ne h.own h.blk (by decide)
  have hlp := h.blk.lt
  have hok := h.ok
  have hown := h.own
  have hpush : r.push x = if r.items.length < r.room then { r with items := r.items ++ [x] } else ⟨r.items.set r.from_ x, (r.from_ + 1) % r.room, r.room⟩ := rfl
  have hout : outI r = if r.items.length < r.room then (0, false) else (r.list.head?.getD 0, true) := rfl
  have HPO := Lib.hid (And.intro hpush hout)
  have hroom := hok.most
  have hpos := hok.pos
  have hfits := hok.fits
  have hz2 : ((r.room : Int) == 0) = false := by simp; omega
  obtain ⟨A, c, rfl, _, _⟩ := own_form h.own
  have HH := Lib.hid h
  clear hpush hout h
  by_cases hlt : r.items.length < r.room
  · have HLT := Lib.hid hlt
    have hlt2 : (r.items.length : Int) < (r.room : Int) := by omega
    clear hok
    go_enter Try.func17, Try.ntmps17
    go_wp2
    refine still_all (by kernel_rfl) (by kernel_rfl) ?_
    repeat still_step
    refine wpStill_nil ?_
    have hownd : w.drew.ownsRow B 3 1 (.slice A r.items.length c) r.items.length (i64s r.items) := hown
    go_wp2_with (at_builtin; go_must (refine wpList_append_oneN (w := w.drew) (n := r.items.length) (xs := i64s r.items) elemIntR (by decide) rfl (.tmp 34) (.tmp 36) rfl rfl hownd hB rfl rfl rfl (by simp [Value.oneCell']) (by omega) (by unfold maxLen; omega) ?_); intro v' w' hm' hg' hvb; obtain ⟨A3, k3, rfl, _, _⟩ := own_form hm'; have hb3 : Blk w' p 74 _ := HH.out.drew.blk.grown hg' (Ne.symm hnp); have q0 := hb3.cell 0; have q1 := hb3.frozen 0; simp at q0)
    go_ret2
    have hK : Keep (fun j => j = p ∨ (Value.slice A r.items.length c).ownBlock = some j) w w' := grownK (w1 := w.drew) (Keep.refl (fun _ => False) w).drew hg' (fun _ h => h.elim) fun k e => .inr e
    refine ⟨by rw [HPO.out.2, if_pos HLT.out]; rfl, ⟨.slice A3 (r.items.length + 1) k3, ?_, hK.setCell (p := ⟨p, 0, none⟩) (.inl (.inl rfl)) _, hvb⟩⟩
    rw [HPO.out.1, if_pos HLT.out]
    have hq := Rg.push_ok HH.out.ok x
    rw [HPO.out.1, if_pos HLT.out] at hq
    have hb4 := hb3.set_ 0 (.slice A3 (r.items.length + 1) k3)
    refine ⟨by simpa using hb4, ?_, hq⟩
    have ho4 := own_set (p := ⟨p, 0, none⟩) hm' (own_ne hm' hb3 (by decide)) (.slice A3 (r.items.length + 1) k3)
    simpa [i64s] using ho4
  · have hl : r.items.length = r.room := by omega
    have hfl : r.from_ < r.items.length := by have := hok.lt; omega
    obtain ⟨hj, hhead⟩ := Rg.head hok hlt
    obtain ⟨g, cc, e1, hgB, hgs, hnc, hcell, hfro, hset⟩ := own_at hown hfl
    injection e1 with e11 _ e12
    subst e11 e12
    have hgp : g ≠ p := fun e => hnp (by rw [← e]; rfl)
    have hpg : p ≠ g := fun e => hgp e.symm
    have hget : (i64s r.items)[r.from_]? = some (.int .i64 r.items[r.from_]) := by simp [i64s, hfl]
    rw [hget] at hcell
    have hlt2 : ¬ (r.items.length : Int) < (r.room : Int) := by omega
    have hsx := hset (.int .i64 x)
    rw [i64s_set] at hsx
    have HF := Lib.hid (And.intro hlt (And.intro hhead (And.intro hsx hl)))
    have hfr := hok.lt
    clear hsx hset hhead hok hlt hl hget
    have hz3 : ¬ r.room = 0 := by omega
    have hmod : (IntKind.i64.wrap ((r.from_ : Int) + 1)).tmod (r.room : Int) = (((r.from_ + 1) % r.room : Nat) : Int) := by
      rw [IntWalk.i64_in _ ⟨by omega, by omega⟩, Int.tmod_eq_emod_of_nonneg (by omega)]
      push_cast
      rfl
    generalize r.items[r.from_] = y at *
    go_enter Try.func17, Try.ntmps17
    go_wp2
    refine still_all (by kernel_rfl) (by kernel_rfl) ?_
    repeat still_step
    refine wpStill_nil ?_
    go_wp2
    refine still_all (by kernel_rfl) (by kernel_rfl) ?_
    repeat still_step
    refine wpStill_nil ?_
    go_wp2
    refine still_start 10 (by kernel_rfl) (by kernel_rfl) ?_
    simp only [List.take_succ_cons, List.take_zero, List.drop_succ_cons, List.drop_zero]
    repeat still_step
    refine wpStill_nil ?_
    go_wp2
    refine still_start 13 (by kernel_rfl) (by kernel_rfl) ?_
    simp only [List.take_succ_cons, List.take_zero, List.drop_succ_cons, List.drop_zero]
    repeat still_step
    refine wpStill_nil ?_
    go_wp2
    go_ret2
    have hR : RgI ((w.setCell ⟨g, r.from_, none⟩ (.int .i64 x)).setCell ⟨p, 1, none⟩ (.int .i64 (((r.from_ : Int) + 1) % (r.room : Int)))) p B (.slice (some ⟨g, 0, none⟩) r.items.length c) (r.push x) := by
      have hq := Rg.push_ok HH.out.ok x
      rw [HPO.out.1, if_neg HF.out.1] at hq ⊢
      have hb := (HH.out.blk.far (p := ⟨g, r.from_, none⟩) hpg (.int .i64 x)).set_ 1 (.int .i64 (((r.from_ : Int) + 1) % (r.room : Int)))
      have ho := own_set (p := ⟨p, 1, none⟩) HF.out.2.2.1 hnp (.int .i64 (((r.from_ : Int) + 1) % (r.room : Int)))
      exact ⟨by simpa using hb, by simpa using ho, hq⟩
    have hK : Keep (fun j => j = p ∨ (Value.slice (some ⟨g, 0, none⟩) r.items.length c).ownBlock = some j) w ((w.setCell ⟨g, r.from_, none⟩ (.int .i64 x)).setCell ⟨p, 1, none⟩ (.int .i64 (((r.from_ : Int) + 1) % (r.room : Int)))) :=
      ((Keep.refl _ w).setCell (p := ⟨g, r.from_, none⟩) (.inl (.inr rfl)) _).setCell (p := ⟨p, 1, none⟩) (.inl (.inl rfl)) _
    exact ⟨by rw [HPO.out.2, if_neg HF.out.1, HF.out.2.1]; rfl, _, hR.drew.drew.drew.drew, hK.drew.drew.drew.drew, .inl rfl⟩
theorem ipush_any (p B : Nat) (sl : Value) (r : Rg Int) (x : Int) (w : World) (h : RgI w p B sl r) (hB : B ≤ w.heap.size) (hpB : p < B ∨ True) :
    Calls Try.prog 17 #[.pointer (some ⟨p, 0, none⟩), .int .i64 x] w fun e w' => e = .returned (.tuple #[.int .i64 (outI r).1, .bool (outI r).2]) ∧ ∃ sl', RgI w' p B sl' (r.push x) ∧ Keep (fun j => j = p ∨ sl.ownBlock = some j) w w' :=
  (ipush_all p B sl r x w h hB hpB).mono fun _ _ ⟨h1, sl', h2, h3, _⟩ => ⟨h1, sl', h2, h3⟩
theorem iat_no (p B : Nat) (sl : Value) (r : Rg Int) (i : Int) (w : World) (h : RgI w p B sl r) (hi : ¬ (0 ≤ i ∧ i < (r.items.length : Int))) :
    Calls Try.prog 59 #[.pointer (some ⟨p, 0, none⟩), .int .i64 i] w fun e w' => e = .returned (.tuple #[.int .i64 0, .bool false]) ∧ w = w' := by
  have hl := ilen_any p B sl r w h
  have HL := Lib.hid hl
  clear hl
  by_cases h1 : i < 0
  · go_enter Try.func59, Try.ntmps59
    go_wp2
    go_ret2
    exact ⟨rfl, rfl⟩
  · have h2 : (r.items.length : Int) ≤ i := by omega
    go_enter Try.func59, Try.ntmps59
    go_wp2_with fail
    refine HL.out.mono ?_
    rintro e w1 ⟨rfl, rfl⟩
    go_wp2
    go_ret2
    exact ⟨rfl, rfl⟩
theorem iat_any (p B : Nat) (sl : Value) (r : Rg Int) (i : Nat) (w : World) (h : RgI w p B sl r) (hi : i < r.list.length) :
    Calls Try.prog 59 #[.pointer (some ⟨p, 0, none⟩), .int .i64 (i : Int)] w fun e w' => e = .returned (.tuple #[.int .i64 r.list[i], .bool true]) ∧ w.drew = w' := by
  have hl := ilen_any p B sl r w h
  have HL := Lib.hid hl
  have hll := Rg.length r
  obtain ⟨hj, hget⟩ := Rg.get h.ok hi
  have hroom := h.ok.most
  have hfits := h.ok.fits
  have hlt := h.ok.lt
  have c0 := h.c0
  have c1 := h.c1
  have hmod : (IntKind.i64.wrap ((r.from_ : Int) + (i : Int))).tmod (r.items.length : Int) = (((r.from_ + i) % r.items.length : Nat) : Int) := by
    rw [IntWalk.i64_in _ ⟨by omega, by omega⟩, Int.tmod_eq_emod_of_nonneg (by omega)]
    push_cast
    rfl
  have hgl : r.items[(r.from_ + i) % r.items.length]? = some r.list[i] := by rw [hget]; exact List.getElem?_eq_getElem hj
  generalize (r.from_ + i) % r.items.length = j at hj hmod hgl
  obtain ⟨g, c, rfl, hgB, hgs, hnc, hcell, _, _⟩ := own_at h.own hj
  have hg2 : (i64s r.items)[j]? = some (.int .i64 r.list[i]) := by unfold i64s; rw [List.getElem?_map, hgl]; rfl
  rw [hg2] at hcell
  have hin : (i : Int) < (r.items.length : Int) := by omega
  have hjn : (j : Int) < (r.items.length : Int) := by omega
  have hz3 : ¬ r.items.length = 0 := by omega
  generalize r.list[i] = y at *
  clear hl h hg2 hget hgl
  go_enter Try.func59, Try.ntmps59
  go_wp2_with fail
  refine HL.out.mono ?_
  rintro e w1 ⟨rfl, rfl⟩
  go_wp2
  refine still_all (by kernel_rfl) (by kernel_rfl) ?_
  repeat still_step
  refine wpStill_nil ?_
  go_wp2
  go_ret2
  exact ⟨rfl, rfl⟩
end Go.Proofs.Ytgmgddccdfmiiaa
