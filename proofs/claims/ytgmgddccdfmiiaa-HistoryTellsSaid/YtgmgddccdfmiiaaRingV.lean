/-
  Rings of decisions, walked: New, Len, Push, At, Last. Condition: none.
-/
import Derived.Test.YtgmgddccdfmiiaaRingIL
import Derived.Test.YtgmgddccdfmiiaaRingVSet
import Derived.Test.YtgmgddccdfmiiaaOrder
import Derived.Deep.Cut
namespace Go.Fw
open Go.RowKit
set_option linter.unusedVariables false
/-- a decision as a value -/
def Adv.val (a : Adv) : Value := .agg #[.int .i64 a.tick, .int .i64 a.load, .int .i64 a.want, .int .i64 a.reps, .int .i64 a.why]
def Adv.arr (a : Adv) : Array Value := #[.int .i64 a.tick, .int .i64 a.load, .int .i64 a.want, .int .i64 a.reps, .int .i64 a.why]
def Adv.zero : Adv := ⟨0, 0, 0, 0, 0⟩
/-- an element of five cells of a row of the call's own -/
theorem own_at5 {w : World} {B : Nat} {e : TypeId} {n k : Nat} {v : Value} {l : List Adv} (h : w.ownsRow B e 5 v n (advs l)) (hn : n = l.length) (hk : k < l.length) :
    ∃ g c, v = .slice (some ⟨g, 0, none⟩) n c ∧ B ≤ g ∧ g < w.heap.size ∧ n ≤ c ∧
      w.cell? ⟨g, k * 5, none⟩ = some (.int .i64 l[k].tick) ∧ w.cell? ⟨g, k * 5 + 1, none⟩ = some (.int .i64 l[k].load) ∧ w.cell? ⟨g, k * 5 + 2, none⟩ = some (.int .i64 l[k].want) ∧ w.cell? ⟨g, k * 5 + 3, none⟩ = some (.int .i64 l[k].reps) ∧ w.cell? ⟨g, k * 5 + 4, none⟩ = some (.int .i64 l[k].why) ∧
      (∀ i, w.frozen? ⟨g, i, none⟩ = false) := by
  obtain ⟨hl, h⟩ := h
  rcases h with ⟨_, rfl⟩ | ⟨g, cap, cur, rfl, hB, hh, hnc, hc, hs, ht⟩
  · simp at hl; omega
  · have hb' : Blk w g e cur := hh
    have hget : ∀ j, j < 5 → w.cell? ⟨g, k * 5 + j, none⟩ = (Adv.cells l[k])[j]? := by
      intro j hj
      rw [hb'.cell, ← flat_get Adv.cells 5 Adv.cells_length l k j hk hj]
      show cur[k * 5 + j]? = (advs l)[k * 5 + j]?
      rw [← ht, List.getElem?_take_of_lt (by omega)]
      simp
    exact ⟨g, cap, rfl, hB, hb'.lt, hnc, hget 0 (by decide), hget 1 (by decide), hget 2 (by decide), hget 3 (by decide), hget 4 (by decide), fun i => hb'.frozen i⟩
/-- five cells are written, one by one -/
def set5 (w : World) (g : Nat) (o : Nat) (a : Adv) : World :=
  ((((w.setCell ⟨g, o, none⟩ (.int .i64 a.tick)).setCell ⟨g, o + 1, none⟩ (.int .i64 a.load)).setCell ⟨g, o + 2, none⟩ (.int .i64 a.want)).setCell ⟨g, o + 3, none⟩ (.int .i64 a.reps)).setCell ⟨g, o + 4, none⟩ (.int .i64 a.why)
theorem Blk.set5 {w : World} {g : Nat} {t : TypeId} {c0 c1 c2 c3 c4 : Value} (h : Blk w g t #[c0, c1, c2, c3, c4]) (a : Adv) : Blk (Go.Fw.set5 w g 0 a) g t a.arr := by
  have h5 := ((((h.set_ 0 (.int .i64 a.tick)).set_ 1 (.int .i64 a.load)).set_ 2 (.int .i64 a.want)).set_ 3 (.int .i64 a.reps)).set_ 4 (.int .i64 a.why)
  exact h5
theorem set5_other (w : World) (g o : Nat) (a : Adv) (k : Nat) (h : k ≠ g) : (set5 w g o a).heap[k]? = w.heap[k]? := by
  unfold set5
  rw [Below.heap_setCell _ _ _ k h, Below.heap_setCell _ _ _ k h, Below.heap_setCell _ _ _ k h, Below.heap_setCell _ _ _ k h, Below.heap_setCell _ _ _ k h]
theorem Keep.set5 {L : Nat → Prop} {w w' : World} (h : Keep L w w') {g : Nat} (hg : L g ∨ w.heap.size ≤ g) (o : Nat) (a : Adv) : Keep L w (Go.Fw.set5 w' g o a) :=
  ((((h.setCell (p := ⟨g, o, none⟩) hg _).setCell (p := ⟨g, o + 1, none⟩) hg _).setCell (p := ⟨g, o + 2, none⟩) hg _).setCell (p := ⟨g, o + 3, none⟩) hg _).setCell (p := ⟨g, o + 4, none⟩) hg _
theorem Below.set5 {n : Nat} {w w' : World} (h : Below n w w') {g : Nat} (hg : n ≤ g) (o : Nat) (a : Adv) : Below n w (Go.Fw.set5 w' g o a) :=
  ((((h.setCell (p := ⟨g, o, none⟩) hg _).setCell (p := ⟨g, o + 1, none⟩) hg _).setCell (p := ⟨g, o + 2, none⟩) hg _).setCell (p := ⟨g, o + 3, none⟩) hg _).setCell (p := ⟨g, o + 4, none⟩) hg _
theorem own_set5 {w : World} {B : Nat} {e : TypeId} {s n : Nat} {v : Value} {xs : List Value} (h : w.ownsRow B e s v n xs) {g : Nat} (hne : v.ownBlock ≠ some g) (o : Nat) (a : Adv) : (Go.Fw.set5 w g o a).ownsRow B e s v n xs :=
  own_set (p := ⟨g, o + 4, none⟩) (own_set (p := ⟨g, o + 3, none⟩) (own_set (p := ⟨g, o + 2, none⟩) (own_set (p := ⟨g, o + 1, none⟩) (own_set (p := ⟨g, o, none⟩) h hne _) hne _) hne _) hne _) hne _
theorem wp_append_oneN {P : Program} {s : Nat} {w : World} {o : Oper} {a : Act} {K : Act → World → Prop} {Q : Exit → Act → World → Prop} {t e e' : TypeId} {z : Value} {bytes : Nat} (hT : ElemS P t e z s bytes) (hs0 : 0 < s)
    (sl x : Operand) (ho : o.op = .call { callee := .builtin .append, args := #[sl, x], argTypes := #[t, t] })
    {v : Value} {n B g : Nat} {xs : List Value} (hs : a.eval sl = v) (hm : w.ownsRow B e s v n xs) (hB : B ≤ w.heap.size) (hg : g = w.heap.size) {cs : Array Value} (hx : a.eval x = .slice (some ⟨g, 0, none⟩) 1 1) (hcs : cs.size = s) (h1 : ∀ u ∈ cs.toList, u.oneCell' = true)
    (hlen : (n + 1) * bytes ≤ 140737488355328) (hle : n + 1 ≤ maxLen)
    (h : ∀ v' w', w'.ownsRow B e s v' (n + 1) (xs ++ cs.toList) → w.grownBy w' v.ownBlock → (v'.ownBlock = v.ownBlock ∨ ∀ k, v'.ownBlock = some k → w.heap.size ≤ k) → K (a.put o.dst v') w') :
    o.wp P a (w.alloc (.cells cs e')) K Q := by
  obtain ⟨i, hi, hz, hsz, hby⟩ := info_parts hT.info
  refine wp_append_any (w.alloc (.cells cs e')) sl x t ho B e i z s bytes hT.under hi hz hsz hby hT.cells hs0 v n xs hs (hm.alloc _) _ _ 1 1 cs.toList hx (reads_newS w e' cs s 1 g _ (by omega) hg rfl) h1 hle hlen (by simp; omega) fun v' w' h2 h3 h4 => ?_
  have hg : w.grownBy w' v.ownBlock := ⟨h3.os, h3.tape, h3.output, Nat.le_trans (by simp) h3.size, fun k hk hne => (h3.block k (by simp; omega) hne).trans (Below.heap_alloc w _ k hk)⟩
  refine h v' w' h2 hg ?_
  rcases h4 with h4 | h4
  · exact .inl h4
  · refine .inr fun k hk => ?_
    rw [h4] at hk
    injection hk with hk
    simp at hk
    omega
/-- what a block of five cells tells -/
theorem Blk.five {w : World} {g : Nat} {t : TypeId} {a : Adv} (h : Blk w g t a.arr) :
    w.cell? ⟨g, 0, none⟩ = some (.int .i64 a.tick) ∧ w.cell? ⟨g, 1, none⟩ = some (.int .i64 a.load) ∧ w.cell? ⟨g, 2, none⟩ = some (.int .i64 a.want) ∧ w.cell? ⟨g, 3, none⟩ = some (.int .i64 a.reps) ∧ w.cell? ⟨g, 4, none⟩ = some (.int .i64 a.why) :=
  ⟨h.cell 0, h.cell 1, h.cell 2, h.cell 3, h.cell 4⟩
theorem Blk.free5 {w : World} {g : Nat} {t : TypeId} {cs : Array Value} (h : Blk w g t cs) :
    w.frozen? ⟨g, 0, none⟩ = false ∧ w.frozen? ⟨g, 1, none⟩ = false ∧ w.frozen? ⟨g, 2, none⟩ = false ∧ w.frozen? ⟨g, 3, none⟩ = false ∧ w.frozen? ⟨g, 4, none⟩ = false := ⟨h.frozen 0, h.frozen 1, h.frozen 2, h.frozen 3, h.frozen 4⟩
end Go.Fw
namespace Go.Proofs.Ytgmgddccdfmiiaa
open Go.RowKit Go.Fw
set_option maxHeartbeats 2000000
set_option maxRecDepth 4000
set_option linter.unusedVariables false
set_option linter.unusedSimpArgs false
theorem elemAdvR : ElemS Try.prog 46 53 (.agg #[.int .i64 0, .int .i64 0, .int .i64 0, .int .i64 0, .int .i64 0]) 5 40 := ⟨Try.underlying46, by kernel_rfl, rfl⟩
abbrev RgV (w : World) (p B : Nat) (sl : Value) (r : Rg Adv) : Prop := RgAt advs 5 91 53 w p B sl r
theorem vnew_no (n : Int) (w : World) (h : ¬ (1 ≤ n ∧ n ≤ 4096)) : Calls Try.prog 51 #[.int .i64 n] w fun e w' => e = .returned (.pointer none) ∧ w = w' := by
  by_cases h1 : n < 1
  · go_enter Try.func51, Try.ntmps51
    go_wp2
    go_ret
    exact ⟨rfl, rfl⟩
  · have h2 : 4096 < n := by omega
    go_enter Try.func51, Try.ntmps51
    go_wp2
    go_ret
    exact ⟨rfl, rfl⟩
theorem vnew_yes (n : Nat) (w : World) (h1 : 1 ≤ n) (h2 : n ≤ 4096) : Calls Try.prog 51 #[.int .i64 (n : Int)] w fun e w' => e = .returned (.pointer (some ⟨w.heap.size, 0, none⟩)) ∧ w.alloc (.cells #[.slice none 0 0, .int .i64 0, .int .i64 (n : Int)] 91) = w' := by
  go_enter Try.func51, Try.ntmps51
  go_wp2
  go_ret
  exact ⟨rfl, rfl⟩
theorem vlen_nil (w : World) : Calls Try.prog 55 #[.pointer none] w fun e w' => e = .returned (.int .i64 0) ∧ w = w' := by
  go_enter Try.func55, Try.ntmps55
  go_wp2
  go_ret
  exact ⟨rfl, rfl⟩
theorem vlen_any (p B : Nat) (sl : Value) (r : Rg Adv) (w : World) (h : RgV w p B sl r) : Calls Try.prog 55 #[.pointer (some ⟨p, 0, none⟩)] w fun e w' => e = .returned (.int .i64 (r.items.length : Int)) ∧ w = w' := by
  have c0 := h.c0
  obtain ⟨A, c, rfl, _, _⟩ := own_form h.own
  go_enter Try.func55, Try.ntmps55
  go_wp2
  go_ret
  exact ⟨rfl, rfl⟩
theorem vpush_nil (x : Adv) (w : World) : Calls Try.prog 54 #[.pointer none, x.val] w fun e w' => (∃ v, e = .returned v) ∧ Below w.heap.size w w' := by
  obtain ⟨x1, x2, x3, x4, x5⟩ := x
  unfold Adv.val
  go_enter Try.func54, Try.ntmps54
  have hb : Below w.heap.size w (((w.alloc (.cells #[.int .i64 x1, .int .i64 x2, .int .i64 x3, .int .i64 x4, .int .i64 x5] 53)).alloc (.cells (Adv.arr ⟨0, 0, 0, 0, 0⟩) 53)).alloc (.cells (Adv.arr ⟨0, 0, 0, 0, 0⟩) 53)) := sub_alloc (sub_alloc (sub_alloc (Below.refl _ _) _) _) _
  have b4 : Blk (((w.alloc (.cells #[.int .i64 x1, .int .i64 x2, .int .i64 x3, .int .i64 x4, .int .i64 x5] 53)).alloc (.cells (Adv.arr ⟨0, 0, 0, 0, 0⟩) 53)).alloc (.cells (Adv.arr ⟨0, 0, 0, 0, 0⟩) 53)) (w.heap.size + 1) 53 (Adv.arr ⟨0, 0, 0, 0, 0⟩) := (Blk.new_at _ _ _ (by simp)).alloc _
  unfold Adv.arr at b4 hb
  obtain ⟨z0, z1, z2, z3, z4⟩ := Blk.five (a := ⟨0, 0, 0, 0, 0⟩) b4
  simp only at z0 z1 z2 z3 z4 hb
  go_wp2
  refine bodyPost_ret (v := .tuple #[.agg #[.int .i64 0, .int .i64 0, .int .i64 0, .int .i64 0, .int .i64 0], .bool false]) (by simp [results, Try.results54, go_sem]) rfl ⟨⟨_, rfl⟩, hb⟩
theorem vat_any (p B : Nat) (sl : Value) (r : Rg Adv) (i : Nat) (w : World) (h : RgV w p B sl r) (hi : i < r.list.length) :
    Calls Try.prog 62 #[.pointer (some ⟨p, 0, none⟩), .int .i64 (i : Int)] w fun e w' => e = .returned (.tuple #[r.list[i].val, .bool true]) ∧ Below w.heap.size w w' := by
  have hl := fun w (h : RgV w p B sl r) => vlen_any p B sl r w h
  have HL := Lib.hid hl
  have hll := Rg.length r
  obtain ⟨hj, hget⟩ := Rg.get h.ok hi
  have hroom := h.ok.most
  have hfits := h.ok.fits
  have hlt := h.ok.lt
  have c0 := h.c0
  have c1 := h.c1
  have hmod : (IntKind.i64.wrap ((r.from_ : Int) + (i : Int))).tmod (r.items.length : Int) = (((r.from_ + i) % r.items.length : Nat) : Int) := by
    rw [IntWalk.i64_in _ ⟨by omega, by omega⟩, Int.tmod_eq_emod_of_nonneg (by omega)]
    push_cast
    rfl
  rw [hget]
  have HH := Lib.hid h
  generalize (r.from_ + i) % r.items.length = j at hj hmod hget ⊢
  obtain ⟨g, c, rfl, hgB, hgs, hnc, hc0, hc1, hc2, hc3, hc4, _⟩ := own_at5 h.own rfl hj
  have hin : (i : Int) < (r.items.length : Int) := by omega
  have hjn : (j : Int) < (r.items.length : Int) := by omega
  have hz3 : ¬ r.items.length = 0 := by omega
  generalize r.items[j] = y at *
  obtain ⟨y1, y2, y3, y4, y5⟩ := y
  unfold Adv.val
  simp only at hc0 hc1 hc2 hc3 hc4 ⊢
  have hlp := h.blk.lt
  clear hl hget h
  go_enter Try.func62, Try.ntmps62
  go_wp2_with fail
  refine (HL.out _ ((HH.out.up (sub_alloc (Below.refl _ _) _)).up (sub_alloc (Below.refl _ _) _))).mono ?_
  rintro e w1 ⟨rfl, rfl⟩
  have hb : Below w.heap.size w ((w.alloc (.cells #[.int .i64 0, .int .i64 0, .int .i64 0, .int .i64 0, .int .i64 0] 53)).alloc (.cells #[.int .i64 0, .int .i64 0, .int .i64 0, .int .i64 0, .int .i64 0] 53)) := sub_alloc (sub_alloc (Below.refl _ _) _) _
  have b4 : Blk ((w.alloc (.cells #[.int .i64 0, .int .i64 0, .int .i64 0, .int .i64 0, .int .i64 0] 53)).alloc (.cells #[.int .i64 0, .int .i64 0, .int .i64 0, .int .i64 0, .int .i64 0] 53)) w.heap.size 53 #[.int .i64 0, .int .i64 0, .int .i64 0, .int .i64 0, .int .i64 0] := (Blk.new_at _ _ _ rfl).alloc _
  generalize (w.alloc (.cells #[.int .i64 0, .int .i64 0, .int .i64 0, .int .i64 0, .int .i64 0] 53)).alloc (.cells #[.int .i64 0, .int .i64 0, .int .i64 0, .int .i64 0, .int .i64 0] 53) = W2 at *
  have d0 := (Below.cell hb (p := ⟨p, 0, none⟩) hlp).trans c0
  have d1 := (Below.cell hb (p := ⟨p, 1, none⟩) hlp).trans c1
  have e0 := (Below.cell hb (p := ⟨g, j * 5, none⟩) hgs).trans hc0
  have e1 := (Below.cell hb (p := ⟨g, j * 5 + 1, none⟩) hgs).trans hc1
  have e2 := (Below.cell hb (p := ⟨g, j * 5 + 2, none⟩) hgs).trans hc2
  have e3 := (Below.cell hb (p := ⟨g, j * 5 + 3, none⟩) hgs).trans hc3
  have e4 := (Below.cell hb (p := ⟨g, j * 5 + 4, none⟩) hgs).trans hc4
  have f0 := b4.frozen 0
  have f1 := b4.frozen 1
  have f2 := b4.frozen 2
  have f3 := b4.frozen 3
  have f4 := b4.frozen 4
  have g0 := b4.cell 0
  have g1 := b4.cell 1
  have g2 := b4.cell 2
  have g3 := b4.cell 3
  have g4 := b4.cell 4
  simp at g0 g1 g2 g3 g4
  clear c0 c1 hc0 hc1 hc2 hc3 hc4
  go_wp2
  refine still_start 18 (by kernel_rfl) (by kernel_rfl) ?_
  simp only [List.take_succ_cons, List.take_zero, List.drop_succ_cons, List.drop_zero]
  repeat still_step
  refine wpStill_nil ?_
  go_wp2
  have b5 : Blk (set5 W2 w.heap.size 0 ⟨y1, y2, y3, y4, y5⟩).drew w.heap.size 53 (Adv.arr ⟨y1, y2, y3, y4, y5⟩) := (b4.set5 ⟨y1, y2, y3, y4, y5⟩).drew
  have hb5 : Below w.heap.size w (set5 W2 w.heap.size 0 ⟨y1, y2, y3, y4, y5⟩).drew := (Below.set5 hb (Nat.le_refl _) 0 ⟨y1, y2, y3, y4, y5⟩).drew
  obtain ⟨z0, z1, z2, z3, z4⟩ := b5.five
  unfold set5 at z0 z1 z2 z3 z4 hb5
  simp only [Nat.zero_add] at z0 z1 z2 z3 z4 hb5
  refine bodyPost_ret (v := .tuple #[.agg #[.int .i64 y1, .int .i64 y2, .int .i64 y3, .int .i64 y4, .int .i64 y5], .bool true]) (by simp [results, Try.results62, go_sem, z0, z1, z2, z3, z4]) rfl ⟨rfl, hb5⟩
/-- what is pushed out -/
def outV (r : Rg Adv) : Adv × Bool := if r.items.length < r.room then (Adv.zero, false) else (r.list.head?.getD Adv.zero, true)
theorem vpush_few (p B : Nat) (sl : Value) (r : Rg Adv) (x : Adv) (w : World) (h : RgV w p B sl r) (hB : B ≤ w.heap.size) (hlt : r.items.length < r.room) :
    Calls Try.prog 54 #[.pointer (some ⟨p, 0, none⟩), x.val] w fun e w' => e = .returned (.tuple #[Adv.zero.val, .bool false]) ∧ ∃ sl', RgV w' p B sl' (r.push x) ∧ Keep (fun j => j = p ∨ sl.ownBlock = some j) w w' ∧ (sl'.ownBlock = sl.ownBlock ∨ ∀ k, sl'.ownBlock = some k → w.heap.size ≤ k) := by
  obtain ⟨x1, x2, x3, x4, x5⟩ := x
  have hb : Below w.heap.size w (((w.alloc (.cells (Adv.arr ⟨x1, x2, x3, x4, x5⟩) 53)).alloc (.cells (Adv.arr ⟨0, 0, 0, 0, 0⟩) 53)).alloc (.cells (Adv.arr ⟨0, 0, 0, 0, 0⟩) 53)) := sub_alloc (sub_alloc (sub_alloc (Below.refl _ _) _) _) _
  have bx : Blk (((w.alloc (.cells (Adv.arr ⟨x1, x2, x3, x4, x5⟩) 53)).alloc (.cells (Adv.arr ⟨0, 0, 0, 0, 0⟩) 53)).alloc (.cells (Adv.arr ⟨0, 0, 0, 0, 0⟩) 53)) w.heap.size 53 (Adv.arr ⟨x1, x2, x3, x4, x5⟩) := ((Blk.new_at _ _ _ rfl).alloc _).alloc _
  have bo : Blk (((w.alloc (.cells (Adv.arr ⟨x1, x2, x3, x4, x5⟩) 53)).alloc (.cells (Adv.arr ⟨0, 0, 0, 0, 0⟩) 53)).alloc (.cells (Adv.arr ⟨0, 0, 0, 0, 0⟩) 53)) (w.heap.size + 1) 53 (Adv.arr ⟨0, 0, 0, 0, 0⟩) := (Blk.new_at _ _ _ (by simp)).alloc _
  have bn : Blk (((w.alloc (.cells (Adv.arr ⟨x1, x2, x3, x4, x5⟩) 53)).alloc (.cells (Adv.arr ⟨0, 0, 0, 0, 0⟩) 53)).alloc (.cells (Adv.arr ⟨0, 0, 0, 0, 0⟩) 53)) (w.heap.size + 1 + 1) 53 (Adv.arr ⟨0, 0, 0, 0, 0⟩) := Blk.new_at _ _ _ (by simp)
  have hlp := h.blk.lt
  have hok := h.ok
  have hroom := hok.most
  have hpos := hok.pos
  have h3 := h.up hb
  obtain ⟨A, c, rfl, _, _⟩ := own_form h.own
  have HH := Lib.hid h
  unfold Adv.val Adv.zero
  unfold Adv.arr at hb bx bo bn h3
  clear h
  have hlt2 : (r.items.length : Int) < (r.room : Int) := by omega
  have hz2 : ((r.room : Int) == 0) = false := by simp; omega
  have HLT := Lib.hid hlt
  go_enter Try.func54, Try.ntmps54
  go_upto_region 2 with fail
  generalize (((w.alloc (.cells #[.int .i64 x1, .int .i64 x2, .int .i64 x3, .int .i64 x4, .int .i64 x5] 53)).alloc (.cells #[.int .i64 0, .int .i64 0, .int .i64 0, .int .i64 0, .int .i64 0] 53)).alloc (.cells #[.int .i64 0, .int .i64 0, .int .i64 0, .int .i64 0, .int .i64 0] 53)) = W3 at *
  have c0 := h3.c0
  have c1 := h3.c1
  have c2 := h3.c2
  go_wp2
  refine still_all (by kernel_rfl) (by kernel_rfl) ?_
  repeat still_step
  refine wpStill_nil ?_
  go_upto_region 5 with fail
  have h4 : RgV W3.drew p B _ r := h3.drew
  have hb4 := hb.drew
  have bx4 := bx.drew
  have bo4 := bo.drew
  have bn4 := bn.drew
  clear h3 hb bx bo bn c0 c1 c2
  generalize W3.drew = W4 at *
  have d0 := h4.c0
  have y0 := bx4.cell 0
  have y1 := bx4.cell 1
  have y2 := bx4.cell 2
  have y3 := bx4.cell 3
  have y4 := bx4.cell 4
  simp at y0 y1 y2 y3 y4
  have hwn := own_ne h4.own h4.blk (by decide)
  have hlp4 := h4.blk.lt
  have hx4 := bx4.lt
  have hBs : B ≤ W4.drew.heap.size := by show B ≤ W4.heap.size; omega
  have hown4 : W4.drew.ownsRow B 53 5 (.slice A r.items.length c) r.items.length (advs r.items) := h4.own
  have hb5 : Below w.heap.size w W4.drew := hb4.drew
  have bx5 := bx4.drew
  have bo5 := bo4.drew
  have bn5 := bn4.drew
  have hp5 := h4.blk.drew
  have hno : some (w.heap.size + 1) ≠ (Value.slice A r.items.length c).ownBlock := fun e => by have := (HH.out.own.lt _ e.symm).2; omega
  have hnn : some (w.heap.size + 1 + 1) ≠ (Value.slice A r.items.length c).ownBlock := fun e => by have := (HH.out.own.lt _ e.symm).2; omega
  have hpo : w.heap.size + 1 ≠ p := by omega
  have hpn : w.heap.size + 1 + 1 ≠ p := by omega
  refine ord_start (by kernel_rfl) ?_
  simp only [List.length_cons, List.length_nil, Nat.reduceAdd, List.size_toArray]
  refine ord_pure 0 (v := ?_) rfl (by kernel_rfl) (by intro _ _ _ h; exact h) (by rfl) (fun W => ?_) ?_
  rotate_left
  · first | (go_simp; done) | (go_simp; with_reducible rfl)
  try simp only [Act.put, List.setIfInBounds_toArray, List.set_cons_zero, List.set_cons_succ]
  refine ord_pure 1 (v := ?_) rfl (by kernel_rfl) (by intro _ _ _ h; exact h) (by rfl) (fun W => ?_) ?_
  rotate_left
  · first | (go_simp; done) | (go_simp; with_reducible rfl)
  try simp only [Act.put, List.setIfInBounds_toArray, List.set_cons_zero, List.set_cons_succ]
  refine ord_pure 2 (v := ?_) rfl (by kernel_rfl) (by intro _ _ _ h; exact h) (by rfl) (fun W => ?_) ?_
  rotate_left
  · first | (go_simp; done) | (go_simp; with_reducible rfl)
  try simp only [Act.put, List.setIfInBounds_toArray, List.set_cons_zero, List.set_cons_succ]
  refine ord_pure 3 (v := ?_) rfl (by kernel_rfl) (by intro _ _ _ h; exact h) (by rfl) (fun W => ?_) ?_
  rotate_left
  · first | (go_simp; done) | (go_simp; with_reducible rfl)
  try simp only [Act.put, List.setIfInBounds_toArray, List.set_cons_zero, List.set_cons_succ]
  refine ord_ready (rs := [4, 5]) (by kernel_rfl) (by simp) ?_
  refine ord_next rfl (by rfl) (fun K hK => ?_) ?_
  · skip
    go_simp
    refine hK _ _ ?_
    clear hK
    try simp only [Act.put, List.setIfInBounds_toArray, List.set_cons_zero, List.set_cons_succ]
    refine ord_ready (rs := [5]) (by kernel_rfl) (by simp) ?_
    refine ord_next rfl (by rfl) (fun K hK => ?_) ?_
    rotate_left
    · exact AllReady.nil
    go_simp
    refine hK _ _ ?_
    clear hK
    try simp only [Act.put, List.setIfInBounds_toArray, List.set_cons_zero, List.set_cons_succ]
    refine ord_ready (rs := [6]) (by kernel_rfl) (by simp) ?_
    refine ord_next rfl (by rfl) (fun K hK => ?_) ?_
    rotate_left
    · exact AllReady.nil
    go_simp
    refine hK _ _ ?_
    clear hK
    try simp only [Act.put, List.setIfInBounds_toArray, List.set_cons_zero, List.set_cons_succ]
    refine ord_ready (rs := [7]) (by kernel_rfl) (by simp) ?_
    refine ord_next rfl (by rfl) (fun K hK => ?_) ?_
    rotate_left
    · exact AllReady.nil
    try simp only [drew_alloc]
    refine wp_append_oneN (w := W4.drew) (n := r.items.length) (xs := advs r.items) (B := B) elemAdvR (by decide) (.tmp 34) (.tmp 36) rfl (by rfl) hown4 hBs (by rfl) (by rfl) rfl (by simp [Value.oneCell']) (by omega) (by unfold maxLen; omega) ?_
    intro v' w' hm' hg' hvn
    obtain ⟨A3, k3, rfl, _, _⟩ := own_form hm'
    have hnew : (Value.slice A3 (r.items.length + 1) k3).ownBlock ≠ some (w.heap.size + 1) := by
      rcases hvn with e | e
      · rw [e]; exact Ne.symm hno
      · intro e2; have := e _ e2; have h9 := bn5.lt; omega
    refine hK _ _ ?_
    have hP' := hp5.grown hg' (Ne.symm hwn)
    have f0 := hP'.frozen 0
    have kk0 := hP'.cell 0
    simp at kk0
    have bo6 := (bo5.grown hg' hno).far (p := ⟨p, 0, none⟩) hpo (.slice A3 (r.items.length + 1) k3)
    have bn6 := (bn5.grown hg' hnn).far (p := ⟨p, 0, none⟩) hpn (.slice A3 (r.items.length + 1) k3)
    obtain ⟨n0, n1, n2, n3, n4⟩ := Blk.five (a := ⟨0, 0, 0, 0, 0⟩) bn6
    obtain ⟨q0, q1, q2, q3, q4⟩ := bo6.free5
    obtain ⟨o0, o1, o2, o3, o4⟩ := Blk.five (a := ⟨0, 0, 0, 0, 0⟩) bo6
    simp only at n0 n1 n2 n3 n4 o0 o1 o2 o3 o4
    clear hK
    try simp only [Act.put, List.setIfInBounds_toArray, List.set_cons_zero, List.set_cons_succ]
    refine ord_pure 8 (v := ?_) rfl (by kernel_rfl) (by intro _ _ _ h; exact h) (by rfl) (fun W => ?_) ?_
    rotate_left
    · first | (go_simp; done) | (go_simp; with_reducible rfl)
    try simp only [Act.put, List.setIfInBounds_toArray, List.set_cons_zero, List.set_cons_succ]
    refine ord_pure 9 (v := ?_) rfl (by kernel_rfl) (by intro _ _ _ h; exact h) (by rfl) (fun W => ?_) ?_
    rotate_left
    · first | (go_simp; done) | (go_simp; with_reducible rfl)
    try simp only [Act.put, List.setIfInBounds_toArray, List.set_cons_zero, List.set_cons_succ]
    refine ord_ready (rs := [10]) (by kernel_rfl) (by simp) ?_
    refine ord_next rfl (by rfl) (fun K hK => ?_) ?_
    rotate_left
    · exact AllReady.nil
    go_simp
    refine hK _ _ ?_
    clear hK
    try simp only [Act.put, List.setIfInBounds_toArray, List.set_cons_zero, List.set_cons_succ]
    refine ord_done (by kernel_rfl) ?_
    go_wp2
    have bo7 := bo6.set5 ⟨0, 0, 0, 0, 0⟩
    obtain ⟨z0, z1, z2, z3, z4⟩ := bo7.five
    have hq := Rg.push_ok HH.out.ok ⟨x1, x2, x3, x4, x5⟩
    have hpe : r.push ⟨x1, x2, x3, x4, x5⟩ = { r with items := r.items ++ [⟨x1, x2, x3, x4, x5⟩] } := by unfold Rg.push; rw [if_pos HLT.out]
    rw [hpe] at hq ⊢
    have hP6 := hP'.set_ 0 (.slice A3 (r.items.length + 1) k3)
    have hm6 := own_set (p := ⟨p, 0, none⟩) hm' (own_ne hm' hP' (by decide)) (.slice A3 (r.items.length + 1) k3)
    have hK1 : Keep (fun j => j = p ∨ (Value.slice A r.items.length c).ownBlock = some j) w w' := grownK (w1 := W4.drew) (Keep.of_below (L := fun _ => False) hb5) hg' (fun _ h => h.elim) (fun k e => .inr e)
    have hK2 := (hK1.setCell (p := ⟨p, 0, none⟩) (.inl (.inl rfl)) (.slice A3 (r.items.length + 1) k3)).set5 (g := w.heap.size + 1) (.inr (Nat.le_succ _)) 0 ⟨0, 0, 0, 0, 0⟩
    have hR7 : RgV (set5 (w'.setCell ⟨p, 0, none⟩ (.slice A3 (r.items.length + 1) k3)) (w.heap.size + 1) 0 ⟨0, 0, 0, 0, 0⟩) p B (.slice A3 (r.items.length + 1) k3) { r with items := r.items ++ [⟨x1, x2, x3, x4, x5⟩] } := by
      refine ⟨(set5_other _ _ _ _ p (Ne.symm hpo)).trans (show Blk (w'.setCell ⟨p, 0, none⟩ (.slice A3 (r.items.length + 1) k3)) p 91 _ by simpa using hP6), ?_, hq⟩
      have hm7 := own_set5 hm6 hnew 0 ⟨0, 0, 0, 0, 0⟩
      simpa [advs, Adv.cells] using hm7
    unfold set5 at z0 z1 z2 z3 z4 hK2 hR7
    simp only [Nat.zero_add] at z0 z1 z2 z3 z4 hK2 hR7
    refine bodyPost_ret (v := .tuple #[.agg #[.int .i64 0, .int .i64 0, .int .i64 0, .int .i64 0, .int .i64 0], .bool false]) (by simp [results, Try.results54, go_sem, z0, z1, z2, z3, z4]) rfl ?_
    have hfresh : (Value.slice A3 (r.items.length + 1) k3).ownBlock = (Value.slice A r.items.length c).ownBlock ∨ ∀ k, (Value.slice A3 (r.items.length + 1) k3).ownBlock = some k → w.heap.size ≤ k := hvn.imp id fun h k hk => Nat.le_trans hb4.size (h k hk)
    exact ⟨rfl, _, hR7, hK2, hfresh⟩
  refine ord_next rfl (by rfl) (fun K hK => ?_) ?_
  · skip
    go_simp
    refine hK _ _ ?_
    clear hK
    try simp only [Act.put, List.setIfInBounds_toArray, List.set_cons_zero, List.set_cons_succ]
    refine ord_ready (rs := [4, 6]) (by kernel_rfl) (by simp) ?_
    refine ord_next rfl (by rfl) (fun K hK => ?_) ?_
    · skip
      go_simp
      refine hK _ _ ?_
      clear hK
      try simp only [Act.put, List.setIfInBounds_toArray, List.set_cons_zero, List.set_cons_succ]
      refine ord_ready (rs := [6]) (by kernel_rfl) (by simp) ?_
      refine ord_next rfl (by rfl) (fun K hK => ?_) ?_
      rotate_left
      · exact AllReady.nil
      go_simp
      refine hK _ _ ?_
      clear hK
      try simp only [Act.put, List.setIfInBounds_toArray, List.set_cons_zero, List.set_cons_succ]
      refine ord_ready (rs := [7]) (by kernel_rfl) (by simp) ?_
      refine ord_next rfl (by rfl) (fun K hK => ?_) ?_
      rotate_left
      · exact AllReady.nil
      try simp only [drew_alloc]
      refine wp_append_oneN (w := W4.drew) (n := r.items.length) (xs := advs r.items) (B := B) elemAdvR (by decide) (.tmp 34) (.tmp 36) rfl (by rfl) hown4 hBs (by rfl) (by rfl) rfl (by simp [Value.oneCell']) (by omega) (by unfold maxLen; omega) ?_
      intro v' w' hm' hg' hvn
      obtain ⟨A3, k3, rfl, _, _⟩ := own_form hm'
      have hnew : (Value.slice A3 (r.items.length + 1) k3).ownBlock ≠ some (w.heap.size + 1) := by
        rcases hvn with e | e
        · rw [e]; exact Ne.symm hno
        · intro e2; have := e _ e2; have h9 := bn5.lt; omega
      refine hK _ _ ?_
      have hP' := hp5.grown hg' (Ne.symm hwn)
      have f0 := hP'.frozen 0
      have kk0 := hP'.cell 0
      simp at kk0
      have bo6 := (bo5.grown hg' hno).far (p := ⟨p, 0, none⟩) hpo (.slice A3 (r.items.length + 1) k3)
      have bn6 := (bn5.grown hg' hnn).far (p := ⟨p, 0, none⟩) hpn (.slice A3 (r.items.length + 1) k3)
      obtain ⟨n0, n1, n2, n3, n4⟩ := Blk.five (a := ⟨0, 0, 0, 0, 0⟩) bn6
      obtain ⟨q0, q1, q2, q3, q4⟩ := bo6.free5
      obtain ⟨o0, o1, o2, o3, o4⟩ := Blk.five (a := ⟨0, 0, 0, 0, 0⟩) bo6
      simp only at n0 n1 n2 n3 n4 o0 o1 o2 o3 o4
      clear hK
      try simp only [Act.put, List.setIfInBounds_toArray, List.set_cons_zero, List.set_cons_succ]
      refine ord_pure 8 (v := ?_) rfl (by kernel_rfl) (by intro _ _ _ h; exact h) (by rfl) (fun W => ?_) ?_
      rotate_left
      · first | (go_simp; done) | (go_simp; with_reducible rfl)
      try simp only [Act.put, List.setIfInBounds_toArray, List.set_cons_zero, List.set_cons_succ]
      refine ord_pure 9 (v := ?_) rfl (by kernel_rfl) (by intro _ _ _ h; exact h) (by rfl) (fun W => ?_) ?_
      rotate_left
      · first | (go_simp; done) | (go_simp; with_reducible rfl)
      try simp only [Act.put, List.setIfInBounds_toArray, List.set_cons_zero, List.set_cons_succ]
      refine ord_ready (rs := [10]) (by kernel_rfl) (by simp) ?_
      refine ord_next rfl (by rfl) (fun K hK => ?_) ?_
      rotate_left
      · exact AllReady.nil
      go_simp
      refine hK _ _ ?_
      clear hK
      try simp only [Act.put, List.setIfInBounds_toArray, List.set_cons_zero, List.set_cons_succ]
      refine ord_done (by kernel_rfl) ?_
      go_wp2
      have bo7 := bo6.set5 ⟨0, 0, 0, 0, 0⟩
      obtain ⟨z0, z1, z2, z3, z4⟩ := bo7.five
      have hq := Rg.push_ok HH.out.ok ⟨x1, x2, x3, x4, x5⟩
      have hpe : r.push ⟨x1, x2, x3, x4, x5⟩ = { r with items := r.items ++ [⟨x1, x2, x3, x4, x5⟩] } := by unfold Rg.push; rw [if_pos HLT.out]
      rw [hpe] at hq ⊢
      have hP6 := hP'.set_ 0 (.slice A3 (r.items.length + 1) k3)
      have hm6 := own_set (p := ⟨p, 0, none⟩) hm' (own_ne hm' hP' (by decide)) (.slice A3 (r.items.length + 1) k3)
      have hK1 : Keep (fun j => j = p ∨ (Value.slice A r.items.length c).ownBlock = some j) w w' := grownK (w1 := W4.drew) (Keep.of_below (L := fun _ => False) hb5) hg' (fun _ h => h.elim) (fun k e => .inr e)
      have hK2 := (hK1.setCell (p := ⟨p, 0, none⟩) (.inl (.inl rfl)) (.slice A3 (r.items.length + 1) k3)).set5 (g := w.heap.size + 1) (.inr (Nat.le_succ _)) 0 ⟨0, 0, 0, 0, 0⟩
      have hR7 : RgV (set5 (w'.setCell ⟨p, 0, none⟩ (.slice A3 (r.items.length + 1) k3)) (w.heap.size + 1) 0 ⟨0, 0, 0, 0, 0⟩) p B (.slice A3 (r.items.length + 1) k3) { r with items := r.items ++ [⟨x1, x2, x3, x4, x5⟩] } := by
        refine ⟨(set5_other _ _ _ _ p (Ne.symm hpo)).trans (show Blk (w'.setCell ⟨p, 0, none⟩ (.slice A3 (r.items.length + 1) k3)) p 91 _ by simpa using hP6), ?_, hq⟩
        have hm7 := own_set5 hm6 hnew 0 ⟨0, 0, 0, 0, 0⟩
        simpa [advs, Adv.cells] using hm7
      unfold set5 at z0 z1 z2 z3 z4 hK2 hR7
      simp only [Nat.zero_add] at z0 z1 z2 z3 z4 hK2 hR7
      refine bodyPost_ret (v := .tuple #[.agg #[.int .i64 0, .int .i64 0, .int .i64 0, .int .i64 0, .int .i64 0], .bool false]) (by simp [results, Try.results54, go_sem, z0, z1, z2, z3, z4]) rfl ?_
      have hfresh : (Value.slice A3 (r.items.length + 1) k3).ownBlock = (Value.slice A r.items.length c).ownBlock ∨ ∀ k, (Value.slice A3 (r.items.length + 1) k3).ownBlock = some k → w.heap.size ≤ k := hvn.imp id fun h k hk => Nat.le_trans hb4.size (h k hk)
      exact ⟨rfl, _, hR7, hK2, hfresh⟩
    refine ord_next rfl (by rfl) (fun K hK => ?_) ?_
    · skip
      go_simp
      refine hK _ _ ?_
      clear hK
      try simp only [Act.put, List.setIfInBounds_toArray, List.set_cons_zero, List.set_cons_succ]
      refine ord_ready (rs := [4]) (by kernel_rfl) (by simp) ?_
      refine ord_next rfl (by rfl) (fun K hK => ?_) ?_
      rotate_left
      · exact AllReady.nil
      go_simp
      refine hK _ _ ?_
      clear hK
      try simp only [Act.put, List.setIfInBounds_toArray, List.set_cons_zero, List.set_cons_succ]
      refine ord_ready (rs := [7]) (by kernel_rfl) (by simp) ?_
      refine ord_next rfl (by rfl) (fun K hK => ?_) ?_
      rotate_left
      · exact AllReady.nil
      try simp only [drew_alloc]
      refine wp_append_oneN (w := W4.drew) (n := r.items.length) (xs := advs r.items) (B := B) elemAdvR (by decide) (.tmp 34) (.tmp 36) rfl (by rfl) hown4 hBs (by rfl) (by rfl) rfl (by simp [Value.oneCell']) (by omega) (by unfold maxLen; omega) ?_
      intro v' w' hm' hg' hvn
      obtain ⟨A3, k3, rfl, _, _⟩ := own_form hm'
      have hnew : (Value.slice A3 (r.items.length + 1) k3).ownBlock ≠ some (w.heap.size + 1) := by
        rcases hvn with e | e
        · rw [e]; exact Ne.symm hno
        · intro e2; have := e _ e2; have h9 := bn5.lt; omega
      refine hK _ _ ?_
      have hP' := hp5.grown hg' (Ne.symm hwn)
      have f0 := hP'.frozen 0
      have kk0 := hP'.cell 0
      simp at kk0
      have bo6 := (bo5.grown hg' hno).far (p := ⟨p, 0, none⟩) hpo (.slice A3 (r.items.length + 1) k3)
      have bn6 := (bn5.grown hg' hnn).far (p := ⟨p, 0, none⟩) hpn (.slice A3 (r.items.length + 1) k3)
      obtain ⟨n0, n1, n2, n3, n4⟩ := Blk.five (a := ⟨0, 0, 0, 0, 0⟩) bn6
      obtain ⟨q0, q1, q2, q3, q4⟩ := bo6.free5
      obtain ⟨o0, o1, o2, o3, o4⟩ := Blk.five (a := ⟨0, 0, 0, 0, 0⟩) bo6
      simp only at n0 n1 n2 n3 n4 o0 o1 o2 o3 o4
      clear hK
      try simp only [Act.put, List.setIfInBounds_toArray, List.set_cons_zero, List.set_cons_succ]
      refine ord_pure 8 (v := ?_) rfl (by kernel_rfl) (by intro _ _ _ h; exact h) (by rfl) (fun W => ?_) ?_
      rotate_left
      · first | (go_simp; done) | (go_simp; with_reducible rfl)
      try simp only [Act.put, List.setIfInBounds_toArray, List.set_cons_zero, List.set_cons_succ]
      refine ord_pure 9 (v := ?_) rfl (by kernel_rfl) (by intro _ _ _ h; exact h) (by rfl) (fun W => ?_) ?_
      rotate_left
      · first | (go_simp; done) | (go_simp; with_reducible rfl)
      try simp only [Act.put, List.setIfInBounds_toArray, List.set_cons_zero, List.set_cons_succ]
      refine ord_ready (rs := [10]) (by kernel_rfl) (by simp) ?_
      refine ord_next rfl (by rfl) (fun K hK => ?_) ?_
      rotate_left
      · exact AllReady.nil
      go_simp
      refine hK _ _ ?_
      clear hK
      try simp only [Act.put, List.setIfInBounds_toArray, List.set_cons_zero, List.set_cons_succ]
      refine ord_done (by kernel_rfl) ?_
      go_wp2
      have bo7 := bo6.set5 ⟨0, 0, 0, 0, 0⟩
      obtain ⟨z0, z1, z2, z3, z4⟩ := bo7.five
      have hq := Rg.push_ok HH.out.ok ⟨x1, x2, x3, x4, x5⟩
      have hpe : r.push ⟨x1, x2, x3, x4, x5⟩ = { r with items := r.items ++ [⟨x1, x2, x3, x4, x5⟩] } := by unfold Rg.push; rw [if_pos HLT.out]
      rw [hpe] at hq ⊢
      have hP6 := hP'.set_ 0 (.slice A3 (r.items.length + 1) k3)
      have hm6 := own_set (p := ⟨p, 0, none⟩) hm' (own_ne hm' hP' (by decide)) (.slice A3 (r.items.length + 1) k3)
      have hK1 : Keep (fun j => j = p ∨ (Value.slice A r.items.length c).ownBlock = some j) w w' := grownK (w1 := W4.drew) (Keep.of_below (L := fun _ => False) hb5) hg' (fun _ h => h.elim) (fun k e => .inr e)
      have hK2 := (hK1.setCell (p := ⟨p, 0, none⟩) (.inl (.inl rfl)) (.slice A3 (r.items.length + 1) k3)).set5 (g := w.heap.size + 1) (.inr (Nat.le_succ _)) 0 ⟨0, 0, 0, 0, 0⟩
      have hR7 : RgV (set5 (w'.setCell ⟨p, 0, none⟩ (.slice A3 (r.items.length + 1) k3)) (w.heap.size + 1) 0 ⟨0, 0, 0, 0, 0⟩) p B (.slice A3 (r.items.length + 1) k3) { r with items := r.items ++ [⟨x1, x2, x3, x4, x5⟩] } := by
        refine ⟨(set5_other _ _ _ _ p (Ne.symm hpo)).trans (show Blk (w'.setCell ⟨p, 0, none⟩ (.slice A3 (r.items.length + 1) k3)) p 91 _ by simpa using hP6), ?_, hq⟩
        have hm7 := own_set5 hm6 hnew 0 ⟨0, 0, 0, 0, 0⟩
        simpa [advs, Adv.cells] using hm7
      unfold set5 at z0 z1 z2 z3 z4 hK2 hR7
      simp only [Nat.zero_add] at z0 z1 z2 z3 z4 hK2 hR7
      refine bodyPost_ret (v := .tuple #[.agg #[.int .i64 0, .int .i64 0, .int .i64 0, .int .i64 0, .int .i64 0], .bool false]) (by simp [results, Try.results54, go_sem, z0, z1, z2, z3, z4]) rfl ?_
      have hfresh : (Value.slice A3 (r.items.length + 1) k3).ownBlock = (Value.slice A r.items.length c).ownBlock ∨ ∀ k, (Value.slice A3 (r.items.length + 1) k3).ownBlock = some k → w.heap.size ≤ k := hvn.imp id fun h k hk => Nat.le_trans hb4.size (h k hk)
      exact ⟨rfl, _, hR7, hK2, hfresh⟩
    exact AllReady.nil
  exact AllReady.nil
end Go.Proofs.Ytgmgddccdfmiiaa
