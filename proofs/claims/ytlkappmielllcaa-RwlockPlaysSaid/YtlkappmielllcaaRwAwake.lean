/-
  Chapter 25's example, walked. Condition: none.
-/
import Derived.Test.YtlkappmielllcaaRwDrop
import Derived.Test.YtlkappmielllcaaSame07
namespace Go.Fw
open Go.RowKit
set_option linter.unusedVariables false
theorem or32 {a b : Nat} (ha : a < 4294967296) (hb : b < 4294967296) : a ||| b < 4294967296 := Nat.or_lt_two_pow (n := 32) (by omega) (by omega)
theorem giveL_ok2 {l : Lk} (x : Int × Bool) (h : l.ok) : (giveL l x).ok := by
  unfold giveL
  split
  · exact ⟨h.r, or32 h.w (bitN_lt _), h.line⟩
  · exact ⟨or32 h.r (bitN_lt _), h.w, h.line⟩
theorem askL_ok {l : Lk} (t : Int) (b : Bool) (h : l.ok) : (askL l t b).1.ok := by
  unfold askL
  by_cases h1 : bitN t = 0
  · rw [if_pos h1]; exact h
  rw [if_neg h1]
  by_cases h2 : heldN l t ≠ 0 ∨ t ∈ l.line.map (·.1)
  · rw [if_pos h2]; exact h
  rw [if_neg h2]
  by_cases h3 : l.line = [] ∧ fitsB l b = true
  · rw [if_pos h3]; exact giveL_ok2 _ h
  rw [if_neg h3]
  refine ⟨h.r, h.w, fun x hx => ?_⟩
  simp only [List.mem_append, List.mem_singleton] at hx
  rcases hx with hx | rfl
  · exact h.line x hx
  · refine Classical.byContradiction fun hc => h1 (bitN_zero hc)
theorem askL_len (l : Lk) (t : Int) (b : Bool) : (askL l t b).1.line.length ≤ l.line.length + 1 := by
  unfold askL
  split
  · exact Nat.le_succ _
  split
  · exact Nat.le_succ _
  split
  · rw [giveL_line]; exact Nat.le_succ _
  · simp
theorem dropGo_ok (ln : List (Int × Bool)) : ∀ (r w : Nat), Lk.ok ⟨r, w, ln⟩ → (dropGo ln r w).1.ok ∧ (dropGo ln r w).1.line.length ≤ ln.length := by
  induction ln with
  | nil => intro r w h; exact ⟨h, Nat.le_refl _⟩
  | cons x ln ih =>
    intro r w h
    rw [dropGo]
    split
    · have hg := giveL_ok x h
      obtain ⟨h1, h2⟩ := ih (giveL ⟨r, w, ln⟩ x).r (giveL ⟨r, w, ln⟩ x).w ⟨hg.r, hg.w, fun y hy => hg.line y (by rw [giveL_line]; exact hy)⟩
      exact ⟨h1, Nat.le_succ_of_le h2⟩
    · exact ⟨h, Nat.le_refl _⟩
theorem dropL_ok {l : Lk} (t : Int) (h : l.ok) : (dropL l t).1.ok := (dropGo_ok l.line _ _ ⟨clr_lt _ h.r, clr_lt _ h.w, h.line⟩).1
theorem dropL_len {l : Lk} (t : Int) (h : l.ok) : (dropL l t).1.line.length ≤ l.line.length := (dropGo_ok l.line _ _ ⟨clr_lt _ h.r, clr_lt _ h.w, h.line⟩).2
theorem Keep.belowAt {B : Nat} {w w' : World} (h : Keep (fun j => B ≤ j) w w') (hB : B ≤ w.heap.size) : Below B w w' := h.below hB fun _ h => h
theorem emptyLk_ok : Lk.ok ⟨0, 0, []⟩ := ⟨by decide, by decide, by simp⟩
end Go.Fw
namespace Go.Proofs.Ytlkappmielllcaa
open Go.RowKit Go.Fw
set_option maxHeartbeats 1000000
set_option maxRecDepth 4000
set_option linter.unusedVariables false
set_option linter.unusedSimpArgs false

/-- a new lock -/
theorem lock_new (w : World) : LockAt (w.alloc (.cells #[.int .u32 0, .int .u32 0, .slice none 0 0] 27)) w.heap.size w.heap.size 27 [] (.slice none 0 0) ⟨0, 0, []⟩ :=
  ⟨Blk.new_at _ _ _ rfl, TailRow.nil_ _ _ _ _⟩
theorem LockAt.askKeep {w w' : World} {p B : Nat} {t : TypeId} {rest : List Value} {sl : Value} {l : Lk} (h : LockAt w p B t rest sl l) (hB : B ≤ p) (hK : Keep (fun j => j = p ∨ sl.ownBlock = some j) w w') : Keep (fun j => B ≤ j) w w' :=
  hK.more2 fun k hk => hk.elim (fun e => by omega) fun e => (h.2.lt k e).1
/-- a slice, and one that was just written out -/
theorem same_with (xs ys : List Int) (A : Option Addr) (c n m : Nat) (w : World) (cs : Array Value) (hr : Reads w w.heap.size 1 A n (i64s xs)) (hcs : cs.toList = i64s ys) (hm : m = ys.length) (hn : n ≤ 1000000) (hn2 : m ≤ 1000000) (sx : Small xs) (sy : Small ys) :
    Calls Try.prog 16 #[.slice A n c, .slice (some ⟨w.heap.size, 0, none⟩) m m] (w.alloc (.cells cs 3)) fun e w' => e = .returned (.bool (decide (xs = ys))) ∧ Below w.heap.size w w' := by
  have h1 := (hr.alloc (Nat.le_refl _) (.cells cs 3)).more (B' := w.heap.size + 1) (Nat.le_succ _)
  have hsz : cs.size = m := by rw [hm, ← Array.length_toList, hcs, i64s_length]
  have h2 := reads_new_at w 3 cs m w.heap.size _ hsz rfl rfl
  rw [hcs] at h2
  refine (same7_any xs ys A _ c m n m (w.heap.size + 1) _ h1 h2 hn hn2 sx sy).mono ?_
  rintro e w' ⟨he, hb⟩
  exact ⟨he, sub_trans (sub_alloc (Below.refl _ w) _) hb⟩
theorem awake_any (w : World) : Calls Try.prog 8 #[] w fun e w' => e = .returned (.bool true) ∧ Below w.heap.size w w' := by
  have h0 := lock_new w
  have hb0 := sub_alloc (Below.refl _ w) (.cells #[.int .u32 0, .int .u32 0, .slice none 0 0] 27)
  have hz0 := hb0.size
  go_enter Try.func8, Try.ntmps8
  go_wp2_with fail
  refine (ask_any _ _ _ _ _ _ 0 false _ h0 emptyLk_ok (by decide) (by decide) hz0 (by decide)).mono ?_
  rintro e w1 ⟨rfl, sl1, h1, hK1⟩
  have e1 : askL ⟨0, 0, []⟩ 0 false = (⟨1, 0, []⟩, true, 0) := by kernel_rfl
  rw [e1] at h1 ⊢
  have k1 := (h0.askKeep (Nat.le_refl _) hK1).belowAt hz0
  have b1 := hb0.trans k1
  have HK1 := Lib.hid k1
  clear hK1 k1
  go_wp2_with fail
  refine (ask_any _ _ _ _ _ _ 1 true _ h1 ⟨by decide, by decide, by simp⟩ (by decide) (by decide) b1.size (by decide)).mono ?_
  rintro e w2 ⟨rfl, sl2, h2, hK2⟩
  have e2 : askL ⟨1, 0, []⟩ 1 true = (⟨1, 0, [(1, true)]⟩, false, 0) := by kernel_rfl
  rw [e2] at h2 ⊢
  have b2 := b1.trans ((h1.askKeep (Nat.le_refl _) hK2).belowAt b1.size)
  clear hK2
  go_wp2_with fail
  have o2 : Lk.ok ⟨1, 0, [(1, true)]⟩ := ⟨by decide, by decide, by simp⟩
  have o3 : Lk.ok ⟨1, 0, [(1, true), (2, false)]⟩ := ⟨by decide, by decide, by simp⟩
  have o4 : Lk.ok ⟨0, 2, [(2, false)]⟩ := ⟨by decide, by decide, by simp⟩
  refine (ask_any _ _ _ _ _ _ 2 false _ h2 o2 (by decide) (by decide) b2.size (by decide)).mono ?_
  rintro e w3 ⟨rfl, sl3, h3, hK3⟩
  have e3 : askL ⟨1, 0, [(1, true)]⟩ 2 false = (⟨1, 0, [(1, true), (2, false)]⟩, false, 0) := by kernel_rfl
  rw [e3] at h3 ⊢
  have b3 := b2.trans ((h2.askKeep (Nat.le_refl _) hK3).belowAt b2.size)
  clear hK3
  go_wp2_with fail
  refine (drop_any _ _ _ _ _ _ 0 _ h3 o3 (by decide) (by decide) (by decide) (by decide)).mono ?_
  rintro e w4 ⟨v4, rfl, hv4, sl4, h4, hK4⟩
  have e4 : dropL ⟨1, 0, [(1, true), (2, false)]⟩ 0 = (⟨0, 2, [(2, false)]⟩, [1]) := by kernel_rfl
  rw [e4] at h4 hv4
  have b4 := b3.trans (hK4.below b3.size (fun k hk => by omega))
  have HK4 := Lib.hid hK4
  clear hK4
  go_wp2_with fail
  refine (drop_any _ _ _ _ _ _ 1 _ h4 o4 (by decide) (by decide) (by decide) (by decide)).mono ?_
  rintro e w5 ⟨v5, rfl, hv5, sl5, h5, hK5⟩
  have e5 : dropL ⟨0, 2, [(2, false)]⟩ 1 = (⟨4, 0, []⟩, [2]) := by kernel_rfl
  rw [e5] at h5 hv5
  have b5 := b4.trans (hK5.below b4.size (fun k hk => by omega))
  have hv4' := hK5.own hv4 (by have := h3.1.lt; omega)
  obtain ⟨A4, c4, rfl, _, _⟩ := own_form hv4'
  obtain ⟨A5, c5, rfl, _, _⟩ := own_form hv5
  have r4 := Reads.of_own hv4'
  have r5 := Reads.of_own hv5
  clear hK5 hv4 hv4' hv5
  go_wp2_with fail
  refine (same_with [1] [1] A4 c4 1 1 w5 #[.int .i64 1] r4 rfl rfl (by decide) (by decide) (small_of (by simp)) (small_of (by simp))).mono ?_
  rintro e w6 ⟨rfl, b6⟩
  have b7 := b5.trans (b6.mono b5.size)
  have r6 := r5.up b6
  have e6 : decide (([1] : List Int) = [1]) = true := rfl
  rw [e6]
  clear r4 r5 b6
  go_wp2_with fail
  refine (same_with [2] [2] A5 c5 1 1 w6 #[.int .i64 2] r6 rfl rfl (by decide) (by decide) (small_of (by simp)) (small_of (by simp))).mono ?_
  rintro e w7 ⟨rfl, b8⟩
  have e7 : decide (([2] : List Int) = [2]) = true := rfl
  rw [e7]
  have b9 := b7.trans (b8.mono b7.size)
  clear r6 b8
  go_wp2
  go_ret
  exact ⟨rfl, b9⟩
end Go.Proofs.Ytlkappmielllcaa
