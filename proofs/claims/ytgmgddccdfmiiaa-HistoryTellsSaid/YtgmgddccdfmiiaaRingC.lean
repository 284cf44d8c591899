/-
  Rings of numbers: Clone; the reference's Last; chapter 7's example. Condition: none.
-/
import Derived.Test.YtgmgddccdfmiiaaRingIL
import Derived.Test.YtgmgddccdfmiiaaSame07
namespace Go.Fw
open Go.RowKit
set_option linter.unusedVariables false
theorem ownEmpty {w : World} {B g : Nat} {e : TypeId} {s : Nat} (h : Blk w g e #[]) (hB : B ≤ g) : w.ownsRow B e s (.slice (some ⟨g, 0, none⟩) 0 0) 0 [] := by
  have := own_of_blk (s := s) (n := 0) h hB (by simp) (by simp [maxLen])
  simpa using this
end Go.Fw
namespace Go.Proofs.Ytgmgddccdfmiiaa
open Go.RowKit Go.Fw
set_option maxHeartbeats 1000000
set_option maxRecDepth 4000
set_option linter.unusedVariables false
set_option linter.unusedSimpArgs false
theorem isclone_any (xs : List Int) (A : Option Addr) (c n : Nat) (w : World) (hr : Reads w w.heap.size 1 A n (i64s xs)) (hn : n ≤ 100000) :
    Calls Try.prog 48 #[.slice A n c] w fun e w' => ∃ v, e = .returned v ∧ MineS 1 w w' 3 v n (i64s xs) := by
  rcases A with _ | ad
  · have h0 : n = 0 := by
      rcases Nat.eq_zero_or_pos n with h0 | h0
      · exact h0
      · obtain ⟨ad, h, _⟩ := hr.2 h0
        cases h
    subst h0
    have hx : i64s xs = [] := List.eq_nil_of_length_eq_zero (by simpa using hr.1)
    rw [hx]
    clear hr hx
    have he : ∀ w, (binOp .eql 34 (.slice none 0 c) (.slice none 0 0)).run Try.prog w = .ok (.bool true) w := fun w => by kernel_rfl
    go_enter Try.func48, Try.ntmps48
    go_wp2
    go_ret
    exact ⟨_, rfl, MineS.nil_ 1 w 3⟩
  · have hb := Blk.new_at w 3 #[] (g := w.heap.size) rfl
    have ho := ownEmpty (B := w.heap.size) (s := 1) hb (Nat.le_refl _)
    have hr2 := hr.alloc (Nat.le_refl _) (.cells #[] 3)
    obtain ⟨i, hi, hz, hsz, hby⟩ := info_parts elemIntR.info
    have h1 := i64s_one xs
    have he : ∀ w, (binOp .eql 34 (.slice (some ad) n c) (.slice none 0 0)).run Try.prog w = .ok (.bool false) w := fun w => by kernel_rfl
    go_enter Try.func48, Try.ntmps48
    go_wp2_with (at_builtin; go_must (refine wpList_append_any (w.alloc (.cells #[] 3)) rfl (.tmp 5) (.tmp 6) _ rfl w.heap.size 3 i (.int .i64 0) 1 8 elemIntR.under hi hz hsz hby rfl (by decide) _ 0 [] rfl ho w.heap.size (some ad) n c (i64s xs) rfl hr2 h1 (by unfold maxLen; omega) (by omega) (by simp) ?_); intro v' w' hm' hg' _)
    go_ret
    refine ⟨v', rfl, by simpa using hm', ?_⟩
    exact (sub_alloc (Below.refl _ w) (.cells #[] 3)).grown hg' (by simp) fun k hk => (ho.lt k hk).1
theorem iclone_nil (w : World) : Calls Try.prog 26 #[.pointer none] w fun e w' => e = .returned (.pointer none) ∧ w = w' := by
  go_enter Try.func26, Try.ntmps26
  go_wp2
  go_ret
  exact ⟨rfl, rfl⟩
theorem iclone_any (p B : Nat) (sl : Value) (r : Rg Int) (w : World) (h : RgI w p B sl r) :
    Calls Try.prog 26 #[.pointer (some ⟨p, 0, none⟩)] w fun e w' => ∃ q sl', e = .returned (.pointer (some ⟨q, 0, none⟩)) ∧ w.heap.size ≤ q ∧ RgI w' q w.heap.size sl' r ∧ Below w.heap.size w w' := by
  have c0 := h.c0
  have c1 := h.c1
  have c2 := h.c2
  have lp := h.blk.lt
  have hok := h.ok
  have hfit := hok.fits
  have hmost := hok.most
  obtain ⟨A, c, rfl, _, _⟩ := own_form h.own
  have hrd := Reads.of_own h.own
  have HC := Lib.hid (isclone_any r.items A c r.items.length w.drew hrd (by omega))
  clear h hrd
  go_enter Try.func26, Try.ntmps26
  go_wp2
  have hS0 := (Below.refl w.heap.size w).drew
  refine any_start (S := fun W => Below w.heap.size w W) (by kernel_rfl) hS0 ?_
  simp only [List.length_cons, List.length_nil, Nat.reduceAdd, List.size_toArray]
  refine any_pure 0 (v := ?_) rfl (by kernel_rfl) (by intro _ _ _ h; exact h) (by assumption) (by rfl) (fun W hW => ?_) ?_
  rotate_left
  · first | (go_simp; done) | (go_simp; with_reducible rfl)
  try simp only [Act.put, List.setIfInBounds_toArray, List.set_cons_zero, List.set_cons_succ]
  refine any_pure 1 (v := ?_) rfl (by kernel_rfl) (by intro _ _ _ h; exact h) (by assumption) (by rfl) (fun W hW => ?_) ?_
  rotate_left
  · first | (go_simp; done) | (go_simp; with_reducible rfl)
  try simp only [Act.put, List.setIfInBounds_toArray, List.set_cons_zero, List.set_cons_succ]
  refine any_pure 2 (v := ?_) rfl (by kernel_rfl) (by intro _ _ _ h; exact h) (by assumption) (by rfl) (fun W hW => ?_) ?_
  rotate_left
  · first | (go_simp; done) | (go_simp; with_reducible rfl)
  try simp only [Act.put, List.setIfInBounds_toArray, List.set_cons_zero, List.set_cons_succ]
  refine any_pure 3 (v := ?_) rfl (by kernel_rfl) (by intro _ _ _ h; exact h) (by assumption) (by rfl) (fun W hW => ?_) ?_
  rotate_left
  · have e0 := (Below.cell hW (p := ⟨p, 0, none⟩) lp).trans c0; first | (go_simp; done) | (go_simp; with_reducible rfl)
  try simp only [Act.put, List.setIfInBounds_toArray, List.set_cons_zero, List.set_cons_succ]
  refine any_pure 5 (v := ?_) rfl (by kernel_rfl) (by intro _ _ _ h; exact h) (by assumption) (by rfl) (fun W hW => ?_) ?_
  rotate_left
  · first | (go_simp; done) | (go_simp; with_reducible rfl)
  try simp only [Act.put, List.setIfInBounds_toArray, List.set_cons_zero, List.set_cons_succ]
  refine any_pure 6 (v := ?_) rfl (by kernel_rfl) (by intro _ _ _ h; exact h) (by assumption) (by rfl) (fun W hW => ?_) ?_
  rotate_left
  · first | (go_simp; done) | (go_simp; with_reducible rfl)
  try simp only [Act.put, List.setIfInBounds_toArray, List.set_cons_zero, List.set_cons_succ]
  refine any_pure 7 (v := ?_) rfl (by kernel_rfl) (by intro _ _ _ h; exact h) (by assumption) (by rfl) (fun W hW => ?_) ?_
  rotate_left
  · first | (go_simp; done) | (go_simp; with_reducible rfl)
  try simp only [Act.put, List.setIfInBounds_toArray, List.set_cons_zero, List.set_cons_succ]
  refine any_pure 8 (v := ?_) rfl (by kernel_rfl) (by intro _ _ _ h; exact h) (by assumption) (by rfl) (fun W hW => ?_) ?_
  rotate_left
  · have e1 := (Below.cell hW (p := ⟨p, 1, none⟩) lp).trans c1; first | (go_simp; done) | (go_simp; with_reducible rfl)
  try simp only [Act.put, List.setIfInBounds_toArray, List.set_cons_zero, List.set_cons_succ]
  refine any_pure 9 (v := ?_) rfl (by kernel_rfl) (by intro _ _ _ h; exact h) (by assumption) (by rfl) (fun W hW => ?_) ?_
  rotate_left
  · first | (go_simp; done) | (go_simp; with_reducible rfl)
  try simp only [Act.put, List.setIfInBounds_toArray, List.set_cons_zero, List.set_cons_succ]
  refine any_pure 10 (v := ?_) rfl (by kernel_rfl) (by intro _ _ _ h; exact h) (by assumption) (by rfl) (fun W hW => ?_) ?_
  rotate_left
  · first | (go_simp; done) | (go_simp; with_reducible rfl)
  try simp only [Act.put, List.setIfInBounds_toArray, List.set_cons_zero, List.set_cons_succ]
  refine any_pure 11 (v := ?_) rfl (by kernel_rfl) (by intro _ _ _ h; exact h) (by assumption) (by rfl) (fun W hW => ?_) ?_
  rotate_left
  · first | (go_simp; done) | (go_simp; with_reducible rfl)
  try simp only [Act.put, List.setIfInBounds_toArray, List.set_cons_zero, List.set_cons_succ]
  refine any_pure 12 (v := ?_) rfl (by kernel_rfl) (by intro _ _ _ h; exact h) (by assumption) (by rfl) (fun W hW => ?_) ?_
  rotate_left
  · have e2 := (Below.cell hW (p := ⟨p, 2, none⟩) lp).trans c2; first | (go_simp; done) | (go_simp; with_reducible rfl)
  try simp only [Act.put, List.setIfInBounds_toArray, List.set_cons_zero, List.set_cons_succ]
  refine any_one 4 (by kernel_rfl) rfl (by rfl) (fun K hK => ?_)
  go_simp
  refine HC.out.mono ?_
  rintro e1 w1 ⟨v, rfl, hm⟩
  have hS1 := sub_trans hS0 hm.below
  obtain ⟨A1, k1, rfl, _, _, _⟩ := hm.form
  refine hK _ _ hS1 ?_
  clear hK
  try simp only [Act.put, List.setIfInBounds_toArray, List.set_cons_zero, List.set_cons_succ]
  refine any_pure 13 (v := ?_) rfl (by kernel_rfl) (by intro _ _ _ h; exact h) (by assumption) (by rfl) (fun W hW => ?_) ?_
  rotate_left
  · first | (go_simp; done) | (go_simp; with_reducible rfl)
  try simp only [Act.put, List.setIfInBounds_toArray, List.set_cons_zero, List.set_cons_succ]
  refine any_one 14 (by kernel_rfl) rfl (by rfl) (fun K hK => ?_)
  go_simp
  have hS2 : Below w.heap.size w (w1.alloc (.cells #[.slice A1 r.items.length k1, .int .i64 (r.from_ : Int), .int .i64 (r.room : Int)] 74)) := sub_alloc hS1 _
  refine hK _ _ hS2 ?_
  clear hK
  try simp only [Act.put, List.setIfInBounds_toArray, List.set_cons_zero, List.set_cons_succ]
  refine any_pure 15 (v := ?_) rfl (by kernel_rfl) (by intro _ _ _ h; exact h) (by assumption) (by rfl) (fun W hW => ?_) ?_
  rotate_left
  · first | (go_simp; done) | (go_simp; with_reducible rfl)
  try simp only [Act.put, List.setIfInBounds_toArray, List.set_cons_zero, List.set_cons_succ]
  refine any_done (by kernel_rfl) ?_
  go_wp2
  go_ret
  refine ⟨w1.heap.size, _, rfl, hS1.size, ⟨Blk.new_at _ _ _ rfl, ?_, hok⟩, sub_alloc hS1 _⟩
  exact (hm.alloc _).own
def LastP (w : World) (B : Nat) (xs : List Int) (e : Ending) : Prop := ∃ A' c', e = .returned (.slice A' xs.length c') ∧ xs.length ≤ c' ∧ Reads w B 1 A' xs.length (i64s xs)
/-- the last ones of a list -/
theorem last_any (l : List Int) (A : Option Addr) (c m B n : Nat) (w : World) (hr : Reads w B 1 A m (i64s l)) (hm : m ≤ c) (hmb : m ≤ 100000) (hn : n ≤ 100000) :
    Calls Try.prog 20 #[.slice A m c, .int .i64 (n : Int)] w fun e w' => LastP w B (lastN l n) e ∧ w = w' := by
  have hl : m = l.length := by have := hr.len; rwa [i64s_length] at this
  by_cases hle : m ≤ n
  · have e1 : lastN l n = l := by unfold lastN; rw [show l.length - n = 0 by omega]; rfl
    have hle2 : (m : Int) ≤ (n : Int) := by omega
    have HH := Lib.hid (And.intro e1 hl)
    clear hl e1
    go_enter Try.func20, Try.ntmps20
    go_wp2
    go_ret
    refine ⟨⟨A, c, ?_, ?_, ?_⟩, rfl⟩
    · rw [HH.out.1, ← HH.out.2]; rfl
    · rw [HH.out.1, ← HH.out.2]; exact hm
    · rw [HH.out.1, ← HH.out.2]; exact hr
  · have hlt : ¬ (m : Int) ≤ (n : Int) := by omega
    have hcut := hr.cut (k := m - n) (cap := c) (by omega) hm
    rw [Nat.mul_one] at hcut
    have hd : (i64s l).drop (m - n) = i64s (lastN l n) := by unfold lastN; rw [hl]; simp [i64s]
    rw [hd] at hcut
    have hlen : (lastN l n).length = n := by rw [lastN_length]; omega
    have HH := Lib.hid (And.intro hcut hlen)
    clear hcut hl hd hlen
    go_enter Try.func20, Try.ntmps20
    go_wp2
    all_goals
      go_ret
      have hq := HH.out.1
      first | rw [if_pos h] at hq | rw [if_neg h] at hq
      have hmn : m - (m - n) = n := by omega
      rw [hmn] at hq
      exact ⟨⟨_, _, congrArg Ending.returned (congrArg (fun q => Value.slice _ q _) (hmn.trans HH.out.2.symm)), by rw [HH.out.2]; omega, by rw [HH.out.2]; exact hq⟩, rfl⟩
/-- a slice, and one that was just written out -/
theorem rsame_with (xs ys : List Int) (A : Option Addr) (c n m : Nat) (w : World) (cs : Array Value) (hr : Reads w w.heap.size 1 A n (i64s xs)) (hcs : cs.toList = i64s ys) (hm : m = ys.length) (hn : n ≤ 1000000) (hn2 : m ≤ 1000000) (sx : Small xs) (sy : Small ys) :
    Calls Try.prog 18 #[.slice A n c, .slice (some ⟨w.heap.size, 0, none⟩) m m] (w.alloc (.cells cs 3)) fun e w' => e = .returned (.bool (decide (xs = ys))) ∧ Below w.heap.size w w' := by
  have h1 := (hr.alloc (Nat.le_refl _) (.cells cs 3)).more (B' := w.heap.size + 1) (Nat.le_succ _)
  have hsz : cs.size = m := by rw [hm, ← Array.length_toList, hcs, i64s_length]
  have h2 := reads_new_at w 3 cs m w.heap.size _ hsz rfl rfl
  rw [hcs] at h2
  refine (same7_any xs ys A _ c m n m (w.heap.size + 1) _ h1 h2 hn hn2 sx sy).mono ?_
  rintro e w' ⟨he, hb⟩
  exact ⟨he, sub_trans (sub_alloc (Below.refl _ w) _) hb⟩
theorem RgAt.pushKeep {α : Type} {cells : List α → List Value} {s : Nat} {T e : TypeId} {w w' : World} {p B : Nat} {sl : Value} {r : Rg α} (h : RgAt cells s T e w p B sl r) (hB : B ≤ p) (hK : Keep (fun j => j = p ∨ sl.ownBlock = some j) w w') : Keep (fun j => B ≤ j) w w' :=
  hK.more2 fun k hk => hk.elim (fun e => by omega) fun e => (h.own.lt k e).1
theorem rawake_any (w : World) : Calls Try.prog 10 #[] w fun e w' => e = .returned (.bool true) ∧ Below w.heap.size w w' := by
  go_enter Try.func10, Try.ntmps10
  have h0 : RgI (w.alloc (.cells #[.slice none 0 0, .int .i64 0, .int .i64 (2 : Nat)] 74)) w.heap.size w.heap.size (.slice none 0 0) ⟨[], 0, 2⟩ := RgAt.new_ w 2 (by decide) (by decide) rfl
  have b0 := sub_alloc (Below.refl _ w) (.cells #[.slice none 0 0, .int .i64 0, .int .i64 (2 : Nat)] 74)
  go_wp2_with fail
  refine (inew_yes 2 w (by decide) (by decide)).mono ?_
  rintro e w1 ⟨rfl, rfl⟩
  generalize w.alloc (.cells #[.slice none 0 0, .int .i64 0, .int .i64 ((2 : Nat) : Int)] 74) = w1 at *
  go_wp2_with fail
  refine (ipush_any _ _ _ _ 5 _ h0 b0.size (.inr trivial)).mono ?_
  rintro e w2 ⟨rfl, sl2, h2, hK2⟩
  have b2 := b0.trans ((RgAt.pushKeep h0 (Nat.le_refl _) hK2).below b0.size fun _ h => h)
  have e2 : (Rg.mk ([] : List Int) 0 2).push 5 = ⟨[5], 0, 2⟩ := rfl
  rw [e2] at h2
  clear hK2 h0 b0
  go_wp2_with fail
  refine (ipush_any _ _ _ _ 6 _ h2 b2.size (.inr trivial)).mono ?_
  rintro e w3 ⟨rfl, sl3, h3, hK3⟩
  have b3 := b2.trans ((RgAt.pushKeep h2 (Nat.le_refl _) hK3).below b2.size fun _ h => h)
  have e3 : (Rg.mk ([5] : List Int) 0 2).push 6 = ⟨[5, 6], 0, 2⟩ := rfl
  rw [e3] at h3
  clear hK3 h2 b2
  go_wp2_with fail
  refine (ipush_any _ _ _ _ 7 _ h3 b3.size (.inr trivial)).mono ?_
  rintro e w4 ⟨rfl, sl4, h4, hK4⟩
  have b4 := b3.trans ((RgAt.pushKeep h3 (Nat.le_refl _) hK4).below b3.size fun _ h => h)
  have e4 : (Rg.mk ([5, 6] : List Int) 0 2).push 7 = ⟨[7, 6], 1, 2⟩ := rfl
  have o4 : outI (Rg.mk ([5, 6] : List Int) 0 2) = (5, true) := rfl
  rw [e4] at h4
  rw [o4]
  clear hK4 h3 b3
  go_wp2_with fail
  refine (ilist_any _ _ _ _ _ h4).mono ?_
  rintro e w5 ⟨v, rfl, hm⟩
  have e5 : (Rg.mk ([7, 6] : List Int) 1 2).list = [6, 7] := rfl
  rw [e5] at hm
  obtain ⟨A5, c5, rfl, _, _, r5⟩ := hm.form
  have b5 := b4.trans (hm.below.mono b4.size)
  clear hm b4 h4
  go_wp2_with fail
  refine (rsame_with [6, 7] [6, 7] A5 c5 2 2 w5 #[.int .i64 6, .int .i64 7] r5 rfl rfl (by decide) (by decide) (small_of (by simp)) (small_of (by simp))).mono ?_
  rintro e w6 ⟨rfl, b6⟩
  have e6 : decide (([6, 7] : List Int) = [6, 7]) = true := rfl
  rw [e6]
  have b7 := b5.trans (b6.mono b5.size)
  clear b5 b6 r5
  go_wp2_with fail
  refine (inew_no 0 w6 (by decide)).mono ?_
  rintro e w7 ⟨rfl, rfl⟩
  go_wp2
  go_ret
  exact ⟨rfl, b7⟩
end Go.Proofs.Ytgmgddccdfmiiaa
