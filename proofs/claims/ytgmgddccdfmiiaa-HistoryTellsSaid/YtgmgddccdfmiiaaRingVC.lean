/-
  Rings of decisions: Clone. Condition: none.
-/
import Derived.Test.YtgmgddccdfmiiaaRingVA
import Derived.Test.YtgmgddccdfmiiaaRingC
namespace Go.Proofs.Ytgmgddccdfmiiaa
open Go.RowKit Go.Fw
set_option maxHeartbeats 1000000
set_option maxRecDepth 4000
set_option linter.unusedVariables false
set_option linter.unusedSimpArgs false
theorem advs_one (l : List Adv) : ∀ u ∈ advs l, u.oneCell' = true := by
  intro u hu
  unfold advs at hu
  obtain ⟨x, _, hx⟩ := List.mem_flatMap.1 hu
  simp [Adv.cells] at hx
  rcases hx with rfl | rfl | rfl | rfl | rfl <;> rfl
theorem vsclone_any (xs : List Adv) (A : Option Addr) (c n : Nat) (w : World) (hr : Reads w w.heap.size 5 A n (advs xs)) (hn : n ≤ 100000) :
    Calls Try.prog 64 #[.slice A n c] w fun e w' => ∃ v, e = .returned v ∧ MineS 5 w w' 53 v n (advs xs) := by
  rcases A with _ | ad
  · have h0 : n = 0 := by
      rcases Nat.eq_zero_or_pos n with h0 | h0
      · exact h0
      · obtain ⟨ad, h, _⟩ := hr.2 h0
        cases h
    subst h0
    have hx : advs xs = [] := List.eq_nil_of_length_eq_zero (by simpa using hr.1)
    rw [hx]
    clear hr hx
    have he : ∀ w, (binOp .eql 46 (.slice none 0 c) (.slice none 0 0)).run Try.prog w = .ok (.bool true) w := fun w => by kernel_rfl
    go_enter Try.func64, Try.ntmps64
    go_wp2
    go_ret
    exact ⟨_, rfl, MineS.nil_ 5 w 53⟩
  · have hb := Blk.new_at w 53 #[] (g := w.heap.size) rfl
    have ho := ownEmpty (B := w.heap.size) (s := 5) hb (Nat.le_refl _)
    have hr2 := hr.alloc (Nat.le_refl _) (.cells #[] 53)
    obtain ⟨i, hi, hz, hsz, hby⟩ := info_parts elemAdvR.info
    have h1 := advs_one xs
    have he : ∀ w, (binOp .eql 46 (.slice (some ad) n c) (.slice none 0 0)).run Try.prog w = .ok (.bool false) w := fun w => by kernel_rfl
    go_enter Try.func64, Try.ntmps64
    go_wp2_with (at_builtin; go_must (refine wpList_append_any (w.alloc (.cells #[] 53)) rfl (.tmp 5) (.tmp 6) _ rfl w.heap.size 53 i _ 5 40 elemAdvR.under hi hz hsz hby rfl (by decide) _ 0 [] rfl ho w.heap.size (some ad) n c (advs xs) rfl hr2 h1 (by unfold maxLen; omega) (by omega) (by simp) ?_); intro v' w' hm' hg' _)
    go_ret
    refine ⟨v', rfl, by simpa using hm', ?_⟩
    exact (sub_alloc (Below.refl _ w) (.cells #[] 53)).grown hg' (by simp) fun k hk => (ho.lt k hk).1
theorem vclone_any (p B : Nat) (sl : Value) (r : Rg Adv) (w : World) (h : RgV w p B sl r) :
    Calls Try.prog 57 #[.pointer (some ⟨p, 0, none⟩)] w fun e w' => ∃ q sl', e = .returned (.pointer (some ⟨q, 0, none⟩)) ∧ w.heap.size ≤ q ∧ RgV w' q w.heap.size sl' r ∧ Below w.heap.size w w' := by
  have c0 := h.c0
  have c1 := h.c1
  have c2 := h.c2
  have lp := h.blk.lt
  have hok := h.ok
  have hfit := hok.fits
  have hmost := hok.most
  obtain ⟨A, c, rfl, _, _⟩ := own_form h.own
  have hrd := Reads.of_own h.own
  have HC := Lib.hid (vsclone_any r.items A c r.items.length w.drew hrd (by omega))
  clear h hrd
  go_enter Try.func57, Try.ntmps57
  go_wp2
  have hS0 := (Below.refl w.heap.size w).drew
  refine any_start (S := fun W => Below w.heap.size w W) (by kernel_rfl) hS0 ?_
  simp only [List.length_cons, List.length_nil, Nat.reduceAdd, List.size_toArray]
  refine any_pure 0 (v := ?_) rfl (by kernel_rfl) (by intro _ _ _ h; exact h) (by assumption) (by rfl) (fun W hW => ?_) ?_
  rotate_left
  · first | (go_simp; done) | (go_simp; with_reducible rfl)
  try simp only [Act.put, List.setIfInBounds_toArray, List.set_cons_zero, List.set_cons_succ]
  refine any_pure 1 (v := ?_) rfl (by kernel_rfl) (by intro _ _ _ h; exact h) (by assumption) (by rfl) (fun W hW => ?_) ?_
  rotate_left
  · first | (go_simp; done) | (go_simp; with_reducible rfl)
  try simp only [Act.put, List.setIfInBounds_toArray, List.set_cons_zero, List.set_cons_succ]
  refine any_pure 2 (v := ?_) rfl (by kernel_rfl) (by intro _ _ _ h; exact h) (by assumption) (by rfl) (fun W hW => ?_) ?_
  rotate_left
  · first | (go_simp; done) | (go_simp; with_reducible rfl)
  try simp only [Act.put, List.setIfInBounds_toArray, List.set_cons_zero, List.set_cons_succ]
  refine any_pure 3 (v := ?_) rfl (by kernel_rfl) (by intro _ _ _ h; exact h) (by assumption) (by rfl) (fun W hW => ?_) ?_
  rotate_left
  · have e0 := (Below.cell hW (p := ⟨p, 0, none⟩) lp).trans c0; first | (go_simp; done) | (go_simp; with_reducible rfl)
  try simp only [Act.put, List.setIfInBounds_toArray, List.set_cons_zero, List.set_cons_succ]
  refine any_pure 5 (v := ?_) rfl (by kernel_rfl) (by intro _ _ _ h; exact h) (by assumption) (by rfl) (fun W hW => ?_) ?_
  rotate_left
  · first | (go_simp; done) | (go_simp; with_reducible rfl)
  try simp only [Act.put, List.setIfInBounds_toArray, List.set_cons_zero, List.set_cons_succ]
  refine any_pure 6 (v := ?_) rfl (by kernel_rfl) (by intro _ _ _ h; exact h) (by assumption) (by rfl) (fun W hW => ?_) ?_
  rotate_left
  · first | (go_simp; done) | (go_simp; with_reducible rfl)
  try simp only [Act.put, List.setIfInBounds_toArray, List.set_cons_zero, List.set_cons_succ]
  refine any_pure 7 (v := ?_) rfl (by kernel_rfl) (by intro _ _ _ h; exact h) (by assumption) (by rfl) (fun W hW => ?_) ?_
  rotate_left
  · first | (go_simp; done) | (go_simp; with_reducible rfl)
  try simp only [Act.put, List.setIfInBounds_toArray, List.set_cons_zero, List.set_cons_succ]
  refine any_pure 8 (v := ?_) rfl (by kernel_rfl) (by intro _ _ _ h; exact h) (by assumption) (by rfl) (fun W hW => ?_) ?_
  rotate_left
  · have e1 := (Below.cell hW (p := ⟨p, 1, none⟩) lp).trans c1; first | (go_simp; done) | (go_simp; with_reducible rfl)
  try simp only [Act.put, List.setIfInBounds_toArray, List.set_cons_zero, List.set_cons_succ]
  refine any_pure 9 (v := ?_) rfl (by kernel_rfl) (by intro _ _ _ h; exact h) (by assumption) (by rfl) (fun W hW => ?_) ?_
  rotate_left
  · first | (go_simp; done) | (go_simp; with_reducible rfl)
  try simp only [Act.put, List.setIfInBounds_toArray, List.set_cons_zero, List.set_cons_succ]
  refine any_pure 10 (v := ?_) rfl (by kernel_rfl) (by intro _ _ _ h; exact h) (by assumption) (by rfl) (fun W hW => ?_) ?_
  rotate_left
  · first | (go_simp; done) | (go_simp; with_reducible rfl)
  try simp only [Act.put, List.setIfInBounds_toArray, List.set_cons_zero, List.set_cons_succ]
  refine any_pure 11 (v := ?_) rfl (by kernel_rfl) (by intro _ _ _ h; exact h) (by assumption) (by rfl) (fun W hW => ?_) ?_
  rotate_left
  · first | (go_simp; done) | (go_simp; with_reducible rfl)
  try simp only [Act.put, List.setIfInBounds_toArray, List.set_cons_zero, List.set_cons_succ]
  refine any_pure 12 (v := ?_) rfl (by kernel_rfl) (by intro _ _ _ h; exact h) (by assumption) (by rfl) (fun W hW => ?_) ?_
  rotate_left
  · have e2 := (Below.cell hW (p := ⟨p, 2, none⟩) lp).trans c2; first | (go_simp; done) | (go_simp; with_reducible rfl)
  try simp only [Act.put, List.setIfInBounds_toArray, List.set_cons_zero, List.set_cons_succ]
  refine any_one 4 (by kernel_rfl) rfl (by rfl) (fun K hK => ?_)
  go_simp
  refine HC.out.mono ?_
  rintro e1 w1 ⟨v, rfl, hm⟩
  have hS1 := sub_trans hS0 hm.below
  obtain ⟨A1, k1, rfl, _, _, _⟩ := hm.form
  refine hK _ _ hS1 ?_
  clear hK
  try simp only [Act.put, List.setIfInBounds_toArray, List.set_cons_zero, List.set_cons_succ]
  refine any_pure 13 (v := ?_) rfl (by kernel_rfl) (by intro _ _ _ h; exact h) (by assumption) (by rfl) (fun W hW => ?_) ?_
  rotate_left
  · first | (go_simp; done) | (go_simp; with_reducible rfl)
  try simp only [Act.put, List.setIfInBounds_toArray, List.set_cons_zero, List.set_cons_succ]
  refine any_one 14 (by kernel_rfl) rfl (by rfl) (fun K hK => ?_)
  go_simp
  have hS2 : Below w.heap.size w (w1.alloc (.cells #[.slice A1 r.items.length k1, .int .i64 (r.from_ : Int), .int .i64 (r.room : Int)] 91)) := sub_alloc hS1 _
  refine hK _ _ hS2 ?_
  clear hK
  try simp only [Act.put, List.setIfInBounds_toArray, List.set_cons_zero, List.set_cons_succ]
  refine any_pure 15 (v := ?_) rfl (by kernel_rfl) (by intro _ _ _ h; exact h) (by assumption) (by rfl) (fun W hW => ?_) ?_
  rotate_left
  · first | (go_simp; done) | (go_simp; with_reducible rfl)
  try simp only [Act.put, List.setIfInBounds_toArray, List.set_cons_zero, List.set_cons_succ]
  refine any_done (by kernel_rfl) ?_
  go_wp2
  go_ret
  refine ⟨w1.heap.size, _, rfl, hS1.size, ⟨Blk.new_at _ _ _ rfl, ?_, hok⟩, sub_alloc hS1 _⟩
  exact (hm.alloc _).own
end Go.Proofs.Ytgmgddccdfmiiaa
