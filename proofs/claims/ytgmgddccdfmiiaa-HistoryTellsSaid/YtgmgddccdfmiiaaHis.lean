/-
  Histories, walked: New, Add, Len, List, Last, Clone. Condition: none.
-/
import Derived.Test.YtgmgddccdfmiiaaRingVC
namespace Go.Fw
open Go.RowKit
theorem blk_ne {w : World} {g g' : Nat} {t t' : TypeId} {cs cs' : Array Value} (h : Blk w g t cs) (h' : Blk w g' t' cs') (hne : t ≠ t') : g ≠ g' := by
  rintro rfl
  unfold Blk at h h'
  rw [h] at h'
  injection h' with h'
  injection h' with _ ht
  exact hne ht
end Go.Fw
namespace Go.Proofs.Ytgmgddccdfmiiaa
open Go.RowKit Go.Fw
set_option maxHeartbeats 1000000
set_option maxRecDepth 4000
set_option linter.unusedVariables false
set_option linter.unusedSimpArgs false
/-- a history in memory -/
structure HAt (w : World) (q p B : Nat) (sl : Value) (r : Rg Adv) : Prop where
  box : Blk w q 84 #[.pointer (some ⟨p, 0, none⟩)]
  rg : RgV w p B sl r
  Bq : B ≤ q
  Bp : B ≤ p
theorem HAt.c0 {w : World} {q p B : Nat} {sl : Value} {r : Rg Adv} (h : HAt w q p B sl r) : w.cell? ⟨q, 0, none⟩ = some (.pointer (some ⟨p, 0, none⟩)) := by rw [h.box.cell]; rfl
theorem HAt.up {w w' : World} {q p B : Nat} {sl : Value} {r : Rg Adv} (h : HAt w q p B sl r) (hb : Below w.heap.size w w') : HAt w' q p B sl r := ⟨h.box.later hb, h.rg.up hb, h.Bq, h.Bp⟩
/-- pushing, whether there is room or not -/
theorem vpush_all (p B : Nat) (sl : Value) (r : Rg Adv) (x : Adv) (w : World) (h : RgV w p B sl r) (hB : B ≤ w.heap.size) :
    Calls Try.prog 54 #[.pointer (some ⟨p, 0, none⟩), x.val] w fun e w' => (∃ v, e = .returned v) ∧ ∃ sl', RgV w' p B sl' (r.push x) ∧ Keep (fun j => j = p ∨ sl.ownBlock = some j) w w' ∧ (sl'.ownBlock = sl.ownBlock ∨ ∀ k, sl'.ownBlock = some k → w.heap.size ≤ k) := by
  by_cases hlt : r.items.length < r.room
  · exact (vpush_few p B sl r x w h hB hlt).mono fun e w' ⟨he, hh⟩ => ⟨⟨_, he⟩, hh⟩
  · exact (vpush_full p B sl r x w h hB hlt).mono fun e w' ⟨he, hh⟩ => ⟨⟨_, he⟩, hh⟩
theorem hnew_no (n : Int) (w : World) (h : ¬ (1 ≤ n ∧ n ≤ 64)) : Calls Try.prog 36 #[.int .i64 n] w fun e w' => e = .returned (.pointer none) ∧ w = w' := by
  by_cases h1 : n < 1
  · go_enter Try.func36, Try.ntmps36
    go_wp2
    go_ret
    exact ⟨rfl, rfl⟩
  · have h2 : 64 < n := by omega
    clear h
    go_enter Try.func36, Try.ntmps36
    go_wp2
    go_ret
    exact ⟨rfl, rfl⟩
theorem hnew_yes (n : Nat) (w : World) (h1 : 1 ≤ n) (h2 : n ≤ 64) : Calls Try.prog 36 #[.int .i64 (n : Int)] w fun e w' => ∃ q p, e = .returned (.pointer (some ⟨q, 0, none⟩)) ∧ HAt w' q p w.heap.size (.slice none 0 0) ⟨[], 0, n⟩ ∧ Below w.heap.size w w' := by
  have HR := Lib.hid (RgAt.new_ (cells := advs) (s := 5) (T := 91) (e := 53) w n h1 (by omega) rfl)
  go_enter Try.func36, Try.ntmps36
  go_wp2_with (go_at_call 51; refine (vnew_yes n _ h1 (by omega)).mono ?_; rintro e w' ⟨rfl, rfl⟩)
  go_ret
  refine ⟨_, _, rfl, ⟨Blk.new_at _ _ _ (by simp), HR.out.up (sub_alloc (Below.refl _ _) _), by simp, Nat.le_refl _⟩, sub_alloc (sub_alloc (Below.refl _ _) _) _⟩
theorem hkept_nil (w : World) : Calls Try.prog 52 #[.pointer none] w fun e w' => e = .returned (.pointer none) ∧ w = w' := by
  go_enter Try.func52, Try.ntmps52
  go_wp2
  go_ret
  exact ⟨rfl, rfl⟩
theorem hkept_any (q p B : Nat) (sl : Value) (r : Rg Adv) (w : World) (h : HAt w q p B sl r) : Calls Try.prog 52 #[.pointer (some ⟨q, 0, none⟩)] w fun e w' => e = .returned (.pointer (some ⟨p, 0, none⟩)) ∧ w = w' := by
  have c0 := h.c0
  go_enter Try.func52, Try.ntmps52
  go_wp2
  go_ret
  exact ⟨rfl, rfl⟩
theorem hlen_nil (w : World) : Calls Try.prog 39 #[.pointer none] w fun e w' => e = .returned (.int .i64 0) ∧ w = w' := by
  go_enter Try.func39, Try.ntmps39
  go_wp2_with (first | (go_at_call 52; refine (hkept_nil _).mono ?_; rintro e w' ⟨rfl, rfl⟩) | (go_at_call 55; refine (vlen_nil _).mono ?_; rintro e w' ⟨rfl, rfl⟩))
  go_ret
  exact ⟨rfl, rfl⟩
theorem hlen_any (q p B : Nat) (sl : Value) (r : Rg Adv) (w : World) (h : HAt w q p B sl r) : Calls Try.prog 39 #[.pointer (some ⟨q, 0, none⟩)] w fun e w' => e = .returned (.int .i64 (r.list.length : Int)) ∧ w = w' := by
  rw [Rg.length r]
  go_enter Try.func39, Try.ntmps39
  go_wp2_with (first | (go_at_call 52; refine (hkept_any _ _ _ _ _ _ h).mono ?_; rintro e w' ⟨rfl, rfl⟩) | (go_at_call 55; refine (vlen_any _ _ _ _ _ h.rg).mono ?_; rintro e w' ⟨rfl, rfl⟩))
  go_ret
  exact ⟨rfl, rfl⟩
theorem hlist_nil (w : World) : Calls Try.prog 40 #[.pointer none] w fun e w' => ∃ v, e = .returned v ∧ MineS 5 w w' 53 v 0 (advs []) := by
  go_enter Try.func40, Try.ntmps40
  go_wp2_with (first | (go_at_call 52; refine (hkept_nil _).mono ?_; rintro e w' ⟨rfl, rfl⟩) | (go_at_call 56; refine (vlist_nil _).mono ?_; rintro e w' ⟨v, rfl, hm⟩; have HM := Lib.hid hm; clear hm))
  go_ret
  exact ⟨_, rfl, HM.out⟩
theorem hlist_any (q p B : Nat) (sl : Value) (r : Rg Adv) (w : World) (h : HAt w q p B sl r) : Calls Try.prog 40 #[.pointer (some ⟨q, 0, none⟩)] w fun e w' => ∃ v, e = .returned v ∧ MineS 5 w w' 53 v r.list.length (advs r.list) := by
  go_enter Try.func40, Try.ntmps40
  go_wp2_with (first | (go_at_call 52; refine (hkept_any _ _ _ _ _ _ h).mono ?_; rintro e w' ⟨rfl, rfl⟩) | (go_at_call 56; refine (vlist_any _ _ _ _ _ h.rg).mono ?_; rintro e w' ⟨v, rfl, hm⟩; have HM := Lib.hid hm; clear hm))
  go_ret
  exact ⟨_, rfl, HM.out⟩
theorem hclone_nil (w : World) : Calls Try.prog 41 #[.pointer none] w fun e w' => e = .returned (.pointer none) ∧ w = w' := by
  go_enter Try.func41, Try.ntmps41
  go_wp2
  go_ret
  exact ⟨rfl, rfl⟩
theorem hclone_any (q p B : Nat) (sl : Value) (r : Rg Adv) (w : World) (h : HAt w q p B sl r) :
    Calls Try.prog 41 #[.pointer (some ⟨q, 0, none⟩)] w fun e w' => ∃ q' p' sl', e = .returned (.pointer (some ⟨q', 0, none⟩)) ∧ HAt w' q' p' w.heap.size sl' r ∧ Below w.heap.size w w' := by
  have c0 := h.c0
  go_enter Try.func41, Try.ntmps41
  go_wp2_with (go_at_call 57; refine (vclone_any _ _ _ _ _ h.rg).mono ?_; rintro e w1 ⟨p1, sl1, rfl, hp1, hR1, hb1⟩)
  go_ret
  exact ⟨_, _, _, rfl, ⟨Blk.new_at _ _ _ rfl, hR1.up (sub_alloc (Below.refl _ _) _), hb1.size, hp1⟩, sub_alloc hb1 _⟩
theorem hadd_nil (x : Adv) (w : World) : Calls Try.prog 38 #[.pointer none, x.val] w fun e w' => e = .returned (.bool false) ∧ Below w.heap.size w w' := by
  obtain ⟨x1, x2, x3, x4, x5⟩ := x
  have HP := Lib.hid (fun w => vpush_nil ⟨x1, x2, x3, x4, x5⟩ w)
  have b1 := Blk.new_at w 53 (Adv.arr ⟨x1, x2, x3, x4, x5⟩) rfl
  have hb := sub_alloc (Below.refl w.heap.size w) (.cells (Adv.arr ⟨x1, x2, x3, x4, x5⟩) 53)
  obtain ⟨g0, g1, g2, g3, g4⟩ := b1.five
  unfold Adv.val Adv.arr at *
  simp only at *
  go_enter Try.func38, Try.ntmps38
  go_wp2_with (first | (go_at_call 52; refine (hkept_nil _).mono ?_; rintro e w' ⟨rfl, rfl⟩) | (go_at_call 54; refine (HP.out _).mono ?_; rintro e w1 ⟨⟨v1, rfl⟩, hb1⟩; have HB := Lib.hid hb1; clear hb1) | (go_at_call 55; refine (vlen_nil _).mono ?_; rintro e w' ⟨rfl, rfl⟩))
  go_ret
  exact ⟨rfl, sub_trans hb HB.out⟩
theorem hadd_any (q p B : Nat) (sl : Value) (r : Rg Adv) (x : Adv) (w : World) (h : HAt w q p B sl r) (hB : B ≤ w.heap.size) :
    Calls Try.prog 38 #[.pointer (some ⟨q, 0, none⟩), x.val] w fun e w' => e = .returned (.bool true) ∧ ∃ sl', HAt w' q p B sl' (r.push x) ∧ Keep (fun j => j = p ∨ sl.ownBlock = some j) w w' ∧ (sl'.ownBlock = sl.ownBlock ∨ ∀ k, sl'.ownBlock = some k → w.heap.size ≤ k) := by
  obtain ⟨x1, x2, x3, x4, x5⟩ := x
  have hpos : 0 < (r.push ⟨x1, x2, x3, x4, x5⟩).items.length := by
    have hk := h.rg.ok
    unfold Rg.push
    split
    · simp
    · have := hk.pos; simp; omega
  have HP := Lib.hid (fun w (h : RgV w p B sl r) hB => vpush_all p B sl r ⟨x1, x2, x3, x4, x5⟩ w h hB)
  have b1 := Blk.new_at w 53 (Adv.arr ⟨x1, x2, x3, x4, x5⟩) rfl
  have hb := sub_alloc (Below.refl w.heap.size w) (.cells (Adv.arr ⟨x1, x2, x3, x4, x5⟩) 53)
  obtain ⟨g0, g1, g2, g3, g4⟩ := b1.five
  have H2 := h.up hb
  have hqp : q ≠ p := blk_ne h.box h.rg.blk (by decide)
  have hqs : ∀ k, sl.ownBlock = some k → q ≠ k := fun k hk e => own_ne h.rg.own h.box (by decide) (by rw [hk, e])
  have hlt := fun k hk => (h.rg.own.lt k hk).1
  have HQ := Lib.hid (And.intro hqp (And.intro hqs hlt))
  clear hqp hqs hlt
  unfold Adv.val Adv.arr at *
  simp only at *
  go_enter Try.func38, Try.ntmps38
  go_wp2_with (first | (go_at_call 52; refine (hkept_any _ _ _ _ _ _ H2).mono ?_; rintro e w' ⟨rfl, rfl⟩) | (go_at_call 54; refine (HP.out _ H2.rg (Nat.le_trans hB hb.size)).mono ?_; rintro e w1 ⟨⟨v1, rfl⟩, sl1, hR1, hK1, hF1⟩; have HB := Lib.hid (And.intro hK1 hF1); clear hK1 hF1) | (go_at_call 55; refine (vlen_any _ _ _ _ _ hR1).mono ?_; rintro e w' ⟨rfl, rfl⟩))
  go_ret
  refine ⟨?_, sl1, ⟨HB.out.1.blk H2.box ?_, hR1, h.Bq, h.Bp⟩, (Keep.of_below hb).trans HB.out.1, HB.out.2.imp id fun h k hk => Nat.le_trans hb.size (h k hk)⟩
  · simp [hpos]
  · rintro (e | e)
    · exact HQ.out.1 e
    · exact HQ.out.2.1 _ e rfl
/-- what is not the ring's lies as it lay -/
theorem HAt.keepB {w w' : World} {q p B : Nat} {sl : Value} {r : Rg Adv} (h : HAt w q p B sl r) (hK : Keep (fun j => j = p ∨ sl.ownBlock = some j) w w') : Keep (fun j => B ≤ j) w w' := hK.more2 fun k hk => hk.elim (fun e => e ▸ h.Bp) fun e => (h.rg.own.lt k e).1
end Go.Proofs.Ytgmgddccdfmiiaa
