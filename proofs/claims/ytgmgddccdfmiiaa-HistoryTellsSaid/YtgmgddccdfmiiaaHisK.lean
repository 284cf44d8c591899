/-
  The walk of HistoryKeeps. Condition: none.
-/
import Derived.Test.YtgmgddccdfmiiaaHisA
import Derived.Test.YtgmgddccdfmiiaaArgs
namespace Go.Proofs.Ytgmgddccdfmiiaa
open Go.RowKit Go.Fw
set_option maxHeartbeats 2000000
set_option maxRecDepth 100000
set_option linter.unusedVariables false
set_option linter.unusedSimpArgs false
theorem hkeeps_long (room : Int) (l : List Adv) (A : Option Addr) (c : Nat) (a : Adv) (W : World) (hl : 100 < l.length) (hm : l.length ≤ maxLen) :
    Calls Try.prog 9 #[.int .i64 room, .slice A l.length c, a.val] W fun e w' => e = .returned (.bool true) ∧ Below W.heap.size W w' := by
  obtain ⟨a1, a2, a3, a4, a5⟩ := a
  unfold maxLen at hm
  have hb := sub_alloc (Below.refl W.heap.size W) (.cells (Adv.arr ⟨a1, a2, a3, a4, a5⟩) 53)
  unfold Adv.val
  unfold Adv.arr at *
  simp only at *
  go_enter Try.func9, Try.ntmps9
  go_wp2_with fail
  refine (hawake_any _).mono ?_
  rintro e w1 ⟨rfl, b1⟩
  have b2 := sub_trans hb b1
  clear hb b1
  go_wp2_with fail
  by_cases hr : 1 ≤ room ∧ room ≤ 64
  · obtain ⟨n, rfl⟩ : ∃ n : Nat, room = (n : Int) := ⟨room.toNat, by omega⟩
    refine (hnew_yes n _ (by omega) (by omega)).mono ?_
    rintro e w2 ⟨q, p, rfl, _, b3⟩
    have b4 := sub_trans b2 b3
    clear b2 b3 hr
    go_wp2
    go_ret
    exact ⟨rfl, b4⟩
  · refine (hnew_no room _ hr).mono ?_
    rintro e w2 ⟨rfl, rfl⟩
    clear hr
    go_wp2
    go_ret
    exact ⟨rfl, b2⟩
theorem hkeeps_none (room : Int) (l : List Adv) (A : Option Addr) (c : Nat) (a : Adv) (W : World) (hl : l.length ≤ 100) (hr : ¬ (1 ≤ room ∧ room ≤ 64)) :
    Calls Try.prog 9 #[.int .i64 room, .slice A l.length c, a.val] W fun e w' => e = .returned (.bool true) ∧ Below W.heap.size W w' := by
  have HA := Lib.hid (fun w => hadd_nil a w)
  obtain ⟨a1, a2, a3, a4, a5⟩ := a
  have ba := Blk.new_at W 53 (Adv.arr ⟨a1, a2, a3, a4, a5⟩) rfl
  have hb := sub_alloc (Below.refl W.heap.size W) (.cells (Adv.arr ⟨a1, a2, a3, a4, a5⟩) 53)
  have HL := Lib.hid (fun w => hlast_nil w)
  unfold Adv.val Adv.arr Adv.zero at *
  simp only at *
  go_enter Try.func9, Try.ntmps9
  go_wp2_with fail
  refine (hawake_any _).mono ?_
  rintro e w1 ⟨rfl, b1⟩
  have b2 := sub_trans hb b1
  have ba1 := ba.later b1
  clear hb b1 ba
  go_wp2_with fail
  refine (hnew_no room _ hr).mono ?_
  rintro e w2 ⟨rfl, rfl⟩
  have hlen : ¬ 100 < l.length := by omega
  by_cases h1 : room < 1
  all_goals
    have h2 : 64 < room ∨ room < 1 := by omega
    clear hr
    go_wp2_with fail
    refine (HL.out _).mono ?_
    rintro e w3 ⟨rfl, b3⟩
    have b4 := sub_alloc (sub_trans b2 b3) (.cells (Adv.arr ⟨0, 0, 0, 0, 0⟩) 53)
    have ba4 := (ba1.later b3).alloc (.cells (Adv.arr ⟨0, 0, 0, 0, 0⟩) 53)
    unfold Adv.arr at b4 ba4
    obtain ⟨g0, g1, g2, g3, g4⟩ := Blk.five (a := ⟨a1, a2, a3, a4, a5⟩) ba4
    simp only at b4 ba4 g0 g1 g2 g3 g4
    clear ba4 ba1 b2 b3
    go_wp2_with fail
    refine (HA.out _).mono ?_
    rintro e w4 ⟨rfl, b5⟩
    have b6 := sub_trans b4 b5
    clear b4 b5 g0 g1 g2 g3 g4
    go_wp2_with fail
    refine (hlen_nil _).mono ?_
    rintro e w5 ⟨rfl, rfl⟩
    go_wp2_with fail
    refine (hlist_nil _).mono ?_
    rintro e w5 ⟨v, rfl, hm⟩
    obtain ⟨A5, c5, rfl, _, _, _⟩ := hm.form
    have b7 := sub_trans b6 hm.below
    clear hm b6
    go_wp2_with fail
    refine (hclone_nil _).mono ?_
    rintro e w6 ⟨rfl, rfl⟩
    go_wp2
    go_ret
    exact ⟨rfl, b7⟩
/-- where the law stands behind some pushes -/
structure HK (W0 w : World) (q p B : Nat) (sl : Value) (r : Rg Adv) (A : Option Addr) (c n k : Nat) (l : List Adv) : Prop where
  his : HAt w q p B sl r
  below : Below W0.heap.size W0 w
  base : W0.heap.size ≤ B
  Bw : B ≤ w.heap.size
  list : r.list = lastN (l.take k) r.room
  rd : Reads w w.heap.size 5 A n (advs (lastN (l.take k) r.room))
  nc : n ≤ c
  ap : ∀ ad, A = some ad → ad.block ≠ p ∧ sl.ownBlock ≠ some ad.block
theorem HK.len {W0 w : World} {q p B : Nat} {sl : Value} {r : Rg Adv} {A : Option Addr} {c n k : Nat} {l : List Adv} (h : HK W0 w q p B sl r A c n k l) : n = (lastN (l.take k) r.room).length ∧ n = r.list.length ∧ n ≤ 4096 := by
  have h1 := adv_len h.rd
  refine ⟨h1, by rw [h.list]; exact h1, ?_⟩
  rw [h1, lastN_length]
  have := h.his.rg.ok.most
  omega
theorem Blk.below2 {w w' : World} {g B : Nat} {t : TypeId} {cs : Array Value} (h : Blk w g t cs) (hb : Below B w w') (hg : g < B) : Blk w' g t cs := (hb.block g hg).trans h
/-- .. behind one push more -/
structure HKX (w2 wr w3 : World) (B q p : Nat) (sl : Value) (r : Rg Adv) (A : Option Addr) (n k : Nat) (l : List Adv) (x : Adv) : Prop where
  his : HAt w3 q p B sl (r.push x)
  bx : Blk w3 wr.heap.size 53 x.arr
  below : Below B w2 w3
  rd : Reads w3 w3.heap.size 5 A n (advs (lastN (l.take k) r.room))
  lt : wr.heap.size < w3.heap.size
theorem Adv.ok_at {l : List Adv} {k : Nat} (hk : k < l.length) : l.take (k + 1) = l.take k ++ [l[k]] := List.take_succ_eq_append_getElem hk
theorem hkeeps_yes (room : Nat) (l : List Adv) (A : Option Addr) (c : Nat) (a : Adv) (W0 : World) (hR : Reads W0 W0.heap.size 5 A l.length (advs l)) (hl : l.length ≤ 100) (hr1 : 1 ≤ room) (hr2 : room ≤ 64) :
    Calls Try.prog 9 #[.int .i64 (room : Int), .slice A l.length c, a.val] W0 fun e w' => e = .returned (.bool true) ∧ Below W0.heap.size W0 w' := by
  have HA := Lib.hid (fun q p B sl r x w h hB => hadd_any q p B sl r x w h hB)
  have HP := Lib.hid (fun l A c n room x w hr hn h1 h2 => put14_any l A c n room x w hr hn h1 h2)
  have HL := Lib.hid (fun q p B sl r w L x h hL => hlast_any q p B sl r w L x h hL)
  obtain ⟨a1, a2, a3, a4, a5⟩ := a
  have ba := Blk.new_at W0 53 (Adv.arr ⟨a1, a2, a3, a4, a5⟩) rfl
  have hb := sub_alloc (Below.refl W0.heap.size W0) (.cells (Adv.arr ⟨a1, a2, a3, a4, a5⟩) 53)
  have hR1 := hR.up hb
  unfold Adv.val Adv.arr at *
  simp only at *
  go_enter Try.func9, Try.ntmps9
  go_wp2_with fail
  refine (hawake_any _).mono ?_
  rintro e w1 ⟨rfl, b1⟩
  have b2 := sub_trans hb b1
  have ba1 := ba.later b1
  have hR2 := hR1.up b1
  clear hb b1 ba hR hR1
  go_wp2_with fail
  refine (hnew_yes room _ hr1 (by omega)).mono ?_
  rintro e w2 ⟨q, p, rfl, h2, b3⟩
  have hB1 := b2.size
  have hK0 : HK W0 w2 q p w1.heap.size (.slice none 0 0) ⟨[], 0, room⟩ none 0 0 0 l := ⟨h2, sub_trans b2 b3, hB1, b3.size, by simp [Rg.list, lastN], by simpa [lastN, advs] using (Reads.none_ (w := w2) (B := w2.heap.size) (size := 5) (A := none)), Nat.le_refl _, fun _ e => by cases e⟩
  have hR3 : Reads w2 w1.heap.size 5 A l.length (advs l) := hR2.below b3
  have ba2 := ba1.later b3
  have hltB := ba1.lt
  have hlen : ¬ 100 < l.length := by omega
  have hc1 : ¬ (room : Int) < 1 := by omega
  have hc2 : ¬ 64 < (room : Int) := by omega
  have hBb : Below w1.heap.size w2 w2 := Below.refl _ _
  have hc3 := hBb
  clear hc3 hBb
  clear h2 b2 b3 ba1 hR2
  go_wp2_with fail
  go_loopw [10, 64] (fun v i wr => ∃ k : Nat, k ≤ l.length ∧ i = .int .i64 k ∧ ∃ (A2 : Option Addr) (c2 n2 : Nat) (sl2 : Value) (r2 : Rg Adv), v = .slice A2 n2 c2 ∧ Hid (HK W0 wr q p w1.heap.size sl2 r2 A2 c2 n2 k l ∧ r2.room = room ∧ Below w1.heap.size w2 wr)) (fun _ i _ => l.length - (intOf i).toNat)
  case atStart => exact ⟨0, Nat.zero_le _, rfl, none, 0, 0, _, _, rfl, Lib.hid ⟨hK0, rfl, Below.refl _ _⟩⟩
  case round =>
    obtain ⟨k, hk, rfl, A2, c2, n2, sl2, r2, rfl, HH⟩ := hrel
    by_cases hlt : k < l.length
    · obtain ⟨hK, hroom, hbw⟩ := HH.out
      obtain ⟨bl, off, rfl, hbl, p0, p1, p2, p3, p4⟩ := adv_at (hR3.below hbw) hlt
      have hs := Adv.ok_at hlt
      generalize l[k] = x at *
      obtain ⟨x1, x2, x3, x4, x5⟩ := x
      simp only at p0 p1 p2 p3 p4
      have bx := Blk.new_at wr 53 (Adv.arr ⟨x1, x2, x3, x4, x5⟩) rfl
      have hbx := sub_alloc (Below.refl wr.heap.size wr) (.cells (Adv.arr ⟨x1, x2, x3, x4, x5⟩) 53)
      have hH1 := hK.his.up hbx
      obtain ⟨g0, g1, g2, g3, g4⟩ := bx.five
      have HKH := Lib.hid (And.intro hK (And.intro hroom (And.intro hbw (And.intro hs (And.intro bx hbx)))))
      have HH1 := Lib.hid hH1
      clear hK hroom hbw hs bx hbx hH1 HH
      unfold Adv.arr at *
      simp only at g0 g1 g2 g3 g4
      have hlen2 : (k : Int) < (l.length : Int) := by omega
      go_wp2_with fail
      refine (HA.out q p w1.heap.size sl2 r2 ⟨x1, x2, x3, x4, x5⟩ _ HH1.out (Nat.le_trans HKH.out.1.Bw HKH.out.2.2.2.2.2.size)).mono ?_
      rintro e w3 ⟨rfl, sl3, h3, hK3, hF3⟩
      have HX3 : Hid (HKX w2 wr w3 w1.heap.size q p sl3 r2 A2 n2 k l ⟨x1, x2, x3, x4, x5⟩ ∧ (sl3.ownBlock = sl2.ownBlock ∨ ∀ k, sl3.ownBlock = some k → wr.heap.size < k)) := by
        obtain ⟨hK, hroom, hbw, hs, bx, hbx⟩ := HKH.out
        have hpl := hK.his.rg.blk.lt
        refine Lib.hid ⟨⟨h3, hK3.blk bx ?_, ?_, ?_, ?_⟩, ?_⟩
        · rintro (e | e)
          · omega
          · have := (hK.his.rg.own.lt _ e).2; omega
        · refine hbw.trans ((hbx.mono hK.Bw).trans ((HH1.out.keepB hK3).below (Nat.le_trans hK.Bw hbx.size) fun _ h => h))
        · refine (hK3.reads (hK.rd.up hbx) (Nat.le_refl _) fun ad e _ => ?_).more hK3.size
          have := hK.ap ad e
          rintro (e2 | e2)
          · exact this.1 e2
          · exact this.2 e2
        · have := hK3.size; simp at this; omega
        · exact hF3.imp id fun h k hk => by have := h k hk; simp at this; omega
      have bx3 := HX3.out.1.bx
      obtain ⟨u0, u1, u2, u3, u4⟩ := bx3.five
      simp only at u0 u1 u2 u3 u4
      have hnk := HKH.out.1.len.2.2
      clear hK3 hF3 h3 g0 g1 g2 g3 g4 bx3 p0 p1 p2 p3 p4 HH1
      go_wp2_with fail
      refine (HP.out (lastN (l.take k) r2.room) A2 c2 n2 room ⟨x1, x2, x3, x4, x5⟩ _ HX3.out.1.rd (by omega) hr1 (by omega)).mono ?_
      rintro e w4 ⟨A4, c4, rfl, hc4, hR4, hb4, hap4⟩
      have hput : putL (lastN (l.take k) r2.room) room ⟨x1, x2, x3, x4, x5⟩ = lastN (l.take (k + 1)) room := by
        rw [HKH.out.2.1, putL_last hr1, HKH.out.2.2.2.1]
      rw [hput] at hR4 hc4 ⊢
      have hlist : (r2.push ⟨x1, x2, x3, x4, x5⟩).list = lastN (l.take (k + 1)) room := by
        have h := Rg.push_last HKH.out.1.his.rg.ok HKH.out.1.list ⟨x1, x2, x3, x4, x5⟩
        rw [h, HKH.out.2.1, HKH.out.2.2.2.1]
      obtain ⟨L, hL⟩ := Rg.push_snoc HKH.out.1.his.rg.ok ⟨x1, x2, x3, x4, x5⟩
      have hroom3 : (r2.push ⟨x1, x2, x3, x4, x5⟩).room = room := by rw [Rg.push_room]; exact HKH.out.2.1
      have h4 := HX3.out.1.his.up hb4
      have bx4 := HX3.out.1.bx.later hb4
      have hlt3 := HX3.out.1.lt
      have hB4 := HX3.out.1.below.trans (hb4.mono (by have h1 := HX3.out.1.lt; have h2 := HKH.out.1.Bw; omega))
      have hap : ∀ ad, A4 = some ad → ad.block ≠ p ∧ sl3.ownBlock ≠ some ad.block := fun ad e => by
        have h1 := hap4 ad e
        have h2 := HX3.out.1.his.rg.blk.lt
        refine ⟨by omega, fun e2 => ?_⟩
        have h3 := (HX3.out.1.his.rg.own.lt _ e2).2
        omega
      generalize r2.push ⟨x1, x2, x3, x4, x5⟩ = r3 at *
      generalize hn4 : (lastN (l.take (k + 1)) room).length = n4 at *
      have HX4 := Lib.hid (And.intro h4 (And.intro hR4 (And.intro hlist (And.intro hB4 (And.intro hap (And.intro hc4 (And.intro hroom3 (And.intro hL hn4))))))))
      have hn5 : n4 ≤ 100 := by rw [← hn4, lastN_length]; omega
      clear h4 hR4 hlist hB4 hap hc4 hroom3 hL hn4 hap4 hb4 hput HX3 u0 u1 u2 u3 u4 hlt3
      go_wp2_with fail
      refine (HL.out q p w1.heap.size sl3 r3 _ L ⟨x1, x2, x3, x4, x5⟩ HX4.out.1 HX4.out.2.2.2.2.2.2.2.1).mono ?_
      rintro e w5 ⟨rfl, b5⟩
      have b6 := sub_alloc b5 (.cells (Adv.arr ⟨x1, x2, x3, x4, x5⟩) 53)
      have by6 := Blk.new_at w5 53 (Adv.arr ⟨x1, x2, x3, x4, x5⟩) rfl
      have bx6 := bx4.later b6
      have h6 := HX4.out.1.up b6
      have hlen6 := hlen_any _ _ _ _ _ _ h6
      have hll : r3.list.length = n4 := by rw [HX4.out.2.2.1]; exact HX4.out.2.2.2.2.2.2.2.2
      rw [hll] at hlen6
      have HL6 := Lib.hid hlen6
      have hlist7 := hlist_any _ _ _ _ _ _ h6
      rw [hll, HX4.out.2.2.1] at hlist7
      have HL7 := Lib.hid hlist7
      have HB6 := Lib.hid (And.intro b6 (And.intro by6 bx6))
      unfold Adv.arr at HL6 HL7
      simp only at HL6 HL7
      clear b6 by6 bx6 h6 hlen6 bx4 b5 hll hlist7
      go_wp2_with fail
      refine HL6.out.mono ?_
      rintro e w6 ⟨rfl, rfl⟩
      go_wp2_with fail
      refine HL7.out.mono ?_
      rintro e w7 ⟨v7, rfl, hm7⟩
      obtain ⟨A7, c7, rfl, _, _, r7⟩ := hm7.form
      have bW := sub_trans HB6.out.1 hm7.below
      have r4 := HX4.out.2.1.up bW
      have by7 := HB6.out.2.1.later hm7.below
      have bx7 := HB6.out.2.2.later hm7.below
      clear hm7
      go_wp2_with fail
      refine (same14_any (lastN (l.take (k + 1)) room) A7 A4 c7 c4 n4 n4 _ w7 r7 r4 (by omega)).mono ?_
      rintro e w8 ⟨rfl, b8⟩
      have bW2 : Below w4.heap.size w4 w8 := bW.trans (b8.mono bW.size)
      have by8 := by7.later b8
      have bx8 := bx7.later b8
      obtain ⟨g0, g1, g2, g3, g4⟩ := bx8.five
      obtain ⟨u0, u1, u2, u3, u4⟩ := by8.five
      have hne := adv_neq x1 x2 x3 x4 x5 x1 x2 x3 x4 x5
      simp only [beq_self_eq_true, Bool.and_self, Bool.not_true] at hne
      simp only at g0 g1 g2 g3 g4 u0 u1 u2 u3 u4
      clear r7 bW r4 by7 bx7 b8 by8 bx8 HL6 HL7 HB6
      go_wp2
      obtain ⟨h4, hR4, hlist, hB4, hap, hc4, hroom3, hL, hn4⟩ := HX4.out
      have hs1 := bW2.size
      have hs2 := hB4.size
      have hs3 := hK0.Bw
      have hB8 : Below w1.heap.size w2 w8 := hB4.trans (bW2.mono (by omega))
      refine ⟨⟨k + 1, by omega, by go_num, A4, c4, n4, sl3, r3, rfl, Lib.hid ⟨⟨h4.up bW2, hK0.below.trans (hB8.mono hB1), hB1, by omega, by rw [hroom3]; exact hlist, by rw [hroom3]; exact hR4.up bW2, hc4, hap⟩, hroom3, hB8⟩⟩, by simp [intOf]; omega⟩
    · obtain rfl : k = l.length := by omega
      obtain ⟨hK, hroom, hbw⟩ := HH.out
      have ba3 := Blk.below2 ba2 hbw hltB
      have hlist : r2.list = lastN l room := by rw [hK.list, hroom, List.take_length]
      have hrd := hK.rd
      rw [hroom, List.take_length] at hrd
      have hn2 := hK.len
      rw [hroom, List.take_length] at hn2
      have hBw := hK.Bw
      have hbel := hK.below
      have his := hK.his
      have hok := his.rg.ok
      have hnc := hK.nc
      have HK1 := Lib.hid (And.intro his (And.intro hlist (And.intro hroom (And.intro hrd (And.intro hn2 (And.intro hBw hbel))))))
      have hn3 := hn2.2.2
      clear hK hroom hbw hlist hrd hn2 hbel his HH hK0 HL
      go_wp2_with fail
      refine (hclone_any _ _ _ _ _ _ HK1.out.1).mono ?_
      rintro e w3 ⟨q3, p3, sl3, rfl, h3, b3⟩
      have ba4 := ba3.later b3
      obtain ⟨g0, g1, g2, g3, g4⟩ := Blk.five (a := ⟨a1, a2, a3, a4, a5⟩) ba4
      simp only at g0 g1 g2 g3 g4
      go_wp2_with fail
      refine (HA.out _ _ _ _ _ ⟨a1, a2, a3, a4, a5⟩ _ h3 b3.size).mono ?_
      rintro e w4 ⟨rfl, sl4, h4, hK4, _⟩
      have b4 : Below wr.heap.size w3 w4 := (h3.keepB hK4).below b3.size fun _ h => h
      have b34 := b3.trans b4
      have ba5 := ba3.later b34
      have hlast : (r2.push ⟨a1, a2, a3, a4, a5⟩).list = lastN (l ++ [⟨a1, a2, a3, a4, a5⟩]) room := by
        rw [Rg.push_last hok (l := l) (by rw [HK1.out.2.2.1]; exact HK1.out.2.1), HK1.out.2.2.1]
      clear g0 g1 g2 g3 g4 h3 hK4 ba4 ba3 b4 b3 HA
      have hsz4 := b34.size
      have hnW : W0.heap.size < w4.heap.size := by omega
      go_upto_region 22 with fail
      obtain ⟨g0, g1, g2, g3, g4⟩ := Blk.five (a := ⟨a1, a2, a3, a4, a5⟩) ba5
      simp only at g0 g1 g2 g3 g4
      have hh4 := HK1.out.1.up b34
      have hrd4 := HK1.out.2.2.2.1.up b34
      have hS0 : Below w4.heap.size w4 w4.drew := (Below.refl _ _).drew
      have HL1 := hlist_any _ _ _ _ _ _ (hh4.up hS0)
      have hll : r2.list.length = n2 := HK1.out.2.2.2.2.1.2.1.symm
      rw [hll, HK1.out.2.1] at HL1
      have HL1' := Lib.hid HL1
      have HH4 := Lib.hid (And.intro h4 (And.intro hrd4 (And.intro hlast (And.intro hll hh4))))
      clear HL1 h4 hrd4 hlast hll hh4
      refine any_start (S := fun W0 => Below w4.heap.size w4 W0) (by kernel_rfl) hS0 ?_
      simp only [List.length_cons, List.length_nil, Nat.reduceAdd, List.size_toArray]
      refine any_pure 0 (v := ?_) rfl (by kernel_rfl) (by intro _ _ _ h; exact h) (by assumption) (by rfl) (fun W hW => ?_) ?_
      rotate_left
      · first | (go_simp; done) | (go_simp; with_reducible rfl)
      try simp only [Act.put, List.setIfInBounds_toArray, List.set_cons_zero, List.set_cons_succ]
      refine any_pure 2 (v := ?_) rfl (by kernel_rfl) (by intro _ _ _ h; exact h) (by assumption) (by rfl) (fun W hW => ?_) ?_
      rotate_left
      · first | (go_simp; done) | (go_simp; with_reducible rfl)
      try simp only [Act.put, List.setIfInBounds_toArray, List.set_cons_zero, List.set_cons_succ]
      refine any_one 1 (by kernel_rfl) rfl (by rfl) (fun K hK => ?_)
      go_simp
      refine HL1'.out.mono ?_
      rintro e5 w5 ⟨v5, rfl, hm5⟩
      obtain ⟨A5, c5, rfl, _, _, r5⟩ := hm5.form
      have hS5 := sub_trans hS0 hm5.below
      clear hm5
      refine hK _ _ hS5 ?_
      clear hK
      try simp only [Act.put, List.setIfInBounds_toArray, List.set_cons_zero, List.set_cons_succ]
      refine any_one 3 (by kernel_rfl) rfl (by rfl) (fun K hK => ?_)
      go_simp
      refine (same14_any (lastN l room) A5 A2 c5 c2 n2 n2 _ w5 r5 (HH4.out.2.1.up hS5) (by omega)).mono ?_
      rintro e6 w6 ⟨rfl, b6⟩
      have hS6 := sub_trans hS5 b6
      clear r5 b6
      refine hK _ _ hS6 ?_
      clear hK
      try simp only [Act.put, List.setIfInBounds_toArray, List.set_cons_zero, List.set_cons_succ]
      refine any_pure 4 (v := ?_) rfl (by kernel_rfl) (by intro _ _ _ h; exact h) (by assumption) (by rfl) (fun W hW => ?_) ?_
      rotate_left
      · first | (go_simp; done) | (go_simp; with_reducible rfl)
      try simp only [Act.put, List.setIfInBounds_toArray, List.set_cons_zero, List.set_cons_succ]
      refine any_pure 5 (v := ?_) rfl (by kernel_rfl) (by intro _ _ _ h; exact h) (by assumption) (by rfl) (fun W hW => ?_) ?_
      rotate_left
      · first | (go_simp; done) | (go_simp; with_reducible rfl)
      try simp only [Act.put, List.setIfInBounds_toArray, List.set_cons_zero, List.set_cons_succ]
      refine any_pure 7 (v := ?_) rfl (by kernel_rfl) (by intro _ _ _ h; exact h) (by assumption) (by rfl) (fun W hW => ?_) ?_
      rotate_left
      · first | (go_simp; done) | (go_simp; with_reducible rfl)
      try simp only [Act.put, List.setIfInBounds_toArray, List.set_cons_zero, List.set_cons_succ]
      refine any_pure 8 (v := ?_) rfl (by kernel_rfl) (by intro _ _ _ h; exact h) (by assumption) (by rfl) (fun W hW => ?_) ?_
      rotate_left
      · first | (go_simp; done) | (go_simp; with_reducible rfl)
      try simp only [Act.put, List.setIfInBounds_toArray, List.set_cons_zero, List.set_cons_succ]
      refine any_pure 9 (v := ?_) rfl (by kernel_rfl) (by intro _ _ _ h; exact h) (by assumption) (by rfl) (fun W hW => ?_) ?_
      rotate_left
      · have e0 := (Below.cell hW (p := ⟨W0.heap.size, 0, none⟩) hnW).trans g0; have e1 := (Below.cell hW (p := ⟨W0.heap.size, 1, none⟩) hnW).trans g1; have e2 := (Below.cell hW (p := ⟨W0.heap.size, 2, none⟩) hnW).trans g2; have e3 := (Below.cell hW (p := ⟨W0.heap.size, 3, none⟩) hnW).trans g3; have e4 := (Below.cell hW (p := ⟨W0.heap.size, 4, none⟩) hnW).trans g4; first | (go_simp; done) | (go_simp; with_reducible rfl)
      try simp only [Act.put, List.setIfInBounds_toArray, List.set_cons_zero, List.set_cons_succ]
      refine any_one 6 (by kernel_rfl) rfl (by rfl) (fun K hK => ?_)
      go_simp
      refine (hlist_any _ _ _ _ _ _ (HH4.out.1.up hS6)).mono ?_
      rintro e7 w7 ⟨v7, rfl, hm7⟩
      rw [HH4.out.2.2.1] at hm7
      obtain ⟨A7, c7, rfl, _, _, r7⟩ := hm7.form
      have hS7 := sub_trans hS6 hm7.below
      clear hm7
      refine hK _ _ hS7 ?_
      clear hK
      try simp only [Act.put, List.setIfInBounds_toArray, List.set_cons_zero, List.set_cons_succ]
      refine any_one 10 (by kernel_rfl) rfl (by rfl) (fun K hK => ?_)
      go_simp
      refine (HP.out (lastN l room) A2 c2 n2 room ⟨a1, a2, a3, a4, a5⟩ _ (HH4.out.2.1.up hS7) (by omega) hr1 (by omega)).mono ?_
      rintro e8 w8 ⟨A8, c8, rfl, hc8, hR8, hb8, _⟩
      rw [putL_last hr1] at hR8 hc8 ⊢
      have hS8 := sub_trans hS7 hb8
      have r8 := r7.up hb8
      have hn9 : (r2.push ⟨a1, a2, a3, a4, a5⟩).list.length = (lastN (l ++ [(⟨a1, a2, a3, a4, a5⟩ : Adv)]) room).length := by rw [HH4.out.2.2.1]
      have hn10 : (lastN (l ++ [(⟨a1, a2, a3, a4, a5⟩ : Adv)]) room).length ≤ 100000 := by rw [lastN_length]; omega
      clear hb8 r7
      refine hK _ _ hS8 ?_
      clear hK
      try simp only [Act.put, List.setIfInBounds_toArray, List.set_cons_zero, List.set_cons_succ]
      refine any_one 11 (by kernel_rfl) rfl (by rfl) (fun K hK => ?_)
      go_simp
      refine (same14_any (lastN (l ++ [(⟨a1, a2, a3, a4, a5⟩ : Adv)]) room) A7 A8 c7 c8 _ _ _ w8 r8 hR8 (by first | exact hn10 | (rw [hn9]; exact hn10))).mono ?_
      rintro e9 w9 ⟨rfl, b9⟩
      have hS9 := sub_trans hS8 b9
      clear r8 hR8 b9
      refine hK _ _ hS9 ?_
      clear hK
      try simp only [Act.put, List.setIfInBounds_toArray, List.set_cons_zero, List.set_cons_succ]
      refine any_pure 12 (v := ?_) rfl (by kernel_rfl) (by intro _ _ _ h; exact h) (by assumption) (by rfl) (fun W hW => ?_) ?_
      rotate_left
      · first | (go_simp; done) | (go_simp; with_reducible rfl)
      try simp only [Act.put, List.setIfInBounds_toArray, List.set_cons_zero, List.set_cons_succ]
      refine any_pure 13 (v := ?_) rfl (by kernel_rfl) (by intro _ _ _ h; exact h) (by assumption) (by rfl) (fun W hW => ?_) ?_
      rotate_left
      · first | (go_simp; done) | (go_simp; with_reducible rfl)
      try simp only [Act.put, List.setIfInBounds_toArray, List.set_cons_zero, List.set_cons_succ]
      refine any_done (by kernel_rfl) ?_
      go_wp2
      go_ret
      refine ⟨rfl, ?_⟩
      have h1 : Below W0.heap.size W0 w4 := HK1.out.2.2.2.2.2.2.trans (b34.mono (by omega))
      exact h1.trans (hS9.mono (by omega))
end Go.Proofs.Ytgmgddccdfmiiaa
