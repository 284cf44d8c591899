/-
  RingClones walked. Condition: none.
-/
import Derived.Test.YtgmgddccdfmiiaaRingKeeps
namespace Go.Fw
open Go.RowKit
set_option linter.unusedVariables false
theorem own_keepL {L : Nat → Prop} {w w' : World} (h : Keep L w w') {B s n : Nat} {e : TypeId} {v : Value} {xs : List Value} (hv : w.ownsRow B e s v n xs) (hL : ∀ k, v.ownBlock = some k → ¬ L k) : w'.ownsRow B e s v n xs := by
  refine ⟨hv.1, ?_⟩
  rcases hv.2 with h2 | ⟨g, cap, cur, rfl, hB, hh, h3⟩
  · exact .inl h2
  · exact .inr ⟨g, cap, cur, rfl, hB, (h.block g (Blk.lt (t := e) (cs := cur) hh) (hL g rfl)).trans hh, h3⟩
end Go.Fw
namespace Go.Proofs.Ytgmgddccdfmiiaa
open Go.RowKit Go.Fw
set_option maxHeartbeats 2000000
set_option maxRecDepth 4000
set_option linter.unusedVariables false
set_option linter.unusedSimpArgs false
/-- the ring, its clone, and what the ring told -/
structure TwoRings (w0 w : World) (n : Nat) (l m : List Int) (q : Nat) (was : Value) : Prop where
  one : ∃ sl r, RgI w w0.heap.size w0.heap.size sl r ∧ r.room = n ∧ r.list = lastN l n ∧ ∃ B, w0.heap.size < B ∧ (∀ k, sl.ownBlock = some k → k < B) ∧ B ≤ q ∧ ∃ sc rc, RgI w q B sc rc ∧ rc.room = n ∧ rc.list = lastN (l ++ m) n ∧
    ∃ Bw, q < Bw ∧ w.ownsRow Bw 3 1 was (lastN l n).length (i64s (lastN l n)) ∧ ∀ k, was.ownBlock = some k → sc.ownBlock ≠ some k
  below : Below w0.heap.size w0 w
theorem TwoRings.up {w0 w w' : World} {n : Nat} {l m : List Int} {q : Nat} {was : Value} (h : TwoRings w0 w n l m q was) (hb : Below w.heap.size w w') : TwoRings w0 w' n l m q was := by
  obtain ⟨sl, r, h1, h2, h3, B, h4, h5, h6, sc, rc, h7, h8, h9, Bw, h10, h11, h12⟩ := h.one
  exact ⟨⟨sl, r, h1.up hb, h2, h3, B, h4, h5, h6, sc, rc, h7.up hb, h8, h9, Bw, h10, own_later h11 hb, h12⟩, sub_trans h.below hb⟩
/-- something is pushed into the clone -/
theorem two_push {w0 w : World} {n : Nat} {l m : List Int} {q : Nat} {was : Value} (h : TwoRings w0 w n l m q was) (x : Int) :
    Calls Try.prog 17 #[.pointer (some ⟨q, 0, none⟩), .int .i64 x] w fun e w' => (∃ a b, e = .returned (.tuple #[.int .i64 a, .bool b])) ∧ TwoRings w0 w' n l (m ++ [x]) q was := by
  obtain ⟨sl, r, h1, h2, h3, B, h4, h5, h6, sc, rc, h7, h8, h9, Bw, h10, h11, h12⟩ := h.one
  have hqB : B ≤ w.heap.size := Nat.le_trans h6 (Nat.le_of_lt h7.blk.lt)
  refine (ipush_all q B sc rc x w h7 hqB (.inr trivial)).mono ?_
  rintro e w' ⟨he, sc', h7', hK, hnew⟩
  have hscB : ∀ k, sc.ownBlock = some k → B ≤ k := fun k hk => (h7.own.lt k hk).1
  refine ⟨⟨_, _, he⟩, ⟨sl, r, ?_, h2, h3, B, h4, h5, h6, sc', rc.push x, h7', by rw [Rg.push_room]; exact h8, ?_, Bw, h10, ?_, ?_⟩, ?_⟩
  · refine h1.keep hK (fun e => e.elim (fun e => by omega) fun e => by have := hscB _ e; omega) fun k hk e => ?_
    have := h5 k hk
    rcases e with e | e
    · omega
    · have := hscB _ e; omega
  · have := Rg.push_last h7.ok (l := l ++ m) (by rw [h8]; exact h9) x
    rw [h8, List.append_assoc] at this
    exact this
  · refine own_keepL hK h11 fun k hk e => ?_
    rcases e with e | e
    · have := (h11.lt k hk).1; omega
    · exact h12 k hk e
  · intro k hk e
    rcases hnew with hn | hn
    · exact h12 k hk (hn ▸ e)
    · have := hn k e
      have := (h11.lt k hk).2
      omega
  · exact h.below.trans (hK.below h.below.size fun k e => e.elim (fun e => by omega) fun e => by have := hscB k e; omega)
theorem ringClones_walk (n : Int) (l : List Int) (A : Option Addr) (c : Nat) (m : List Int) (A2 : Option Addr) (c2 : Nat) (w : World) (hn : -9223372036854775808 ≤ n ∧ n ≤ 9223372036854775807) (hr : Reads w w.heap.size 1 A l.length (i64s l)) (hs : Small l) (hl : l.length ≤ maxLen ∧ l.length ≤ c)
    (hr2 : Reads w w.heap.size 1 A2 m.length (i64s m)) (hs2 : Small m) (hl2 : m.length ≤ maxLen ∧ m.length ≤ c2) :
    Calls Try.prog 6 #[.int .i64 n, .slice A l.length c, .slice A2 m.length c2] w fun e w' => e = .returned (.bool true) ∧ Below w.heap.size w w' := by
  obtain ⟨hl63, hlc⟩ := hl
  obtain ⟨hm63, hmc⟩ := hl2
  unfold maxLen at hl63 hm63
  obtain ⟨hn0, hn1⟩ := hn
  by_cases hbig : 60 < l.length ∨ 60 < m.length
  · have hbig2 : (60 : Int) < (l.length : Int) ∨ (¬ (60 : Int) < (l.length : Int) ∧ (60 : Int) < (m.length : Int)) := by omega
    clear hbig
    by_cases hroom : 1 ≤ n ∧ n ≤ 4096
    · obtain ⟨k, rfl⟩ : ∃ k : Nat, n = (k : Int) := ⟨n.toNat, by omega⟩
      have HR := Lib.hid hroom
      clear hroom hn0 hn1
      rcases hbig2 with h1 | ⟨h1, h2⟩
      all_goals
        go_enter Try.func6, Try.ntmps6
        go_wp2_with fail
        refine (rawake_any w).mono ?_
        rintro e w1 ⟨rfl, hb⟩
        have HB := Lib.hid hb
        clear hb
        go_wp2_with fail
        refine (inew_yes k w1 (by have := HR.out; omega) (by have := HR.out; omega)).mono ?_
        rintro e w2 ⟨rfl, rfl⟩
        go_wp2
        go_ret
        exact ⟨rfl, sub_alloc HB.out _⟩
    · have HR := Lib.hid hroom
      clear hroom
      rcases hbig2 with h1 | ⟨h1, h2⟩
      all_goals
        go_enter Try.func6, Try.ntmps6
        go_wp2_with fail
        refine (rawake_any w).mono ?_
        rintro e w1 ⟨rfl, hb⟩
        have HB := Lib.hid hb
        clear hb
        go_wp2_with fail
        refine (inew_no n w1 HR.out).mono ?_
        rintro e w2 ⟨rfl, rfl⟩
        go_wp2
        go_ret
        exact ⟨rfl, HB.out⟩
  · have hbl : ¬ (60 : Int) < (l.length : Int) := by omega
    have hbm : ¬ (60 : Int) < (m.length : Int) := by omega
    by_cases hroom : 1 ≤ n ∧ n ≤ 4096
    · obtain ⟨k, rfl⟩ : ∃ k : Nat, n = (k : Int) := ⟨n.toNat, by omega⟩
      have hk1 : 1 ≤ k := by omega
      have hk2 : k ≤ 4096 := by omega
      have hlN : l.length ≤ 60 := by omega
      have hmN : m.length ≤ 60 := by omega
      clear hroom hn0 hn1
      go_enter Try.func6, Try.ntmps6
      go_wp2_with fail
      refine (rawake_any w).mono ?_
      rintro e w1 ⟨rfl, hb⟩
      have HB := Lib.hid hb
      have HR := Lib.hid (hr.up hb)
      have HR2 := Lib.hid (hr2.up hb)
      have HSS := Lib.hid (And.intro hs hs2)
      clear hb hr hr2 hs hs2
      have HNEW := Lib.hid (rgIn_new w1 k hk1 hk2)
      go_wp2_with fail
      refine (inew_yes k w1 hk1 hk2).mono ?_
      rintro e w2 ⟨rfl, rfl⟩
      generalize w1.alloc (.cells #[.slice none 0 0, .int .i64 0, .int .i64 (k : Int)] 74) = w2 at *
      generalize hnl : l.length = L at *
      generalize hnm : m.length = M at *
      have HN := Lib.hid (And.intro hnl hnm)
      clear hnl hnm hbig
      go_wp2
      go_loopg [65] L (fun g i wr => ∃ (j : Nat), j ≤ L ∧ g = L - j ∧ i = .int .i64 j ∧ RgIn w1 wr k (l.take j))
      case atStart => exact ⟨0, Nat.zero_le _, rfl, rfl, by simpa using HNEW.out⟩
      case round =>
        obtain ⟨j, hj, hg, rfl, sl, r, hR, hrm, hrl, hBl⟩ := hrel
        have HG := Lib.hid hg
        clear hg
        by_cases hlt : j < L
        · have hkl : j < l.length := by have := HN.out.1; omega
          obtain ⟨ad, u, rfl, _, hux, hc⟩ := (HR.out.up hBl).at_ hlt
          obtain rfl := i64s_get hux hkl
          have htk : l.take (j + 1) = l.take j ++ [l[j]] := List.take_succ_eq_append_getElem hkl
          have hpl := Rg.push_last hR.ok (l := l.take j) (by rw [hrm]; exact hrl) l[j]
          rw [hrm, ← htk] at hpl
          have hpu := ipush_any _ _ _ _ l[j] wr hR hBl.size (.inr trivial)
          have hpr : (r.push l[j]).room = k := by rw [Rg.push_room]; exact hrm
          have hpk : ∀ (w' : World), Keep (fun j => j = w1.heap.size ∨ sl.ownBlock = some j) wr w' → Below w1.heap.size w1 w' := fun w' hK => hBl.trans ((RgAt.pushKeep hR (Nat.le_refl _) hK).below hBl.size fun _ h => h)
          have HX := Lib.hid (And.intro hpl (And.intro hpu (And.intro hpr hpk)))
          clear hpl hpu hpr hpk hR hrl hux htk
          generalize r.push l[j] = r' at *
          generalize l[j] = x at *
          go_wp2_with fail
          refine HX.out.2.1.mono ?_
          rintro e w3 ⟨rfl, sl3, h3, hK3⟩
          have H3 := Lib.hid (And.intro h3 (HX.out.2.2.2 _ hK3))
          clear h3 hK3
          go_wp2
          go_roundg (L - (j + 1))
          case measure => have := HG.out; omega
          case rel => exact ⟨j + 1, by omega, rfl, by go_num, _, _, H3.out.1, HX.out.2.2.1, HX.out.1, H3.out.2⟩
        · rw [List.take_of_length_le (by have := HN.out.1; omega)] at hrl
          have HX := Lib.hid (And.intro hR (And.intro hrm (And.intro hrl hBl)))
          have hBs := hBl.size
          clear hR hrm hrl hBl
          obtain ⟨wb, rfl⟩ : ∃ wb, wb = wr := ⟨_, rfl⟩
          go_wp2_with fail
          refine (iclone_any _ _ _ _ wb HX.out.1).mono ?_
          rintro e w3 ⟨q, sc, rfl, hq, h3, hb3⟩
          have H3 := Lib.hid (And.intro h3 (And.intro hb3 (HX.out.1.up hb3)))
          clear h3 hb3
          go_wp2_with fail
          refine (ilist_any _ _ _ _ w3 H3.out.2.2).mono ?_
          rintro e w4 ⟨v, rfl, hm4⟩
          have HT : Hid (TwoRings w1 w4 k l [] q v) := Lib.hid ⟨⟨_, _, H3.out.2.2.up hm4.below, HX.out.2.1, HX.out.2.2.1, wb.heap.size, HX.out.1.blk.lt, fun j hj => (HX.out.1.own.lt j hj).2, hq, sc, r, H3.out.1.up hm4.below, HX.out.2.1, by rw [List.append_nil]; exact HX.out.2.2.1, w3.heap.size, H3.out.1.blk.lt, by have := hm4.own; rw [HX.out.2.2.1] at this; exact this, fun j hj e => by have := (hm4.own.lt j hj).1; have := (H3.out.1.own.lt j e).2; omega⟩, sub_trans (sub_trans HX.out.2.2.2 H3.out.2.1) hm4.below⟩
          obtain ⟨Aw, qw, rfl, _, _, _⟩ := hm4.form
          have hwl : r.list.length = (lastN l k).length := by rw [HX.out.2.2.1]
          rw [hwl] at HT ⊢
          clear hm4 hwl
          generalize hln : (lastN l k).length = nw at *
          have HLN := Lib.hid hln
          clear hln
          go_wp2
          go_loopg [79] M (fun g i wq => ∃ (j : Nat), j ≤ M ∧ g = M - j ∧ i = .int .i64 j ∧ TwoRings w1 wq k l (m.take j) q (.slice Aw nw qw))
          case atStart => exact ⟨0, Nat.zero_le _, rfl, rfl, by simpa using HT.out⟩
          case round =>
            obtain ⟨j2, hj2, hg2, rfl, hT2⟩ := hrel
            have HG2 := Lib.hid hg2
            clear hg2
            by_cases hlt2 : j2 < M
            · have hkm : j2 < m.length := by have := HN.out.2; omega
              obtain ⟨ad, u, rfl, _, hux, hc⟩ := (HR2.out.up hT2.below).at_ hlt2
              obtain rfl := i64s_get hux hkm
              have htk : m.take (j2 + 1) = m.take j2 ++ [m[j2]] := List.take_succ_eq_append_getElem hkm
              have hpu := two_push hT2 m[j2]
              rw [← htk] at hpu
              have HX2 := Lib.hid hpu
              clear hpu htk hux hT2
              generalize m[j2] = x at *
              go_wp2_with fail
              refine HX2.out.mono ?_
              rintro e w5 ⟨⟨a5, b5, rfl⟩, h5⟩
              have H5 := Lib.hid h5
              clear h5
              go_wp2
              go_roundg (M - (j2 + 1))
              case measure => have := HG2.out; omega
              case rel => exact ⟨j2 + 1, by omega, rfl, by go_num, H5.out⟩
            · rw [List.take_of_length_le (by have := HN.out.2; omega)] at hT2
              have hRl := HR.out.up hT2.below
              have hRm := HR2.out.up hT2.below
              have HT2 := Lib.hid hT2
              have hbw := hT2.below.size
              clear hT2
              obtain ⟨i, hi, hz, hsz, hby⟩ := info_parts elemIntR.info
              have h1l := i64s_one l
              have h1m := i64s_one m
              have ho := World.ownsRow_nil wr wr.heap.size 3 1
              go_wp2_with (at_builtin; first
                | ((refine wpList_append_any wr rfl (.tmp 87) (.tmp 88) _ rfl wr.heap.size 3 i (.int .i64 0) 1 8 elemIntR.under hi hz hsz hby rfl (by decide) _ 0 [] rfl ho wr.heap.size A L c (i64s l) rfl hRl h1l (by unfold maxLen; omega) (by omega) (Nat.le_refl _) ?_); intro v5 w5 hm5 hg5 _; have hRm5 := hRm.grown hg5 (Nat.le_refl _) (by intro g e; cases e); have hz5 := hg5.size; clear hRm)
                | ((refine wpList_append_any w5 rfl (.tmp 89) (.tmp 90) _ rfl wr.heap.size 3 i (.int .i64 0) 1 8 elemIntR.under hi hz hsz hby rfl (by decide) _ (0 + L) ([] ++ i64s l) rfl hm5 wr.heap.size A2 M c2 (i64s m) rfl hRm5 h1m (by unfold maxLen; omega) (by omega) hz5 ?_); intro v6 w6 hm6 hg6 _))
              have hg5' : wr.grownBy w5 none := hg5
              have hg6' : w5.grownBy w6 v5.ownBlock := hg6
              have hb6 : Below wr.heap.size wr w6 := ((Below.refl wr.heap.size wr).grown hg5' (Nat.le_refl _) (by intro g e; cases e)).grown hg6' hz5 (fun g e => (hm5.lt g e).1)
              have hb0 := hm6.lt
              obtain ⟨A6, c6, rfl, hc6, _⟩ := own_form hm6
              have hrd6 := Reads.of_own hm6
              have e6 : [] ++ i64s l ++ i64s m = i64s (l ++ m) := by simp [i64s]
              have n6 : 0 + L + M = L + M := by omega
              rw [e6, n6] at hrd6
              rw [n6] at hc6
              rw [n6]
              have HA := Lib.hid hrd6
              have HB6 := Lib.hid hb6
              have HT6 := Lib.hid (HT2.out.up hb6)
              clear hg5 hg6 hg5' hg6' hrd6 hm5 hm6 hb6 hRm5 e6 n6 HR2 HT2
              obtain ⟨sl6, r6, h61, h62, h63, B6, h64, h65, h66, sc6, rc6, h67, h68, h69, Bw6, h6a, h6b, h6c⟩ := HT6.out.one
              have HA1 := Lib.hid (And.intro h61 (And.intro h62 h63))
              have HA2 := Lib.hid (And.intro h67 (And.intro h68 h69))
              have HA3 := Lib.hid h6b
              clear h61 h62 h63 h67 h68 h69 h6b h6c
              go_wp2_with fail
              refine (ilist_any _ _ _ _ w6 HA1.out.1).mono ?_
              rintro e w7 ⟨v7, rfl, hm7⟩
              have HM7 := Lib.hid hm7
              obtain ⟨A7, q7, rfl, _, _, hr7⟩ := hm7.form
              have HR7 := Lib.hid hr7
              clear hm7 hr7
              go_wp2_with fail
              have hlk : (lastN l k).length ≤ 60 := by rw [lastN_length, HN.out.1]; omega
              have hlk2 : (lastN (l ++ m) k).length ≤ 120 := by rw [lastN_length, List.length_append, HN.out.1, HN.out.2]; omega
              have hsl : Small (lastN l k) := HSS.out.1.last k
              have hslm : Small (lastN (l ++ m) k) := Small.last (small_of fun x hx => by
                rcases List.mem_append.1 hx with h | h
                · obtain ⟨i, hi, rfl⟩ := List.getElem_of_mem h
                  exact HSS.out.1 i hi
                · obtain ⟨i, hi, rfl⟩ := List.getElem_of_mem h
                  exact HSS.out.2 i hi) k
              have hl6 : r6.list.length ≤ 60 := by rw [HA1.out.2.2]; exact hlk
              have hl6c : rc6.list.length ≤ 120 := by rw [HA2.out.2.2]; exact hlk2
              have hsl6 : Small r6.list := by rw [HA1.out.2.2]; exact hsl
              have hsl6c : Small rc6.list := by rw [HA2.out.2.2]; exact hslm
              have hnw : nw ≤ 60 := by have := HLN.out; omega
              have HSM := Lib.hid (And.intro hsl (And.intro hslm (And.intro hsl6 hsl6c)))
              have HLE := Lib.hid (And.intro hlk (And.intro hlk2 (And.intro hl6 hl6c)))
              clear hsl hslm hsl6 hsl6c hlk hlk2 hl6 hl6c
              have hwas6 := HA3.out
              rw [HLN.out] at hwas6
              have HW7 := Lib.hid (Reads.of_own (own_later hwas6 HM7.out.below))
              clear hwas6
              have HT7 := Lib.hid (HT6.out.up HM7.out.below)
              have HA7 := Lib.hid (HA.out.up HM7.out.below)
              go_wp2_with fail
              refine (same7_any r6.list (lastN l k) _ _ _ _ _ _ _ w7 HR7.out HW7.out (by have := HLE.out.2.2.1; omega) (by omega) HSM.out.2.2.1 HSM.out.1).mono ?_
              rintro e w8 ⟨rfl, hb8⟩
              rw [show decide (r6.list = lastN l k) = true by simp [HA1.out.2.2]]
              have HT8 := Lib.hid (HT7.out.up hb8)
              have HW8 := Lib.hid (HW7.out.up hb8)
              have HA8 := Lib.hid (HA7.out.up hb8)
              clear hb8
              go_wp2_with fail
              refine (last_any l A c L _ k w8 (HR.out.up HT8.out.below) hlc (by omega) (by omega)).mono ?_
              rintro e w9 ⟨⟨A9, q9, rfl, _, hr9⟩, rfl⟩
              have HR9 := Lib.hid hr9
              clear hr9
              go_wp2_with fail
              refine (same7_any (lastN l k) (lastN l k) _ _ _ _ _ _ _ w8 HW8.out HR9.out (by omega) (by have := HLE.out.1; omega) HSM.out.1 HSM.out.1).mono ?_
              rintro e w10 ⟨rfl, hb10⟩
              rw [show decide (lastN l k = lastN l k) = true by simp]
              have HT10 := Lib.hid (HT8.out.up hb10)
              have HA10 := Lib.hid (HA8.out.up hb10)
              clear hb10 HR9
              go_wp2_with fail
              obtain ⟨sx, rx, _, _, _, Bx, _, _, _, scx, rcx, hx1, hx2, hx3, _⟩ := HT10.out.one
              have HX1 := Lib.hid (And.intro hx1 (And.intro hx2 hx3))
              clear hx1 hx2 hx3
              refine (ilist_any _ _ _ _ w10 HX1.out.1).mono ?_
              rintro e w11 ⟨v11, rfl, hm11⟩
              have HM11 := Lib.hid hm11
              obtain ⟨A11, q11, rfl, _, _, hr11⟩ := hm11.form
              have HR11 := Lib.hid hr11
              clear hm11 hr11
              have HT11 := Lib.hid (HT10.out.up HM11.out.below)
              have HA11 := Lib.hid (HA10.out.up HM11.out.below)
              have hlx : rcx.list.length ≤ 120 := by rw [HX1.out.2.2]; exact HLE.out.2.1
              have hsx : Small rcx.list := by rw [HX1.out.2.2]; exact HSM.out.2.1
              go_wp2_with fail
              refine (last_any (l ++ m) A6 c6 (L + M) _ k w11 HA11.out hc6 (by omega) (by omega)).mono ?_
              rintro e w12 ⟨⟨A12, q12, rfl, _, hr12⟩, rfl⟩
              have HR12 := Lib.hid hr12
              clear hr12
              go_wp2_with fail
              refine (same7_any rcx.list (lastN (l ++ m) k) _ _ _ _ _ _ _ w11 HR11.out HR12.out (by omega) (by have := HLE.out.2.1; omega) hsx HSM.out.2.1).mono ?_
              rintro e w13 ⟨rfl, hb13⟩
              rw [show decide (rcx.list = lastN (l ++ m) k) = true by simp [HX1.out.2.2]]
              have HT13 := Lib.hid (HT11.out.up hb13)
              have HX13 := Lib.hid ((HX1.out.1.up HM11.out.below).up hb13)
              clear hb13 HR12
              go_wp2_with fail
              have hrm := iroom_any _ _ _ _ w13 HX13.out
              rw [HX1.out.2.1] at hrm
              refine hrm.mono ?_
              rintro e w14 ⟨rfl, rfl⟩
              go_wp2
              go_ret
              exact ⟨rfl, HB.out.trans (HT13.out.below.mono HB.out.size)⟩
    · have HR := Lib.hid hroom
      clear hroom
      go_enter Try.func6, Try.ntmps6
      go_wp2_with fail
      refine (rawake_any w).mono ?_
      rintro e w1 ⟨rfl, hb⟩
      have HB := Lib.hid hb
      clear hb
      go_wp2_with fail
      refine (inew_no n w1 HR.out).mono ?_
      rintro e w2 ⟨rfl, rfl⟩
      go_wp2_with fail
      refine (ipush_nil 1 w1).mono ?_
      rintro e w2 ⟨rfl, rfl⟩
      go_wp2_with fail
      refine (ilen_nil w1).mono ?_
      rintro e w2 ⟨rfl, rfl⟩
      go_wp2_with fail
      refine (iroom_nil w1).mono ?_
      rintro e w2 ⟨rfl, rfl⟩
      go_wp2_with fail
      refine (ilist_nil w1).mono ?_
      rintro e w2 ⟨v, rfl, hm⟩
      obtain ⟨A3, c3, rfl, _, _, _⟩ := hm.form
      have HM := Lib.hid hm
      clear hm
      go_wp2_with fail
      refine (iclone_nil w2).mono ?_
      rintro e w3 ⟨rfl, rfl⟩
      go_wp2
      go_ret
      exact ⟨rfl, sub_trans HB.out HM.out.below⟩
end Go.Proofs.Ytgmgddccdfmiiaa
