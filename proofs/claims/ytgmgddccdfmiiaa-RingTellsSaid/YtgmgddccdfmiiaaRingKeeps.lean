/-
  RingKeeps walked. Condition: none.
-/
import Derived.Test.YtgmgddccdfmiiaaRingC
import Derived.Deep.LoopGhost
import Derived.Deep.Cut
import Derived.Deep.CutRange
import Derived.Deep.DeepCutAuto
namespace Go.Fw
open Go.RowKit
set_option linter.unusedVariables false
theorem Reads.pre {w : World} {B n k : Nat} {A : Option Addr} {xs : List Value} (h : Reads w B 1 A n xs) (hk : k ≤ n) : Reads w B 1 A k (xs.take k) := by
  refine ⟨by rw [List.length_take, h.1]; omega, fun hpos => ?_⟩
  obtain ⟨ad, e, hb, hc⟩ := h.2 (by omega)
  refine ⟨ad, e, hb, fun j u hu => hc j u ?_⟩
  rw [List.getElem?_take] at hu
  split at hu
  · exact hu
  · cases hu
theorem Small.sub {l l' : List Int} (h : Small l) (hs : ∀ x ∈ l', x ∈ l) : Small l' := small_of fun x hx => by
  obtain ⟨i, hi, rfl⟩ := List.getElem_of_mem (hs x hx)
  exact h i hi
theorem Small.take {l : List Int} (h : Small l) (k : Nat) : Small (l.take k) := h.sub fun _ hx => List.mem_of_mem_take hx
theorem Small.last {l : List Int} (h : Small l) (n : Nat) : Small (lastN l n) := h.sub fun _ hx => List.mem_of_mem_drop hx
end Go.Fw
namespace Go.Proofs.Ytgmgddccdfmiiaa
open Go.RowKit Go.Fw
set_option maxHeartbeats 2000000
set_option maxRecDepth 4000
set_option linter.unusedVariables false
set_option linter.unusedSimpArgs false
/-- the ring that was made first since world w0, and what it has: the last n of l -/
def RgIn (w0 w : World) (n : Nat) (l : List Int) : Prop := ∃ sl r, RgI w w0.heap.size w0.heap.size sl r ∧ r.room = n ∧ r.list = lastN l n ∧ Below w0.heap.size w0 w
theorem rgIn_new (w : World) (n : Nat) (h1 : 1 ≤ n) (h2 : n ≤ 4096) : RgIn w (w.alloc (.cells #[.slice none 0 0, .int .i64 0, .int .i64 (n : Int)] 74)) n [] :=
  ⟨_, _, RgAt.new_ w n h1 h2 rfl, rfl, by simp [Rg.list, lastN], sub_alloc (Below.refl _ _) _⟩
theorem outI_few {r : Rg Int} (h : r.items.length < r.room) : outI r = (0, false) := if_pos h
theorem ringKeeps_walk (n : Int) (l : List Int) (A : Option Addr) (c : Nat) (w : World) (hn : -9223372036854775808 ≤ n ∧ n ≤ 9223372036854775807) (hr : Reads w w.heap.size 1 A l.length (i64s l)) (hs : Small l) (hl : l.length ≤ maxLen ∧ l.length ≤ c) :
    Calls Try.prog 4 #[.int .i64 n, .slice A l.length c] w fun e w' => e = .returned (.bool true) ∧ Below w.heap.size w w' := by
  obtain ⟨hl63, hlc⟩ := hl
  unfold maxLen at hl63
  obtain ⟨hn0, hn1⟩ := hn
  by_cases hroom : 1 ≤ n ∧ n ≤ 4096
  · obtain ⟨hr1, hr2⟩ := hroom
    obtain ⟨m, rfl⟩ : ∃ m : Nat, n = (m : Int) := ⟨n.toNat, by omega⟩
    have hm1 : 1 ≤ m := by omega
    have hm2 : m ≤ 4096 := by omega
    by_cases hbig : 60 < l.length
    · go_enter Try.func4, Try.ntmps4
      go_wp2_with fail
      refine (rawake_any w).mono ?_
      rintro e w1 ⟨rfl, hb⟩
      have HB := Lib.hid hb
      clear hb
      go_wp2_with fail
      refine (inew_yes m w1 hm1 hm2).mono ?_
      rintro e w2 ⟨rfl, rfl⟩
      go_wp2
      go_ret
      exact ⟨ret_b (by simp; omega), sub_alloc HB.out _⟩
    · have hr1' : ¬ (m : Int) < 1 := by omega
      have hr2' : ¬ (4096 : Int) < (m : Int) := by omega
      have hbig' : ¬ (60 : Int) < (l.length : Int) := by omega
      have hln : l.length ≤ 60 := by omega
      go_enter Try.func4, Try.ntmps4
      go_wp2_with fail
      refine (rawake_any w).mono ?_
      rintro e w1 ⟨rfl, hb⟩
      have HB := Lib.hid hb
      have HR := Lib.hid (hr.up hb)
      have HS := Lib.hid hs
      clear hb hr hs
      have HNEW := Lib.hid (rgIn_new w1 m hm1 hm2)
      go_wp2_with fail
      refine (inew_yes m w1 hm1 hm2).mono ?_
      rintro e w2 ⟨rfl, rfl⟩
      generalize w1.alloc (.cells #[.slice none 0 0, .int .i64 0, .int .i64 (m : Int)] 74) = w2 at *
      generalize hnl : l.length = n at *
      have HN := Lib.hid hnl
      clear hnl
      go_wp2
      go_loopg [36] n (fun g i wr => ∃ (k : Nat), k ≤ n ∧ g = n - k ∧ i = .int .i64 k ∧ RgIn w1 wr m (l.take k))
      case atStart => exact ⟨0, Nat.zero_le _, rfl, rfl, by simpa using HNEW.out⟩
      case round =>
        obtain ⟨k, hk, hg, rfl, sl, r, hR, hrm, hrl, hBl⟩ := hrel
        have HG := Lib.hid hg
        clear hg
        by_cases hlt : k < n
        · have hkl : k < l.length := by have := HN.out; omega
          have hR1 := HR.out.up hBl
          obtain ⟨ad, u, rfl, _, hux, hc⟩ := hR1.at_ hlt
          obtain rfl := i64s_get hux hkl
          have hsm := HS.out k hkl
          have htk : l.take (k + 1) = l.take k ++ [l[k]] := List.take_succ_eq_append_getElem hkl
          have hlen : r.items.length = min k m := by
            rw [← Rg.length, hrl, lastN_length, List.length_take]
            omega
          have hpl := Rg.push_last hR.ok (l := l.take k) (by rw [hrm]; exact hrl) l[k]
          rw [hrm, ← htk] at hpl
          have hpu := ipush_any _ _ _ _ l[k] wr hR hBl.size (.inr trivial)
          have hok := hR.ok
          have hout : (k < m ∧ outI r = (0, false)) ∨ (m ≤ k ∧ ∃ (hj : k - m < l.length), outI r = (l[k - m], true)) := by
            by_cases hkm : k < m
            · exact .inl ⟨hkm, outI_few (by omega)⟩
            · refine .inr ⟨by omega, by omega, ?_⟩
              unfold outI
              rw [if_neg (by omega), hrl]
              unfold lastN
              rw [List.length_take, show min k l.length = k by omega, List.head?_drop, List.getElem?_take_of_lt (by omega), List.getElem?_eq_getElem (by omega)]
              rfl
          generalize hoi : outI r = oi at *
          obtain ⟨oa, ob⟩ := oi
          have hpk : ∀ (w' : World), Keep (fun j => j = w1.heap.size ∨ sl.ownBlock = some j) wr w' → Below w1.heap.size w1 w' := fun w' hK => hBl.trans ((RgAt.pushKeep hR (Nat.le_refl _) hK).below hBl.size fun _ h => h)
          have hpr : (r.push l[k]).room = m := by rw [Rg.push_room]; exact hrm
          have HX := Lib.hid (And.intro hpl (And.intro hpu (And.intro hpr hout)))
          have HPK := Lib.hid hpk
          clear hpl hpu hpr hpk hR hrl hlen hok hout htk hux hoi
          generalize r.push l[k] = r' at *
          generalize l[k] = x at *
          have HBL := Lib.hid hBl
          clear hBl
          go_wp2_with fail
          refine HX.out.2.1.mono ?_
          rintro e w3 ⟨rfl, sl3, h3, hK3⟩
          have b3 := HPK.out _ hK3
          have HR3 := Lib.hid (And.intro h3 b3)
          have hr3 := (HR.out.up b3)
          clear h3 b3 hK3 hc
          go_upto_region 10 with fail
          go_cut [72] (fun v wx => v = .bool false ∧ wx = w3)
          case first =>
            rcases HX.out.2.2.2 with ⟨hkm, ho⟩ | ⟨hkm, hj, ho⟩
            · injection ho with ho1 ho2
              subst ho1 ho2
              have hkm2 : ¬ (m : Int) ≤ (k : Int) := by omega
              go_wp2
              go_meet
              exact ⟨rfl, rfl⟩
            · injection ho with ho1 ho2
              subst ho1 ho2
              have hkm2 : (m : Int) ≤ (k : Int) := by omega
              obtain ⟨ad2, u2, e2, _, hux2, hc2⟩ := hr3.at_ (k := k - m) (by omega)
              injection e2 with e2
              subst e2
              obtain rfl := i64s_get hux2 hj
              generalize l[k - m] = y at *
              go_wp2
              go_meet
              exact ⟨rfl, rfl⟩
          case rest =>
            obtain ⟨rfl, rfl⟩ := hcut
            have hn100 : n ≤ c := hlc
            have hwk : IntKind.i64.wrap ((k : Int) + 1) = (k : Int) + 1 := by rw [IntKind.wrap_i64]; omega
            have hk0 : (0 : Int) ≤ (k : Int) + 1 := by omega
            have hk1c : (k : Int) + 1 ≤ (c : Int) := by omega
            have hpre := hr3.pre (k := k + 1) (by omega)
            have hpre2 : (i64s l).take (k + 1) = i64s (l.take (k + 1)) := by simp [i64s]
            rw [hpre2] at hpre
            have hla := last_any (l.take (k + 1)) (some ad) c (k + 1)
            have HLA := Lib.hid (And.intro hla hpre)
            have hll := ilist_any _ _ _ _ wc.drew HR3.out.1.drew
            have hlr : r'.list.length ≤ 4096 := by rw [HX.out.1, lastN_length, List.length_take]; omega
            have HLL := Lib.hid (And.intro hll hlr)
            clear hla hpre hpre2 hll hlr hr3 hR1
            go_wp2
            have hS0 : Below wc.heap.size wc wc.drew := sub_drewN (Below.refl _ _) 1
            refine any_start (S := fun W => Below wc.heap.size wc W) (by kernel_rfl) hS0 ?_
            simp only [List.length_cons, List.length_nil, Nat.reduceAdd, List.size_toArray]
            refine any_pure 0 (v := ?_) rfl (by kernel_rfl) (by intro _ _ _ h; exact h) (by assumption) (by rfl) (fun W hW => ?_) ?_
            rotate_left
            · first | (go_simp; done) | (go_simp; with_reducible rfl)
            try simp only [Act.put, List.setIfInBounds_toArray, List.set_cons_zero, List.set_cons_succ]
            refine any_pure 2 (v := ?_) rfl (by kernel_rfl) (by intro _ _ _ h; exact h) (by assumption) (by rfl) (fun W hW => ?_) ?_
            rotate_left
            · first | (go_simp; done) | (go_simp; with_reducible rfl)
            try simp only [Act.put, List.setIfInBounds_toArray, List.set_cons_zero, List.set_cons_succ]
            refine any_pure 3 (v := ?_) rfl (by kernel_rfl) (by intro _ _ _ h; exact h) (by assumption) (by rfl) (fun W hW => ?_) ?_
            rotate_left
            · first | (go_simp; done) | (go_simp; with_reducible rfl)
            try simp only [Act.put, List.setIfInBounds_toArray, List.set_cons_zero, List.set_cons_succ]
            refine any_pure 4 (v := ?_) rfl (by kernel_rfl) (by intro _ _ _ h; exact h) (by assumption) (by rfl) (fun W hW => ?_) ?_
            rotate_left
            · first | (go_simp; done) | (go_simp; with_reducible rfl)
            try simp only [Act.put, List.setIfInBounds_toArray, List.set_cons_zero, List.set_cons_succ]
            refine any_pure 5 (v := ?_) rfl (by kernel_rfl) (by intro _ _ _ h; exact h) (by assumption) (by rfl) (fun W hW => ?_) ?_
            rotate_left
            · first | (go_simp; done) | (go_simp; with_reducible rfl)
            try simp only [Act.put, List.setIfInBounds_toArray, List.set_cons_zero, List.set_cons_succ]
            refine any_pure 6 (v := ?_) rfl (by kernel_rfl) (by intro _ _ _ h; exact h) (by assumption) (by rfl) (fun W hW => ?_) ?_
            rotate_left
            · first | (go_simp; done) | (go_simp; with_reducible rfl)
            try simp only [Act.put, List.setIfInBounds_toArray, List.set_cons_zero, List.set_cons_succ]
            refine any_one 1 (by kernel_rfl) rfl (by rfl) (fun K hK => ?_)
            go_simp
            refine HLL.out.1.mono ?_
            rintro e1 w4 ⟨v4, rfl, hm4⟩
            obtain ⟨A4, q4, rfl, _, _, hr4⟩ := hm4.form
            have hS4 := sub_trans hS0 hm4.below
            refine hK _ _ hS4 ?_
            clear hK
            try simp only [Act.put, List.setIfInBounds_toArray, List.set_cons_zero, List.set_cons_succ]
            refine any_one 7 (by kernel_rfl) rfl (by rfl) (fun K hK => ?_)
            go_simp
            have hla7 := HLA.out.1 w4.heap.size m w4 (HLA.out.2.up hS4) (by omega) (by omega) (by omega)
            refine hla7.mono ?_
            rintro e1 w5 ⟨⟨A5, q5, rfl, _, hr5⟩, rfl⟩
            refine hK _ _ hS4 ?_
            clear hK
            try simp only [Act.put, List.setIfInBounds_toArray, List.set_cons_zero, List.set_cons_succ]
            refine any_one 8 (by kernel_rfl) rfl (by rfl) (fun K hK => ?_)
            go_simp
            refine (same7_any r'.list (lastN (l.take (k + 1)) m) _ _ _ _ _ _ _ _ hr4 hr5 (by have := HLL.out.2; omega) (by rw [← HX.out.1]; have := HLL.out.2; omega) (by rw [HX.out.1]; exact (HS.out.take _).last _) ((HS.out.take _).last _)).mono ?_
            rintro e1 w5 ⟨rfl, hb5⟩
            rw [show decide (r'.list = lastN (l.take (k + 1)) m) = true by simp [HX.out.1]]
            have hS5 := sub_trans hS4 hb5
            refine hK _ _ hS5 ?_
            clear hK
            try simp only [Act.put, List.setIfInBounds_toArray, List.set_cons_zero, List.set_cons_succ]
            refine any_pure 9 (v := ?_) rfl (by kernel_rfl) (by intro _ _ _ h; exact h) (by assumption) (by rfl) (fun W hW => ?_) ?_
            rotate_left
            · first | (go_simp; done) | (go_simp; with_reducible rfl)
            try simp only [Act.put, List.setIfInBounds_toArray, List.set_cons_zero, List.set_cons_succ]
            refine any_done (by kernel_rfl) ?_
            go_wp2
            go_roundg (n - (k + 1))
            case measure => have := HG.out; omega
            case rel => exact ⟨k + 1, by omega, rfl, by go_num, _, _, HR3.out.1.up hS5, HX.out.2.2.1, HX.out.1, sub_trans HR3.out.2 hS5⟩
        · have hkn : k = n := by omega
          have hll : r.items.length = min n m := by
            rw [← Rg.length, hrl, lastN_length, List.length_take]
            have := HN.out
            omega
          have hrc := iroom_any _ _ _ _ wr hR
          have hlc2 := ilen_any _ _ _ _ wr hR
          rw [hrm] at hrc
          rw [hll] at hlc2
          have HRC := Lib.hid (And.intro hrc hlc2)
          have HBL := Lib.hid hBl
          have hR0 := hR.blk.lt
          clear hrc hlc2 hR hrm hrl hBl hll
          go_wp2_with fail
          refine HRC.out.1.mono ?_
          rintro e w3 ⟨rfl, rfl⟩
          go_wp2_with fail
          refine HRC.out.2.mono ?_
          rintro e w3 ⟨rfl, rfl⟩
          go_wp2
          all_goals
            go_ret
            exact ⟨ret_b (by rw [beq_iff_eq]; omega), HB.out.trans (HBL.out.mono HB.out.size)⟩
  · have hor : n < 1 ∨ (¬ n < 1 ∧ 4096 < n) := by omega
    rcases hor with h1 | ⟨h1, h2⟩
    all_goals
      go_enter Try.func4, Try.ntmps4
      go_wp2_with fail
      refine (rawake_any w).mono ?_
      rintro e w1 ⟨rfl, hb⟩
      have HB := Lib.hid hb
      clear hb
      go_wp2_with fail
      refine (inew_no n w1 (by omega)).mono ?_
      rintro e w2 ⟨rfl, rfl⟩
      go_wp2
      go_ret
      exact ⟨rfl, HB.out⟩
end Go.Proofs.Ytgmgddccdfmiiaa
