/-
  FifoPlays walked. Condition: none.
-/
import Derived.Test.YtnikpgngaoaiiaaFifoR
import Derived.Test.YtnikpgngaoaiiaaActs
import Derived.Test.YtnikpgngaoaiiaaSame07
import Derived.Test.YtnikpgngaoaiiaaOrder
import Derived.Deep.LoopGhost
import Derived.Deep.Cut
import Derived.Deep.CutBlock
import Derived.Deep.CutRange
import Derived.Deep.DeepCutAuto
namespace Go.Proofs.Ytnikpgngaoaiiaa
open Go.RowKit Go.Fw Go.Shelf
set_option maxHeartbeats 2000000
set_option maxRecDepth 4000
set_option linter.unusedVariables false
set_option linter.unusedSimpArgs false
def FPlay (w1 wr : World) (A : Option Addr) (c : Nat) (L : List Int) (k : Nat) : Prop :=
  ∃ S, QIHas wr w1.heap.size w1.heap.size S L ∧ Reads wr wr.heap.size 1 A L.length (i64s L) ∧ (∀ ad, A = some ad → 0 < L.length → ¬ S ad.block) ∧ Below w1.heap.size w1 wr ∧ (L.length ≤ k ∧ L.length ≤ c ∧ ∀ x ∈ L, In64 x)
def FSt (w1 wr : World) (v : Value) (k : Nat) : Prop := ∃ A c L, v = .slice A L.length c ∧ FPlay w1 wr A c L k
theorem FPlay.up {w1 wr w' : World} {A : Option Addr} {c : Nat} {L : List Int} {k k' : Nat} (h : FPlay w1 wr A c L k) (hb : Below wr.heap.size wr w') (hk : k ≤ k') : FPlay w1 w' A c L k' := by
  obtain ⟨S, h1, h2, h3, h4, h5, h6, h7⟩ := h
  exact ⟨S, h1.up hb, h2.up hb, h3, sub_trans h4 hb, by omega, h6, h7⟩
theorem play_q {w1 w w' : World} {A : Option Addr} {n : Nat} {xs : List Value} {S : Nat → Prop} {L L' : List Int} (hq : QIHas w w1.heap.size w1.heap.size S L) (hr : Reads w w.heap.size 1 A n xs) (hna : ∀ ad, A = some ad → 0 < n → ¬ S ad.block) (hb : Below w1.heap.size w1 w) (hn : QINew w w' w1.heap.size w1.heap.size S L') :
    ∃ S', QIHas w' w1.heap.size w1.heap.size S' L' ∧ Reads w' w'.heap.size 1 A n xs ∧ (∀ ad, A = some ad → 0 < n → ¬ S' ad.block) ∧ Below w1.heap.size w1 w' := by
  have hbl := hn.below hb.size (hq.ge (Nat.le_refl _))
  obtain ⟨S', h1, h2, h3⟩ := hn
  refine ⟨S', h1, (h2.reads hr (Nat.le_refl _) hna).more h2.size, fun ad e hp hs => ?_, hb.trans hbl⟩
  obtain ⟨ad', e', hlt, _⟩ := hr.2 hp
  rw [e] at e'
  injection e' with e'
  subst e'
  rcases h3 _ hs with h | h
  · exact hna ad e hp h
  · omega
theorem QHas.ne_ {α : Type} {cells : List α → List Value} {T e t : TypeId} {w : World} {p B g : Nat} {S : Nat → Prop} {L : List α} {cs : Array Value} (h : QHas cells T e w p B S L) (hg : Blk w g t cs) (h1 : T ≠ t) (h2 : e ≠ t) : ¬ S g := by
  obtain ⟨vf, vb, f, b, hq, _, rfl⟩ := h
  rintro (rfl | h3 | h3)
  · have h4 := hq.blk
    unfold Blk at h4 hg
    rw [h4] at hg
    injection hg with hg
    injection hg with _ ht
    exact h1 ht
  · exact own_ne hq.front hg h2 h3
  · exact own_ne hq.back hg h2 h3
theorem fplays_long (l : List (Int × Int)) (A : Option Addr) (c : Nat) (nn : Int) (w : World) (hl : l.length ≤ maxLen) (hbig : 80 < l.length) :
    Calls Try.prog 3 #[.slice A l.length c, .int .i64 nn] w fun e w' => e = .returned (.bool true) ∧ Below w.heap.size w w' := by
  unfold maxLen at hl
  go_enter Try.func3, Try.ntmps3
  go_wp2_with fail
  refine (qawake_any w).mono ?_
  rintro e w1 ⟨rfl, hb⟩
  go_wp2
  go_ret
  exact ⟨rfl, hb⟩
theorem fplays_few (l : List (Int × Int)) (A : Option Addr) (c : Nat) (nn : Int) (w : World) (hr : Reads w w.heap.size 2 A l.length (actsV l)) (hok : ActsOk l) (hl : l.length ≤ 80) :
    Calls Try.prog 3 #[.slice A l.length c, .int .i64 nn] w fun e w' => e = .returned (.bool true) ∧ Below w.heap.size w w' := by
  go_enter Try.func3, Try.ntmps3
  go_wp2_with fail
  refine (qawake_any w).mono ?_
  rintro e w1 ⟨rfl, hb⟩
  have hr1 := hr.up hb
  have HR := Lib.hid hr1
  have HB := Lib.hid hb
  have HOK := Lib.hid hok
  clear hr hr1 hb hok
  generalize hn : l.length = n at *
  have HN := Lib.hid hn
  clear hn
  have hnew : FPlay w1 (w1.alloc (.cells #[.slice none 0 0, .slice none 0 0] 26)) none 0 [] 0 := by
    refine ⟨_, QHas.new_ w1 rfl rfl, ?_, ?_, ?_, ?_, ?_, ?_⟩
    · exact Reads.none_
    · intro ad e
      cases e
    · exact sub_alloc (Below.refl _ _) _
    · exact Nat.le_refl _
    · exact Nat.le_refl _
    · intro x hx
      cases hx
  have HNEW := Lib.hid hnew
  clear hnew
  go_wp2
  go_loopw [6, 22] (fun v i wr => ∃ (k : Nat), k ≤ n ∧ i = .int .i64 k ∧ FSt w1 wr v k) (fun _ i _ => n - (intOf i).toNat)
  case atStart => exact ⟨0, Nat.zero_le _, rfl, none, 0, [], rfl, HNEW.out⟩
  case round =>
    obtain ⟨k, hk, rfl, A6, c6, L, rfl, hP⟩ := hrel
    by_cases hlt : k < n
    · have hkl : k < l.length := by have := HN.out; omega
      obtain ⟨bl, off, rfl, hbl, g0, g1⟩ := act_at (HR.out.up (by obtain ⟨_, _, _, _, h, _⟩ := hP; exact h)) hkl
      obtain ⟨i0, i1⟩ := HOK.out l[k] (List.getElem_mem hkl)
      generalize l[k] = a at *
      obtain ⟨a0, a1⟩ := a
      simp only at g0 g1 i0 i1
      have HI := Lib.hid (And.intro i0 i1)
      clear i0 i1
      have hP9 := hP.up (sub_alloc (Below.refl _ wr) (.cells #[.int .i64 a0, .int .i64 a1] 28)) (Nat.le_refl _)
      have h9 := Blk.new_at wr 28 #[.int .i64 a0, .int .i64 a1] (g := wr.heap.size) rfl
      have HP9 := Lib.hid (And.intro hP9 h9)
      have hkn : (k : Int) < (n : Int) := by omega
      clear hP hP9 h9
      go_upto_block 2 with fail
      generalize (wr.alloc (.cells #[.int .i64 a0, .int .i64 a1] 28)) = wa at *
      have d0 := HP9.out.2.cell 0
      have d1 := HP9.out.2.cell 1
      simp at d0 d1
      obtain ⟨S, hq, hR6, hna, hbw, hlk, hlc, hin⟩ := HP9.out.1
      have hl80 : L.length ≤ 100000 := by omega
      go_cut [6] (fun v wx => FSt w1 wx v (k + 1))
      case first =>
        by_cases ha2 : a0 = 2
        · subst ha2
          cases L with
          | nil =>
            have HX := Lib.hid (HP9.out.1.up (k' := k + 1) ((Below.refl wa.heap.size wa).drew) (by omega))
            go_wp2_with fail
            refine (qiget_empty w1.heap.size w1.heap.size S _ hq).mono ?_
            rintro e w2 ⟨rfl, rfl⟩
            go_wp2_with fail
            go_meet
            exact ⟨A6, c6, [], rfl, HX.out⟩
          | cons x r =>
            obtain ⟨b7, o7, rfl, _, hc7⟩ := hR6.base_ (k := 0) (by decide) (by simp)
            have HIN := Lib.hid (And.intro hlk (And.intro hlc hin))
            have HWA := Lib.hid (And.intro hq (And.intro hR6 (And.intro hna hbw)))
            clear hc7 hlk hin hR6 hna hbw
            go_wp2_with fail
            refine (qiget_any w1.heap.size w1.heap.size S x r _ hq hl80).mono ?_
            rintro e w2 ⟨rfl, hn2⟩
            obtain ⟨S2, hq2, hR2, hna2, hb2⟩ := play_q HWA.out.1 HWA.out.2.1 HWA.out.2.2.1 HWA.out.2.2.2 hn2
            have hcell : w2.cell? ⟨b7, o7, none⟩ = some (.int .i64 x) := by
              obtain ⟨b', o', e', _, hc⟩ := hR2.base_ (k := 0) (by decide) (by simp)
              injection e' with e'
              injection e' with e1 e2 _
              subst e1 e2
              have := hc 0 (.int .i64 x) (by simp [i64s])
              simpa using this
            have hxx : (x != x) = false := by simp
            have hcut := hR2.cut (k := 1) (cap := c6) (by simp) hlc
            have hcl : 1 ≤ c6 := by simp at hlc; omega
            have hrl : (x :: r).length - 1 = r.length := by simp
            rw [Nat.mul_one, hrl, show (i64s (x :: r)).drop 1 = i64s r by simp [i64s]] at hcut
            have HC := Lib.hid (And.intro hcut (And.intro hq2 (And.intro hna2 hb2)))
            have hc61 : (1 : Int) ≤ (c6 : Int) := by omega
            have hlc2 : ((r.length : Int) + 1) ≤ (c6 : Int) := by simp at hlc; omega
            clear hcut hR2 hq2 hna2 hb2 hq hn2 hrl
            have hp1 : (0 : Int) < (r.length : Int) + 1 := by omega
            have hfin : ∀ A', Reads w2 w2.heap.size 1 A' r.length (i64s r) → (∀ ad, A' = some ad → ad.block = b7) → FPlay w1 w2 A' (c6 - 1) r (k + 1) := fun A' h1 h2 => ⟨S2, HC.out.2.1, h1, fun ad e hp => by
              have := HC.out.2.2.1 ⟨b7, o7, none⟩ rfl (by simp)
              rw [h2 ad e]
              exact this, HC.out.2.2.2, by have := HIN.out.1; simp at this; omega, by have := HIN.out.2.1; simp at this; omega, fun y hy => HIN.out.2.2 y (by simp [hy])⟩
            have HFN := Lib.hid hfin
            clear hfin
            by_cases hc1 : c6 = 1
            · have hq9 := HC.out.1
              rw [if_pos hc1] at hq9
              have HF1 := Lib.hid (HFN.out _ hq9 (fun ad e => by injection e with e; rw [← e]))
              clear hq9
              go_wp2_with fail
              go_meet
              exact ⟨_, _, r, by first | rfl | simp [hc1], HF1.out⟩
            · have hq9 := HC.out.1
              rw [if_neg hc1] at hq9
              have HF1 := Lib.hid (HFN.out _ hq9 (fun ad e => by
                simp only [Option.map_some, Option.some.injEq] at e
                rw [← e]
                exact block_of_add _ _))
              clear hq9
              go_wp2_with fail
              go_meet
              exact ⟨_, _, r, by first | rfl | simp [hc1], HF1.out⟩
        · by_cases ha3 : a0 = 3
          · subst ha3
            have HIN := Lib.hid (And.intro hlk (And.intro hlc hin))
            have HWA := Lib.hid (And.intro hq (And.intro hR6 (And.intro hna hbw)))
            clear hlk hin hna
            go_wp2_with fail
            refine (refdrop_any L A6 c6 L.length a1 _ hR6 hlc hl80).mono ?_
            rintro e w2 (⟨hi, rfl, rfl⟩ | ⟨kk, v, hi, hkk, rfl, hm⟩)
            · have HX := Lib.hid (fun w' (h : Below wa.heap.size wa w') => HP9.out.1.up (k' := k + 1) h (by omega))
              have HD := Lib.hid (qidrop_miss w1.heap.size w1.heap.size S L a1 wa hq hl80 hi)
              clear hi hq hR6 hbw
              go_wp2_with fail
              refine HD.out.mono ?_
              rintro e w3 ⟨rfl, hb3⟩
              have HX3 := Lib.hid (HX.out w3 hb3)
              clear hb3
              go_wp2_with fail
              go_meet
              exact ⟨A6, c6, L, rfl, HX3.out⟩
            · obtain ⟨D, hD⟩ : ∃ D, D = L.take kk ++ L.drop (kk + 1) := ⟨_, rfl⟩
              rw [← hD] at hm
              have HDD := Lib.hid hD
              clear hD
              obtain ⟨A8, c8, rfl, hc8, _, r8⟩ := hm.form
              have d1w := (Below.cell hm.below (p := ⟨wr.heap.size, 1, none⟩) HP9.out.2.lt).trans d1
              have hb2 := sub_trans hbw hm.below
              have hnb : ∀ ad, A8 = some ad → 0 < D.length → ¬ S ad.block := by
                intro ad e hp hs
                have h1 := (hm.own.lt ad.block (by rw [e]; rfl)).1
                have h2 := hq.lt _ hs
                omega
              have HD := Lib.hid (qidrop_hit w1.heap.size w1.heap.size S L a1 kk w2 (hq.up hm.below) hb2.size hl80 hi hkk)
              have HQ := Lib.hid (And.intro (hq.up hm.below) (And.intro r8 (And.intro hnb (And.intro hb2 (And.intro hkk hc8)))))
              clear hi hq hR6 hbw hm hb2 hnb hkk hc8 r8
              go_wp2_with fail
              refine HD.out.mono ?_
              rintro e w3 ⟨rfl, hn3⟩
              have hp3 := play_q HQ.out.1 HQ.out.2.1 HQ.out.2.2.1 HQ.out.2.2.2.1 hn3
              rw [← HDD.out] at hp3
              have hfin : FPlay w1 w3 A8 c8 D (k + 1) := by
                obtain ⟨S3, q1, q2, q3, q4⟩ := hp3
                refine ⟨S3, q1, q2, q3, q4, ?_, HQ.out.2.2.2.2.2, fun y hy => HIN.out.2.2 y ?_⟩
                · have := HIN.out.1
                  have := HQ.out.2.2.2.2.1
                  rw [HDD.out]
                  simp
                  omega
                · rw [HDD.out] at hy
                  rcases List.mem_append.1 hy with h | h
                  · exact List.mem_of_mem_take h
                  · exact List.mem_of_mem_drop h
              have HFIN := Lib.hid hfin
              clear hfin hp3 hn3
              go_wp2_with fail
              go_meet
              exact ⟨A8, c8, D, rfl, HFIN.out⟩
          · have HIN := Lib.hid (And.intro hlk (And.intro hlc hin))
            have HWA := Lib.hid (And.intro hq (And.intro hR6 (And.intro hna hbw)))
            have ha2b : (a0 == 2) = false := by simpa using ha2
            have ha3b : (a0 == 3) = false := by simpa using ha3
            have HA := Lib.hid (And.intro ha2 ha3)
            clear hlk hin hna ha2 ha3
            go_wp2_with fail
            refine (qiput_any w1.heap.size w1.heap.size S L a1 _ hq hbw.size hl80).mono ?_
            rintro e w2 ⟨rfl, hn2⟩
            have hns : ¬ S wr.heap.size := QHas.ne_ hq HP9.out.2 (by decide) (by decide)
            have hkeep : w2.cell? ⟨wr.heap.size, 1, none⟩ = some (.int .i64 a1) := by
              obtain ⟨_, _, hk9, _⟩ := hn2
              have := (hk9.blk HP9.out.2 hns).cell 1
              simpa using this
            have hltw : wr.heap.size < w2.heap.size := by
              obtain ⟨_, _, hk9, _⟩ := hn2
              exact Nat.lt_of_lt_of_le HP9.out.2.lt hk9.size
            have hp2 := play_q HWA.out.1 HWA.out.2.1 HWA.out.2.2.1 HWA.out.2.2.2 hn2
            have HP2 := Lib.hid hp2
            clear hp2 hn2 hq hR6 hbw hns
            obtain ⟨S2, hq2, hR2, hna2, hb2⟩ := HP2.out
            obtain ⟨i, hi, hz, hsz, hby⟩ := info_parts elemIntQ.info
            have hl81 : L.length ≤ 80 := by have := HIN.out.1; omega
            have HQ2 := Lib.hid (And.intro hq2 (And.intro hR2 (And.intro hna2 hb2)))
            clear hq2 hna2 hb2 HP2
            have hE1 : Blk (w2.alloc (.cells #[] 3)) w2.heap.size 3 #[] := Blk.new_at _ _ _ rfl
            have hB1 : Below w2.heap.size w2 (w2.alloc (.cells #[] 3)) := sub_alloc (Below.refl _ _) _
            have hE2 : Blk ((w2.alloc (.cells #[] 3)).alloc (.cells #[.int .i64 a1] 3)) w2.heap.size 3 #[] := (Blk.new_at _ _ _ rfl).alloc _
            have hB2 : Below w2.heap.size w2 ((w2.alloc (.cells #[] 3)).alloc (.cells #[.int .i64 a1] 3)) := sub_alloc (sub_alloc (Below.refl _ _) _) _
            have hE3 : Blk ((w2.alloc (.cells #[.int .i64 a1] 3)).alloc (.cells #[] 3)) (w2.heap.size + 1) 3 #[] := Blk.new_at _ _ _ (by simp)
            have hB3 : Below w2.heap.size w2 ((w2.alloc (.cells #[.int .i64 a1] 3)).alloc (.cells #[] 3)) := sub_alloc (sub_alloc (Below.refl _ _) _) _
            have hN2 : Blk ((w2.alloc (.cells #[] 3)).alloc (.cells #[.int .i64 a1] 3)) (w2.heap.size + 1) 3 #[.int .i64 a1] := Blk.new_at _ _ _ (by simp)
            have hN3 : Blk ((w2.alloc (.cells #[.int .i64 a1] 3)).alloc (.cells #[] 3)) w2.heap.size 3 #[.int .i64 a1] := (Blk.new_at _ _ _ rfl).alloc _
            have hk1 := (Below.cell hB1 (p := ⟨wr.heap.size, 1, none⟩) hltw).trans hkeep
            have h1s := i64s_one L
            go_wp2_with fail
            refine ord_start (by kernel_rfl) ?_
            simp only [List.length_cons, List.length_nil, Nat.reduceAdd, List.size_toArray]
            refine ord_pure 1 (v := ?_) rfl (by kernel_rfl) (by intro _ _ _ h; exact h) (by rfl) (fun W => ?_) ?_
            rotate_left
            · first | (go_simp; done) | (go_simp; with_reducible rfl)
            try simp only [Act.put, List.setIfInBounds_toArray, List.set_cons_zero, List.set_cons_succ]
            refine ord_pure 3 (v := ?_) rfl (by kernel_rfl) (by intro _ _ _ h; exact h) (by rfl) (fun W => ?_) ?_
            rotate_left
            · first | (go_simp; done) | (go_simp; with_reducible rfl)
            try simp only [Act.put, List.setIfInBounds_toArray, List.set_cons_zero, List.set_cons_succ]
            refine ord_ready (rs := [0, 4]) (by kernel_rfl) (by simp) ?_
            refine ord_next rfl (by rfl) (fun K hK => ?_) ?_
            · skip
              go_simp
              refine hK _ _ ?_
              clear hK
              try simp only [Act.put, List.setIfInBounds_toArray, List.set_cons_zero, List.set_cons_succ]
              refine ord_ready (rs := [2, 4]) (by kernel_rfl) (by simp) ?_
              refine ord_next rfl (by rfl) (fun K hK => ?_) ?_
              · skip
                try simp only [drew_alloc]
                first | (refine wp_append_any (w2.alloc (.cells #[] 3)).drew (.tmp 32) (.tmp 33) 24 rfl w2.heap.size 3 i (.int .i64 0) 1 8 elemIntQ.under hi hz hsz hby rfl (by decide) (.slice (some ⟨w2.heap.size, 0, none⟩) 0 0) 0 [] (by rfl) (ownEmpty hE1 (by omega)) w2.heap.size A6 L.length c6 (i64s L) (by rfl) (hR2.below hB1.drew) h1s (by unfold maxLen; omega) (by omega) hB1.size ?_; intro v' w' hm' hg' _; have hb' : Below w2.heap.size w2 w' := hB1.drew.grown hg' hB1.size (by intro g9 e9; simp [Value.ownBlock] at e9; omega)) | (refine wp_append_any ((w2.alloc (.cells #[.int .i64 a1] 3)).alloc (.cells #[] 3)).drew (.tmp 32) (.tmp 33) 24 rfl w2.heap.size 3 i (.int .i64 0) 1 8 elemIntQ.under hi hz hsz hby rfl (by decide) (.slice (some ⟨(w2.heap.size + 1), 0, none⟩) 0 0) 0 [] (by rfl) (ownEmpty hE3 (by omega)) w2.heap.size A6 L.length c6 (i64s L) (by rfl) (hR2.below hB3.drew) h1s (by unfold maxLen; omega) (by omega) hB3.size ?_; intro v' w' hm' hg' _; have hb' : Below w2.heap.size w2 w' := hB3.drew.grown hg' hB3.size (by intro g9 e9; simp [Value.ownBlock] at e9; omega); have hn' := hN3.drew.grown hg' (by simp only [Value.ownBlock]; intro e9; injection e9 with e9; omega)) | (refine wp_append_any ((w2.alloc (.cells #[] 3)).alloc (.cells #[.int .i64 a1] 3)).drew (.tmp 32) (.tmp 33) 24 rfl w2.heap.size 3 i (.int .i64 0) 1 8 elemIntQ.under hi hz hsz hby rfl (by decide) (.slice (some ⟨w2.heap.size, 0, none⟩) 0 0) 0 [] (by rfl) (ownEmpty hE2 (by omega)) w2.heap.size A6 L.length c6 (i64s L) (by rfl) (hR2.below hB2.drew) h1s (by unfold maxLen; omega) (by omega) hB2.size ?_; intro v' w' hm' hg' _; have hb' : Below w2.heap.size w2 w' := hB2.drew.grown hg' hB2.size (by intro g9 e9; simp [Value.ownBlock] at e9; omega); have hn' := hN2.drew.grown hg' (by simp only [Value.ownBlock]; intro e9; injection e9 with e9; omega))
                simp only [Nat.zero_add, List.nil_append] at hm'
                obtain ⟨A3, k3, rfl, _, _⟩ := own_form hm'
                have hk' := (Below.cell hb' (p := ⟨wr.heap.size, 1, none⟩) hltw).trans hkeep
                have hlow := hb'.size
                refine hK _ _ ?_
                clear hK
                try simp only [Act.put, List.setIfInBounds_toArray, List.set_cons_zero, List.set_cons_succ]
                refine ord_ready (rs := [4]) (by kernel_rfl) (by simp) ?_
                refine ord_next rfl (by rfl) (fun K hK => ?_) ?_
                rotate_left
                · exact AllReady.nil
                go_simp
                refine hK _ _ ?_
                clear hK
                try simp only [Act.put, List.setIfInBounds_toArray, List.set_cons_zero, List.set_cons_succ]
                refine ord_ready (rs := [5]) (by kernel_rfl) (by simp) ?_
                refine ord_next rfl (by rfl) (fun K hK => ?_) ?_
                rotate_left
                · exact AllReady.nil
                go_simp
                refine hK _ _ ?_
                clear hK
                try simp only [Act.put, List.setIfInBounds_toArray, List.set_cons_zero, List.set_cons_succ]
                refine ord_ready (rs := [6]) (by kernel_rfl) (by simp) ?_
                refine ord_next rfl (by rfl) (fun K hK => ?_) ?_
                rotate_left
                · exact AllReady.nil
                try simp only [drew_alloc]
                first | (refine wp_append_any w' (.tmp 34) (.tmp 37) 24 rfl w2.heap.size 3 i (.int .i64 0) 1 8 elemIntQ.under hi hz hsz hby rfl (by decide) (.slice A3 L.length k3) L.length (i64s L) (by rfl) hm' w'.heap.size _ 1 1 [.int .i64 a1] (by rfl) (Reads.of_own (own_of_blk (s := 1) (n := 1) hn' (Nat.zero_le _) rfl (by simp [maxLen]))) (by simp [Value.oneCell']) (by unfold maxLen; omega) (by omega) hlow ?_; intro v4 w4 hm4 hg4 _; have hb4 : Below w2.heap.size w2 w4 := hb'.grown hg4 hlow (fun g9 e9 => (hm'.lt g9 e9).1)) | (refine wp_append_oneG (w := w') (n := L.length) (xs := i64s L) (B := w2.heap.size) elemIntQ (by decide) (.tmp 34) (.tmp 37) rfl (by rfl) hm' hlow (by rfl) (by rfl) rfl (by simp [Value.oneCell']) (by omega) (by unfold maxLen; omega) ?_; intro v4 w4 hm4 hg4; have hb4 : Below w2.heap.size w2 w4 := hb'.grown hg4 hlow (fun g9 e9 => (hm'.lt g9 e9).1))
                obtain ⟨A4, k4, rfl, hk4, _⟩ := own_form hm4
                refine hK _ _ ?_
                clear hK
                try simp only [Act.put, List.setIfInBounds_toArray, List.set_cons_zero, List.set_cons_succ]
                refine ord_pure 7 (v := ?_) rfl (by kernel_rfl) (by intro _ _ _ h; exact h) (by rfl) (fun W => ?_) ?_
                rotate_left
                · first | (go_simp; done) | (go_simp; with_reducible rfl)
                try simp only [Act.put, List.setIfInBounds_toArray, List.set_cons_zero, List.set_cons_succ]
                refine ord_done (by kernel_rfl) ?_
                have hfin : FPlay w1 w4 A4 k4 (L ++ [a1]) (k + 1) := ⟨S2, HQ2.out.1.up hb4, by have := Reads.of_own hm4; simpa [i64s] using this, fun ad e _ hs => by have h1 := (hm4.lt ad.block (by rw [e]; rfl)).1; have h2 := QHas.lt HQ2.out.1 _ hs; omega, sub_trans HQ2.out.2.2.2 hb4, by have := HIN.out.1; simp; omega, by simpa using hk4, fun y hy => by rcases List.mem_append.1 hy with h | h; exact HIN.out.2.2 y h; rw [List.mem_singleton.1 h]; exact HI.out.2⟩
                have HFIN := Lib.hid hfin
                clear hfin
                go_wp2_with fail
                go_meet
                exact ⟨A4, k4, L ++ [a1], by simp, HFIN.out⟩
              refine ord_next rfl (by rfl) (fun K hK => ?_) ?_
              · skip
                go_simp
                refine hK _ _ ?_
                clear hK
                try simp only [Act.put, List.setIfInBounds_toArray, List.set_cons_zero, List.set_cons_succ]
                refine ord_ready (rs := [2, 5]) (by kernel_rfl) (by simp) ?_
                refine ord_next rfl (by rfl) (fun K hK => ?_) ?_
                · skip
                  try simp only [drew_alloc]
                  first | (refine wp_append_any (w2.alloc (.cells #[] 3)).drew (.tmp 32) (.tmp 33) 24 rfl w2.heap.size 3 i (.int .i64 0) 1 8 elemIntQ.under hi hz hsz hby rfl (by decide) (.slice (some ⟨w2.heap.size, 0, none⟩) 0 0) 0 [] (by rfl) (ownEmpty hE1 (by omega)) w2.heap.size A6 L.length c6 (i64s L) (by rfl) (hR2.below hB1.drew) h1s (by unfold maxLen; omega) (by omega) hB1.size ?_; intro v' w' hm' hg' _; have hb' : Below w2.heap.size w2 w' := hB1.drew.grown hg' hB1.size (by intro g9 e9; simp [Value.ownBlock] at e9; omega)) | (refine wp_append_any ((w2.alloc (.cells #[.int .i64 a1] 3)).alloc (.cells #[] 3)).drew (.tmp 32) (.tmp 33) 24 rfl w2.heap.size 3 i (.int .i64 0) 1 8 elemIntQ.under hi hz hsz hby rfl (by decide) (.slice (some ⟨(w2.heap.size + 1), 0, none⟩) 0 0) 0 [] (by rfl) (ownEmpty hE3 (by omega)) w2.heap.size A6 L.length c6 (i64s L) (by rfl) (hR2.below hB3.drew) h1s (by unfold maxLen; omega) (by omega) hB3.size ?_; intro v' w' hm' hg' _; have hb' : Below w2.heap.size w2 w' := hB3.drew.grown hg' hB3.size (by intro g9 e9; simp [Value.ownBlock] at e9; omega); have hn' := hN3.drew.grown hg' (by simp only [Value.ownBlock]; intro e9; injection e9 with e9; omega)) | (refine wp_append_any ((w2.alloc (.cells #[] 3)).alloc (.cells #[.int .i64 a1] 3)).drew (.tmp 32) (.tmp 33) 24 rfl w2.heap.size 3 i (.int .i64 0) 1 8 elemIntQ.under hi hz hsz hby rfl (by decide) (.slice (some ⟨w2.heap.size, 0, none⟩) 0 0) 0 [] (by rfl) (ownEmpty hE2 (by omega)) w2.heap.size A6 L.length c6 (i64s L) (by rfl) (hR2.below hB2.drew) h1s (by unfold maxLen; omega) (by omega) hB2.size ?_; intro v' w' hm' hg' _; have hb' : Below w2.heap.size w2 w' := hB2.drew.grown hg' hB2.size (by intro g9 e9; simp [Value.ownBlock] at e9; omega); have hn' := hN2.drew.grown hg' (by simp only [Value.ownBlock]; intro e9; injection e9 with e9; omega))
                  simp only [Nat.zero_add, List.nil_append] at hm'
                  obtain ⟨A3, k3, rfl, _, _⟩ := own_form hm'
                  have hk' := (Below.cell hb' (p := ⟨wr.heap.size, 1, none⟩) hltw).trans hkeep
                  have hlow := hb'.size
                  refine hK _ _ ?_
                  clear hK
                  try simp only [Act.put, List.setIfInBounds_toArray, List.set_cons_zero, List.set_cons_succ]
                  refine ord_ready (rs := [5]) (by kernel_rfl) (by simp) ?_
                  refine ord_next rfl (by rfl) (fun K hK => ?_) ?_
                  rotate_left
                  · exact AllReady.nil
                  go_simp
                  refine hK _ _ ?_
                  clear hK
                  try simp only [Act.put, List.setIfInBounds_toArray, List.set_cons_zero, List.set_cons_succ]
                  refine ord_ready (rs := [6]) (by kernel_rfl) (by simp) ?_
                  refine ord_next rfl (by rfl) (fun K hK => ?_) ?_
                  rotate_left
                  · exact AllReady.nil
                  try simp only [drew_alloc]
                  first | (refine wp_append_any w' (.tmp 34) (.tmp 37) 24 rfl w2.heap.size 3 i (.int .i64 0) 1 8 elemIntQ.under hi hz hsz hby rfl (by decide) (.slice A3 L.length k3) L.length (i64s L) (by rfl) hm' w'.heap.size _ 1 1 [.int .i64 a1] (by rfl) (Reads.of_own (own_of_blk (s := 1) (n := 1) hn' (Nat.zero_le _) rfl (by simp [maxLen]))) (by simp [Value.oneCell']) (by unfold maxLen; omega) (by omega) hlow ?_; intro v4 w4 hm4 hg4 _; have hb4 : Below w2.heap.size w2 w4 := hb'.grown hg4 hlow (fun g9 e9 => (hm'.lt g9 e9).1)) | (refine wp_append_oneG (w := w') (n := L.length) (xs := i64s L) (B := w2.heap.size) elemIntQ (by decide) (.tmp 34) (.tmp 37) rfl (by rfl) hm' hlow (by rfl) (by rfl) rfl (by simp [Value.oneCell']) (by omega) (by unfold maxLen; omega) ?_; intro v4 w4 hm4 hg4; have hb4 : Below w2.heap.size w2 w4 := hb'.grown hg4 hlow (fun g9 e9 => (hm'.lt g9 e9).1))
                  obtain ⟨A4, k4, rfl, hk4, _⟩ := own_form hm4
                  refine hK _ _ ?_
                  clear hK
                  try simp only [Act.put, List.setIfInBounds_toArray, List.set_cons_zero, List.set_cons_succ]
                  refine ord_pure 7 (v := ?_) rfl (by kernel_rfl) (by intro _ _ _ h; exact h) (by rfl) (fun W => ?_) ?_
                  rotate_left
                  · first | (go_simp; done) | (go_simp; with_reducible rfl)
                  try simp only [Act.put, List.setIfInBounds_toArray, List.set_cons_zero, List.set_cons_succ]
                  refine ord_done (by kernel_rfl) ?_
                  have hfin : FPlay w1 w4 A4 k4 (L ++ [a1]) (k + 1) := ⟨S2, HQ2.out.1.up hb4, by have := Reads.of_own hm4; simpa [i64s] using this, fun ad e _ hs => by have h1 := (hm4.lt ad.block (by rw [e]; rfl)).1; have h2 := QHas.lt HQ2.out.1 _ hs; omega, sub_trans HQ2.out.2.2.2 hb4, by have := HIN.out.1; simp; omega, by simpa using hk4, fun y hy => by rcases List.mem_append.1 hy with h | h; exact HIN.out.2.2 y h; rw [List.mem_singleton.1 h]; exact HI.out.2⟩
                  have HFIN := Lib.hid hfin
                  clear hfin
                  go_wp2_with fail
                  go_meet
                  exact ⟨A4, k4, L ++ [a1], by simp, HFIN.out⟩
                refine ord_next rfl (by rfl) (fun K hK => ?_) ?_
                · skip
                  go_simp
                  refine hK _ _ ?_
                  clear hK
                  try simp only [Act.put, List.setIfInBounds_toArray, List.set_cons_zero, List.set_cons_succ]
                  refine ord_ready (rs := [2]) (by kernel_rfl) (by simp) ?_
                  refine ord_next rfl (by rfl) (fun K hK => ?_) ?_
                  rotate_left
                  · exact AllReady.nil
                  try simp only [drew_alloc]
                  first | (refine wp_append_any (w2.alloc (.cells #[] 3)).drew (.tmp 32) (.tmp 33) 24 rfl w2.heap.size 3 i (.int .i64 0) 1 8 elemIntQ.under hi hz hsz hby rfl (by decide) (.slice (some ⟨w2.heap.size, 0, none⟩) 0 0) 0 [] (by rfl) (ownEmpty hE1 (by omega)) w2.heap.size A6 L.length c6 (i64s L) (by rfl) (hR2.below hB1.drew) h1s (by unfold maxLen; omega) (by omega) hB1.size ?_; intro v' w' hm' hg' _; have hb' : Below w2.heap.size w2 w' := hB1.drew.grown hg' hB1.size (by intro g9 e9; simp [Value.ownBlock] at e9; omega)) | (refine wp_append_any ((w2.alloc (.cells #[.int .i64 a1] 3)).alloc (.cells #[] 3)).drew (.tmp 32) (.tmp 33) 24 rfl w2.heap.size 3 i (.int .i64 0) 1 8 elemIntQ.under hi hz hsz hby rfl (by decide) (.slice (some ⟨(w2.heap.size + 1), 0, none⟩) 0 0) 0 [] (by rfl) (ownEmpty hE3 (by omega)) w2.heap.size A6 L.length c6 (i64s L) (by rfl) (hR2.below hB3.drew) h1s (by unfold maxLen; omega) (by omega) hB3.size ?_; intro v' w' hm' hg' _; have hb' : Below w2.heap.size w2 w' := hB3.drew.grown hg' hB3.size (by intro g9 e9; simp [Value.ownBlock] at e9; omega); have hn' := hN3.drew.grown hg' (by simp only [Value.ownBlock]; intro e9; injection e9 with e9; omega)) | (refine wp_append_any ((w2.alloc (.cells #[] 3)).alloc (.cells #[.int .i64 a1] 3)).drew (.tmp 32) (.tmp 33) 24 rfl w2.heap.size 3 i (.int .i64 0) 1 8 elemIntQ.under hi hz hsz hby rfl (by decide) (.slice (some ⟨w2.heap.size, 0, none⟩) 0 0) 0 [] (by rfl) (ownEmpty hE2 (by omega)) w2.heap.size A6 L.length c6 (i64s L) (by rfl) (hR2.below hB2.drew) h1s (by unfold maxLen; omega) (by omega) hB2.size ?_; intro v' w' hm' hg' _; have hb' : Below w2.heap.size w2 w' := hB2.drew.grown hg' hB2.size (by intro g9 e9; simp [Value.ownBlock] at e9; omega); have hn' := hN2.drew.grown hg' (by simp only [Value.ownBlock]; intro e9; injection e9 with e9; omega))
                  simp only [Nat.zero_add, List.nil_append] at hm'
                  obtain ⟨A3, k3, rfl, _, _⟩ := own_form hm'
                  have hk' := (Below.cell hb' (p := ⟨wr.heap.size, 1, none⟩) hltw).trans hkeep
                  have hlow := hb'.size
                  refine hK _ _ ?_
                  clear hK
                  try simp only [Act.put, List.setIfInBounds_toArray, List.set_cons_zero, List.set_cons_succ]
                  refine ord_ready (rs := [6]) (by kernel_rfl) (by simp) ?_
                  refine ord_next rfl (by rfl) (fun K hK => ?_) ?_
                  rotate_left
                  · exact AllReady.nil
                  try simp only [drew_alloc]
                  first | (refine wp_append_any w' (.tmp 34) (.tmp 37) 24 rfl w2.heap.size 3 i (.int .i64 0) 1 8 elemIntQ.under hi hz hsz hby rfl (by decide) (.slice A3 L.length k3) L.length (i64s L) (by rfl) hm' w'.heap.size _ 1 1 [.int .i64 a1] (by rfl) (Reads.of_own (own_of_blk (s := 1) (n := 1) hn' (Nat.zero_le _) rfl (by simp [maxLen]))) (by simp [Value.oneCell']) (by unfold maxLen; omega) (by omega) hlow ?_; intro v4 w4 hm4 hg4 _; have hb4 : Below w2.heap.size w2 w4 := hb'.grown hg4 hlow (fun g9 e9 => (hm'.lt g9 e9).1)) | (refine wp_append_oneG (w := w') (n := L.length) (xs := i64s L) (B := w2.heap.size) elemIntQ (by decide) (.tmp 34) (.tmp 37) rfl (by rfl) hm' hlow (by rfl) (by rfl) rfl (by simp [Value.oneCell']) (by omega) (by unfold maxLen; omega) ?_; intro v4 w4 hm4 hg4; have hb4 : Below w2.heap.size w2 w4 := hb'.grown hg4 hlow (fun g9 e9 => (hm'.lt g9 e9).1))
                  obtain ⟨A4, k4, rfl, hk4, _⟩ := own_form hm4
                  refine hK _ _ ?_
                  clear hK
                  try simp only [Act.put, List.setIfInBounds_toArray, List.set_cons_zero, List.set_cons_succ]
                  refine ord_pure 7 (v := ?_) rfl (by kernel_rfl) (by intro _ _ _ h; exact h) (by rfl) (fun W => ?_) ?_
                  rotate_left
                  · first | (go_simp; done) | (go_simp; with_reducible rfl)
                  try simp only [Act.put, List.setIfInBounds_toArray, List.set_cons_zero, List.set_cons_succ]
                  refine ord_done (by kernel_rfl) ?_
                  have hfin : FPlay w1 w4 A4 k4 (L ++ [a1]) (k + 1) := ⟨S2, HQ2.out.1.up hb4, by have := Reads.of_own hm4; simpa [i64s] using this, fun ad e _ hs => by have h1 := (hm4.lt ad.block (by rw [e]; rfl)).1; have h2 := QHas.lt HQ2.out.1 _ hs; omega, sub_trans HQ2.out.2.2.2 hb4, by have := HIN.out.1; simp; omega, by simpa using hk4, fun y hy => by rcases List.mem_append.1 hy with h | h; exact HIN.out.2.2 y h; rw [List.mem_singleton.1 h]; exact HI.out.2⟩
                  have HFIN := Lib.hid hfin
                  clear hfin
                  go_wp2_with fail
                  go_meet
                  exact ⟨A4, k4, L ++ [a1], by simp, HFIN.out⟩
                exact AllReady.nil
              exact AllReady.nil
            refine ord_next rfl (by rfl) (fun K hK => ?_) ?_
            · skip
              go_simp
              refine hK _ _ ?_
              clear hK
              try simp only [Act.put, List.setIfInBounds_toArray, List.set_cons_zero, List.set_cons_succ]
              refine ord_ready (rs := [0, 5]) (by kernel_rfl) (by simp) ?_
              refine ord_next rfl (by rfl) (fun K hK => ?_) ?_
              · skip
                go_simp
                refine hK _ _ ?_
                clear hK
                try simp only [Act.put, List.setIfInBounds_toArray, List.set_cons_zero, List.set_cons_succ]
                refine ord_ready (rs := [2, 5]) (by kernel_rfl) (by simp) ?_
                refine ord_next rfl (by rfl) (fun K hK => ?_) ?_
                · skip
                  try simp only [drew_alloc]
                  first | (refine wp_append_any (w2.alloc (.cells #[] 3)).drew (.tmp 32) (.tmp 33) 24 rfl w2.heap.size 3 i (.int .i64 0) 1 8 elemIntQ.under hi hz hsz hby rfl (by decide) (.slice (some ⟨w2.heap.size, 0, none⟩) 0 0) 0 [] (by rfl) (ownEmpty hE1 (by omega)) w2.heap.size A6 L.length c6 (i64s L) (by rfl) (hR2.below hB1.drew) h1s (by unfold maxLen; omega) (by omega) hB1.size ?_; intro v' w' hm' hg' _; have hb' : Below w2.heap.size w2 w' := hB1.drew.grown hg' hB1.size (by intro g9 e9; simp [Value.ownBlock] at e9; omega)) | (refine wp_append_any ((w2.alloc (.cells #[.int .i64 a1] 3)).alloc (.cells #[] 3)).drew (.tmp 32) (.tmp 33) 24 rfl w2.heap.size 3 i (.int .i64 0) 1 8 elemIntQ.under hi hz hsz hby rfl (by decide) (.slice (some ⟨(w2.heap.size + 1), 0, none⟩) 0 0) 0 [] (by rfl) (ownEmpty hE3 (by omega)) w2.heap.size A6 L.length c6 (i64s L) (by rfl) (hR2.below hB3.drew) h1s (by unfold maxLen; omega) (by omega) hB3.size ?_; intro v' w' hm' hg' _; have hb' : Below w2.heap.size w2 w' := hB3.drew.grown hg' hB3.size (by intro g9 e9; simp [Value.ownBlock] at e9; omega); have hn' := hN3.drew.grown hg' (by simp only [Value.ownBlock]; intro e9; injection e9 with e9; omega)) | (refine wp_append_any ((w2.alloc (.cells #[] 3)).alloc (.cells #[.int .i64 a1] 3)).drew (.tmp 32) (.tmp 33) 24 rfl w2.heap.size 3 i (.int .i64 0) 1 8 elemIntQ.under hi hz hsz hby rfl (by decide) (.slice (some ⟨w2.heap.size, 0, none⟩) 0 0) 0 [] (by rfl) (ownEmpty hE2 (by omega)) w2.heap.size A6 L.length c6 (i64s L) (by rfl) (hR2.below hB2.drew) h1s (by unfold maxLen; omega) (by omega) hB2.size ?_; intro v' w' hm' hg' _; have hb' : Below w2.heap.size w2 w' := hB2.drew.grown hg' hB2.size (by intro g9 e9; simp [Value.ownBlock] at e9; omega); have hn' := hN2.drew.grown hg' (by simp only [Value.ownBlock]; intro e9; injection e9 with e9; omega))
                  simp only [Nat.zero_add, List.nil_append] at hm'
                  obtain ⟨A3, k3, rfl, _, _⟩ := own_form hm'
                  have hk' := (Below.cell hb' (p := ⟨wr.heap.size, 1, none⟩) hltw).trans hkeep
                  have hlow := hb'.size
                  refine hK _ _ ?_
                  clear hK
                  try simp only [Act.put, List.setIfInBounds_toArray, List.set_cons_zero, List.set_cons_succ]
                  refine ord_ready (rs := [5]) (by kernel_rfl) (by simp) ?_
                  refine ord_next rfl (by rfl) (fun K hK => ?_) ?_
                  rotate_left
                  · exact AllReady.nil
                  go_simp
                  refine hK _ _ ?_
                  clear hK
                  try simp only [Act.put, List.setIfInBounds_toArray, List.set_cons_zero, List.set_cons_succ]
                  refine ord_ready (rs := [6]) (by kernel_rfl) (by simp) ?_
                  refine ord_next rfl (by rfl) (fun K hK => ?_) ?_
                  rotate_left
                  · exact AllReady.nil
                  try simp only [drew_alloc]
                  first | (refine wp_append_any w' (.tmp 34) (.tmp 37) 24 rfl w2.heap.size 3 i (.int .i64 0) 1 8 elemIntQ.under hi hz hsz hby rfl (by decide) (.slice A3 L.length k3) L.length (i64s L) (by rfl) hm' w'.heap.size _ 1 1 [.int .i64 a1] (by rfl) (Reads.of_own (own_of_blk (s := 1) (n := 1) hn' (Nat.zero_le _) rfl (by simp [maxLen]))) (by simp [Value.oneCell']) (by unfold maxLen; omega) (by omega) hlow ?_; intro v4 w4 hm4 hg4 _; have hb4 : Below w2.heap.size w2 w4 := hb'.grown hg4 hlow (fun g9 e9 => (hm'.lt g9 e9).1)) | (refine wp_append_oneG (w := w') (n := L.length) (xs := i64s L) (B := w2.heap.size) elemIntQ (by decide) (.tmp 34) (.tmp 37) rfl (by rfl) hm' hlow (by rfl) (by rfl) rfl (by simp [Value.oneCell']) (by omega) (by unfold maxLen; omega) ?_; intro v4 w4 hm4 hg4; have hb4 : Below w2.heap.size w2 w4 := hb'.grown hg4 hlow (fun g9 e9 => (hm'.lt g9 e9).1))
                  obtain ⟨A4, k4, rfl, hk4, _⟩ := own_form hm4
                  refine hK _ _ ?_
                  clear hK
                  try simp only [Act.put, List.setIfInBounds_toArray, List.set_cons_zero, List.set_cons_succ]
                  refine ord_pure 7 (v := ?_) rfl (by kernel_rfl) (by intro _ _ _ h; exact h) (by rfl) (fun W => ?_) ?_
                  rotate_left
                  · first | (go_simp; done) | (go_simp; with_reducible rfl)
                  try simp only [Act.put, List.setIfInBounds_toArray, List.set_cons_zero, List.set_cons_succ]
                  refine ord_done (by kernel_rfl) ?_
                  have hfin : FPlay w1 w4 A4 k4 (L ++ [a1]) (k + 1) := ⟨S2, HQ2.out.1.up hb4, by have := Reads.of_own hm4; simpa [i64s] using this, fun ad e _ hs => by have h1 := (hm4.lt ad.block (by rw [e]; rfl)).1; have h2 := QHas.lt HQ2.out.1 _ hs; omega, sub_trans HQ2.out.2.2.2 hb4, by have := HIN.out.1; simp; omega, by simpa using hk4, fun y hy => by rcases List.mem_append.1 hy with h | h; exact HIN.out.2.2 y h; rw [List.mem_singleton.1 h]; exact HI.out.2⟩
                  have HFIN := Lib.hid hfin
                  clear hfin
                  go_wp2_with fail
                  go_meet
                  exact ⟨A4, k4, L ++ [a1], by simp, HFIN.out⟩
                refine ord_next rfl (by rfl) (fun K hK => ?_) ?_
                · skip
                  go_simp
                  refine hK _ _ ?_
                  clear hK
                  try simp only [Act.put, List.setIfInBounds_toArray, List.set_cons_zero, List.set_cons_succ]
                  refine ord_ready (rs := [2]) (by kernel_rfl) (by simp) ?_
                  refine ord_next rfl (by rfl) (fun K hK => ?_) ?_
                  rotate_left
                  · exact AllReady.nil
                  try simp only [drew_alloc]
                  first | (refine wp_append_any (w2.alloc (.cells #[] 3)).drew (.tmp 32) (.tmp 33) 24 rfl w2.heap.size 3 i (.int .i64 0) 1 8 elemIntQ.under hi hz hsz hby rfl (by decide) (.slice (some ⟨w2.heap.size, 0, none⟩) 0 0) 0 [] (by rfl) (ownEmpty hE1 (by omega)) w2.heap.size A6 L.length c6 (i64s L) (by rfl) (hR2.below hB1.drew) h1s (by unfold maxLen; omega) (by omega) hB1.size ?_; intro v' w' hm' hg' _; have hb' : Below w2.heap.size w2 w' := hB1.drew.grown hg' hB1.size (by intro g9 e9; simp [Value.ownBlock] at e9; omega)) | (refine wp_append_any ((w2.alloc (.cells #[.int .i64 a1] 3)).alloc (.cells #[] 3)).drew (.tmp 32) (.tmp 33) 24 rfl w2.heap.size 3 i (.int .i64 0) 1 8 elemIntQ.under hi hz hsz hby rfl (by decide) (.slice (some ⟨(w2.heap.size + 1), 0, none⟩) 0 0) 0 [] (by rfl) (ownEmpty hE3 (by omega)) w2.heap.size A6 L.length c6 (i64s L) (by rfl) (hR2.below hB3.drew) h1s (by unfold maxLen; omega) (by omega) hB3.size ?_; intro v' w' hm' hg' _; have hb' : Below w2.heap.size w2 w' := hB3.drew.grown hg' hB3.size (by intro g9 e9; simp [Value.ownBlock] at e9; omega); have hn' := hN3.drew.grown hg' (by simp only [Value.ownBlock]; intro e9; injection e9 with e9; omega)) | (refine wp_append_any ((w2.alloc (.cells #[] 3)).alloc (.cells #[.int .i64 a1] 3)).drew (.tmp 32) (.tmp 33) 24 rfl w2.heap.size 3 i (.int .i64 0) 1 8 elemIntQ.under hi hz hsz hby rfl (by decide) (.slice (some ⟨w2.heap.size, 0, none⟩) 0 0) 0 [] (by rfl) (ownEmpty hE2 (by omega)) w2.heap.size A6 L.length c6 (i64s L) (by rfl) (hR2.below hB2.drew) h1s (by unfold maxLen; omega) (by omega) hB2.size ?_; intro v' w' hm' hg' _; have hb' : Below w2.heap.size w2 w' := hB2.drew.grown hg' hB2.size (by intro g9 e9; simp [Value.ownBlock] at e9; omega); have hn' := hN2.drew.grown hg' (by simp only [Value.ownBlock]; intro e9; injection e9 with e9; omega))
                  simp only [Nat.zero_add, List.nil_append] at hm'
                  obtain ⟨A3, k3, rfl, _, _⟩ := own_form hm'
                  have hk' := (Below.cell hb' (p := ⟨wr.heap.size, 1, none⟩) hltw).trans hkeep
                  have hlow := hb'.size
                  refine hK _ _ ?_
                  clear hK
                  try simp only [Act.put, List.setIfInBounds_toArray, List.set_cons_zero, List.set_cons_succ]
                  refine ord_ready (rs := [6]) (by kernel_rfl) (by simp) ?_
                  refine ord_next rfl (by rfl) (fun K hK => ?_) ?_
                  rotate_left
                  · exact AllReady.nil
                  try simp only [drew_alloc]
                  first | (refine wp_append_any w' (.tmp 34) (.tmp 37) 24 rfl w2.heap.size 3 i (.int .i64 0) 1 8 elemIntQ.under hi hz hsz hby rfl (by decide) (.slice A3 L.length k3) L.length (i64s L) (by rfl) hm' w'.heap.size _ 1 1 [.int .i64 a1] (by rfl) (Reads.of_own (own_of_blk (s := 1) (n := 1) hn' (Nat.zero_le _) rfl (by simp [maxLen]))) (by simp [Value.oneCell']) (by unfold maxLen; omega) (by omega) hlow ?_; intro v4 w4 hm4 hg4 _; have hb4 : Below w2.heap.size w2 w4 := hb'.grown hg4 hlow (fun g9 e9 => (hm'.lt g9 e9).1)) | (refine wp_append_oneG (w := w') (n := L.length) (xs := i64s L) (B := w2.heap.size) elemIntQ (by decide) (.tmp 34) (.tmp 37) rfl (by rfl) hm' hlow (by rfl) (by rfl) rfl (by simp [Value.oneCell']) (by omega) (by unfold maxLen; omega) ?_; intro v4 w4 hm4 hg4; have hb4 : Below w2.heap.size w2 w4 := hb'.grown hg4 hlow (fun g9 e9 => (hm'.lt g9 e9).1))
                  obtain ⟨A4, k4, rfl, hk4, _⟩ := own_form hm4
                  refine hK _ _ ?_
                  clear hK
                  try simp only [Act.put, List.setIfInBounds_toArray, List.set_cons_zero, List.set_cons_succ]
                  refine ord_pure 7 (v := ?_) rfl (by kernel_rfl) (by intro _ _ _ h; exact h) (by rfl) (fun W => ?_) ?_
                  rotate_left
                  · first | (go_simp; done) | (go_simp; with_reducible rfl)
                  try simp only [Act.put, List.setIfInBounds_toArray, List.set_cons_zero, List.set_cons_succ]
                  refine ord_done (by kernel_rfl) ?_
                  have hfin : FPlay w1 w4 A4 k4 (L ++ [a1]) (k + 1) := ⟨S2, HQ2.out.1.up hb4, by have := Reads.of_own hm4; simpa [i64s] using this, fun ad e _ hs => by have h1 := (hm4.lt ad.block (by rw [e]; rfl)).1; have h2 := QHas.lt HQ2.out.1 _ hs; omega, sub_trans HQ2.out.2.2.2 hb4, by have := HIN.out.1; simp; omega, by simpa using hk4, fun y hy => by rcases List.mem_append.1 hy with h | h; exact HIN.out.2.2 y h; rw [List.mem_singleton.1 h]; exact HI.out.2⟩
                  have HFIN := Lib.hid hfin
                  clear hfin
                  go_wp2_with fail
                  go_meet
                  exact ⟨A4, k4, L ++ [a1], by simp, HFIN.out⟩
                exact AllReady.nil
              refine ord_next rfl (by rfl) (fun K hK => ?_) ?_
              · skip
                go_simp
                refine hK _ _ ?_
                clear hK
                try simp only [Act.put, List.setIfInBounds_toArray, List.set_cons_zero, List.set_cons_succ]
                refine ord_ready (rs := [0]) (by kernel_rfl) (by simp) ?_
                refine ord_next rfl (by rfl) (fun K hK => ?_) ?_
                rotate_left
                · exact AllReady.nil
                go_simp
                refine hK _ _ ?_
                clear hK
                try simp only [Act.put, List.setIfInBounds_toArray, List.set_cons_zero, List.set_cons_succ]
                refine ord_ready (rs := [2]) (by kernel_rfl) (by simp) ?_
                refine ord_next rfl (by rfl) (fun K hK => ?_) ?_
                rotate_left
                · exact AllReady.nil
                try simp only [drew_alloc]
                first | (refine wp_append_any (w2.alloc (.cells #[] 3)).drew (.tmp 32) (.tmp 33) 24 rfl w2.heap.size 3 i (.int .i64 0) 1 8 elemIntQ.under hi hz hsz hby rfl (by decide) (.slice (some ⟨w2.heap.size, 0, none⟩) 0 0) 0 [] (by rfl) (ownEmpty hE1 (by omega)) w2.heap.size A6 L.length c6 (i64s L) (by rfl) (hR2.below hB1.drew) h1s (by unfold maxLen; omega) (by omega) hB1.size ?_; intro v' w' hm' hg' _; have hb' : Below w2.heap.size w2 w' := hB1.drew.grown hg' hB1.size (by intro g9 e9; simp [Value.ownBlock] at e9; omega)) | (refine wp_append_any ((w2.alloc (.cells #[.int .i64 a1] 3)).alloc (.cells #[] 3)).drew (.tmp 32) (.tmp 33) 24 rfl w2.heap.size 3 i (.int .i64 0) 1 8 elemIntQ.under hi hz hsz hby rfl (by decide) (.slice (some ⟨(w2.heap.size + 1), 0, none⟩) 0 0) 0 [] (by rfl) (ownEmpty hE3 (by omega)) w2.heap.size A6 L.length c6 (i64s L) (by rfl) (hR2.below hB3.drew) h1s (by unfold maxLen; omega) (by omega) hB3.size ?_; intro v' w' hm' hg' _; have hb' : Below w2.heap.size w2 w' := hB3.drew.grown hg' hB3.size (by intro g9 e9; simp [Value.ownBlock] at e9; omega); have hn' := hN3.drew.grown hg' (by simp only [Value.ownBlock]; intro e9; injection e9 with e9; omega)) | (refine wp_append_any ((w2.alloc (.cells #[] 3)).alloc (.cells #[.int .i64 a1] 3)).drew (.tmp 32) (.tmp 33) 24 rfl w2.heap.size 3 i (.int .i64 0) 1 8 elemIntQ.under hi hz hsz hby rfl (by decide) (.slice (some ⟨w2.heap.size, 0, none⟩) 0 0) 0 [] (by rfl) (ownEmpty hE2 (by omega)) w2.heap.size A6 L.length c6 (i64s L) (by rfl) (hR2.below hB2.drew) h1s (by unfold maxLen; omega) (by omega) hB2.size ?_; intro v' w' hm' hg' _; have hb' : Below w2.heap.size w2 w' := hB2.drew.grown hg' hB2.size (by intro g9 e9; simp [Value.ownBlock] at e9; omega); have hn' := hN2.drew.grown hg' (by simp only [Value.ownBlock]; intro e9; injection e9 with e9; omega))
                simp only [Nat.zero_add, List.nil_append] at hm'
                obtain ⟨A3, k3, rfl, _, _⟩ := own_form hm'
                have hk' := (Below.cell hb' (p := ⟨wr.heap.size, 1, none⟩) hltw).trans hkeep
                have hlow := hb'.size
                refine hK _ _ ?_
                clear hK
                try simp only [Act.put, List.setIfInBounds_toArray, List.set_cons_zero, List.set_cons_succ]
                refine ord_ready (rs := [6]) (by kernel_rfl) (by simp) ?_
                refine ord_next rfl (by rfl) (fun K hK => ?_) ?_
                rotate_left
                · exact AllReady.nil
                try simp only [drew_alloc]
                first | (refine wp_append_any w' (.tmp 34) (.tmp 37) 24 rfl w2.heap.size 3 i (.int .i64 0) 1 8 elemIntQ.under hi hz hsz hby rfl (by decide) (.slice A3 L.length k3) L.length (i64s L) (by rfl) hm' w'.heap.size _ 1 1 [.int .i64 a1] (by rfl) (Reads.of_own (own_of_blk (s := 1) (n := 1) hn' (Nat.zero_le _) rfl (by simp [maxLen]))) (by simp [Value.oneCell']) (by unfold maxLen; omega) (by omega) hlow ?_; intro v4 w4 hm4 hg4 _; have hb4 : Below w2.heap.size w2 w4 := hb'.grown hg4 hlow (fun g9 e9 => (hm'.lt g9 e9).1)) | (refine wp_append_oneG (w := w') (n := L.length) (xs := i64s L) (B := w2.heap.size) elemIntQ (by decide) (.tmp 34) (.tmp 37) rfl (by rfl) hm' hlow (by rfl) (by rfl) rfl (by simp [Value.oneCell']) (by omega) (by unfold maxLen; omega) ?_; intro v4 w4 hm4 hg4; have hb4 : Below w2.heap.size w2 w4 := hb'.grown hg4 hlow (fun g9 e9 => (hm'.lt g9 e9).1))
                obtain ⟨A4, k4, rfl, hk4, _⟩ := own_form hm4
                refine hK _ _ ?_
                clear hK
                try simp only [Act.put, List.setIfInBounds_toArray, List.set_cons_zero, List.set_cons_succ]
                refine ord_pure 7 (v := ?_) rfl (by kernel_rfl) (by intro _ _ _ h; exact h) (by rfl) (fun W => ?_) ?_
                rotate_left
                · first | (go_simp; done) | (go_simp; with_reducible rfl)
                try simp only [Act.put, List.setIfInBounds_toArray, List.set_cons_zero, List.set_cons_succ]
                refine ord_done (by kernel_rfl) ?_
                have hfin : FPlay w1 w4 A4 k4 (L ++ [a1]) (k + 1) := ⟨S2, HQ2.out.1.up hb4, by have := Reads.of_own hm4; simpa [i64s] using this, fun ad e _ hs => by have h1 := (hm4.lt ad.block (by rw [e]; rfl)).1; have h2 := QHas.lt HQ2.out.1 _ hs; omega, sub_trans HQ2.out.2.2.2 hb4, by have := HIN.out.1; simp; omega, by simpa using hk4, fun y hy => by rcases List.mem_append.1 hy with h | h; exact HIN.out.2.2 y h; rw [List.mem_singleton.1 h]; exact HI.out.2⟩
                have HFIN := Lib.hid hfin
                clear hfin
                go_wp2_with fail
                go_meet
                exact ⟨A4, k4, L ++ [a1], by simp, HFIN.out⟩
              exact AllReady.nil
            exact AllReady.nil
      case rest =>
        obtain ⟨A7, c7, L7, rfl, hP7⟩ := hcut
        obtain ⟨S7, hq7, hR7, hna7, hbw7, hlk7, hlc7, hin7⟩ := hP7
        have hl7 : L7.length ≤ 100000 := by omega
        have HP7 := Lib.hid (And.intro hR7 (And.intro hna7 (And.intro hbw7 (And.intro hlk7 (And.intro hlc7 hin7)))))
        clear hR7 hna7 hbw7 hlk7 hlc7 hin7 HP9 hq hR6 hna hbw hlk hlc hin d0 d1 g0 g1
        cases L7 with
        | nil =>
          have hsm : Small (([] : List Int)) := small_of fun x hx => by have := HP7.out.2.2.2.2.2 x hx; unfold In64 at this; exact this
          have HSM := Lib.hid hsm
          clear hsm
          go_wp2_with fail
          refine (qifirst_any w1.heap.size w1.heap.size S7 (([] : List Int)) _ hq7 hl7).mono ?_
          rintro e w2 ⟨rfl, b2⟩
          have hq8 := hq7.up b2
          have hR8 := HP7.out.1.up b2
          have hb8 := sub_trans HP7.out.2.2.1 b2
          clear b2 hq7
          go_wp2_with fail
          refine (qilen_any w1.heap.size w1.heap.size S7 (([] : List Int)) _ hq8 hl7).mono ?_
          rintro e w3 ⟨rfl, rfl⟩
          have hd := (Below.refl w2.heap.size w2).drew
          have hq9 := hq8.up hd
          have hR9 := hR8.up hd
          have hb9 := sub_trans hb8 hd
          clear hd hq8 hR8 hb8
          go_wp2_with fail
          refine (qilist_any w1.heap.size w1.heap.size S7 (([] : List Int)) _ hq9 hl7).mono ?_
          rintro e w4 ⟨v4, rfl, hm4⟩
          obtain ⟨A8, c8, rfl, _, _, r8⟩ := hm4.form
          have hq10 := hq9.up hm4.below
          have hR10 := hR9.up hm4.below
          have hb10 := sub_trans hb9 hm4.below
          clear hm4 hq9 hR9 hb9
          go_wp2_with fail
          refine (same7_any (([] : List Int)) (([] : List Int)) _ _ _ _ _ _ _ _ r8 hR10 (by omega) (by omega) HSM.out HSM.out).mono ?_
          rintro e w5 ⟨rfl, b5⟩
          have hfin : FPlay w1 w5 A7 c7 (([] : List Int)) (k + 1) := ⟨S7, hq10.up b5, hR10.up b5, HP7.out.2.1, sub_trans hb10 b5, HP7.out.2.2.2⟩
          have HFIN := Lib.hid hfin
          clear hfin hq10 hR10 hb10 b5 r8
          rw [show decide ((([] : List Int)) = (([] : List Int))) = true by simp]
          go_wp2
          go_roundw
          case rel => exact ⟨k + 1, by omega, by go_num, A7, c7, ([] : List Int), rfl, HFIN.out⟩
          case measure => simp [intOf]; omega
        | cons x r =>
          obtain ⟨b7, o7, rfl, _, _⟩ := HP7.out.1.base_ (k := 0) (by decide) (by simp)
          have hcell : ∀ W, Reads W W.heap.size 1 (some ⟨b7, o7, none⟩) (x :: r).length (i64s (x :: r)) → W.cell? ⟨b7, o7, none⟩ = some (.int .i64 x) := fun W hW => by
            obtain ⟨b', o', e', _, hc⟩ := hW.base_ (k := 0) (by decide) (by simp)
            injection e' with e'
            injection e' with e1 e2 _
            subst e1 e2
            have := hc 0 (.int .i64 x) (by simp [i64s])
            simpa using this
          have hxx : (x != x) = false := by simp
          have hpos : 0 < (x :: r).length := by simp
          have hsm : Small (x :: r) := small_of fun x hx => by have := HP7.out.2.2.2.2.2 x hx; unfold In64 at this; exact this
          have HSM := Lib.hid hsm
          clear hsm
          go_wp2_with fail
          refine (qifirst_any w1.heap.size w1.heap.size S7 (x :: r) _ hq7 hl7).mono ?_
          rintro e w2 ⟨rfl, b2⟩
          have hq8 := hq7.up b2
          have hR8 := HP7.out.1.up b2
          have hb8 := sub_trans HP7.out.2.2.1 b2
          clear b2 hq7
          have hlp := hl7
          go_wp2_with fail
          refine (qilen_any w1.heap.size w1.heap.size S7 (x :: r) _ hq8 hl7).mono ?_
          rintro e w3 ⟨rfl, rfl⟩
          have hd := (Below.refl w2.heap.size w2).drew
          have hq9 := hq8.up hd
          have hR9 := hR8.up hd
          have hb9 := sub_trans hb8 hd
          clear hd hq8 hR8 hb8
          have g0 := hcell w2.drew hR9
          go_wp2_with fail
          refine (qilist_any w1.heap.size w1.heap.size S7 (x :: r) _ hq9 hl7).mono ?_
          rintro e w4 ⟨v4, rfl, hm4⟩
          obtain ⟨A8, c8, rfl, _, _, r8⟩ := hm4.form
          have hq10 := hq9.up hm4.below
          have hR10 := hR9.up hm4.below
          have hb10 := sub_trans hb9 hm4.below
          clear hm4 hq9 hR9 hb9
          go_wp2_with fail
          refine (same7_any (x :: r) (x :: r) _ _ _ _ _ _ _ _ r8 hR10 (by omega) (by omega) HSM.out HSM.out).mono ?_
          rintro e w5 ⟨rfl, b5⟩
          have hfin : FPlay w1 w5 (some ⟨b7, o7, none⟩) c7 (x :: r) (k + 1) := ⟨S7, hq10.up b5, hR10.up b5, HP7.out.2.1, sub_trans hb10 b5, HP7.out.2.2.2⟩
          have HFIN := Lib.hid hfin
          clear hfin hq10 hR10 hb10 b5 r8
          rw [show decide ((x :: r) = (x :: r)) = true by simp]
          go_wp2
          go_roundw
          case rel => exact ⟨k + 1, by omega, by go_num, _, c7, x :: r, rfl, HFIN.out⟩
          case measure => simp [intOf]; omega
    · obtain rfl : k = n := by omega
      obtain ⟨S, hq, hR6, hna, hbw, hlk, hlc, hin⟩ := hP
      have hb9 := sub_trans HB.out hbw
      have HB9 := Lib.hid hb9
      have hl80 : L.length ≤ 100000 := by omega
      clear hb9 hbw hna hlc hin
      go_wp2_with fail
      refine (qihas_any w1.heap.size w1.heap.size S L nn _ hq hl80).mono ?_
      rintro e w2 ⟨rfl, b2⟩
      have hR8 := hR6.up b2
      have HB10 := Lib.hid (sub_trans HB9.out b2)
      clear b2 hR6 hq
      generalize hrr : decide (0 ≤ Lib.idxOf L nn) = rr at *
      have HRR := Lib.hid hrr
      clear hrr
      go_wp2_with fail
      refine (refhas_any L A6 c6 L.length nn _ hR8 hl80).mono ?_
      rintro e w3 ⟨rfl, rfl⟩
      rw [HRR.out]
      go_wp2
      go_ret
      exact ⟨by first | rfl | simp, HB10.out⟩
theorem fifoPlays_walk (l : List (Int × Int)) (A : Option Addr) (c : Nat) (nn : Int) (w : World) (hr : Reads w w.heap.size 2 A l.length (actsV l)) (hok : ActsOk l) (hl : l.length ≤ maxLen ∧ l.length ≤ c) (h1 : In64 nn) :
    Calls Try.prog 3 #[.slice A l.length c, .int .i64 nn] w fun e w' => e = .returned (.bool true) ∧ Below w.heap.size w w' := by
  by_cases hb : 80 < l.length
  · exact fplays_long l A c nn w hl.1 hb
  · exact fplays_few l A c nn w hr hok (by omega)
end Go.Proofs.Ytnikpgngaoaiiaa
