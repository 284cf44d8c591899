/-
  RwlockPlays walked. Condition: none.
-/
import Derived.Test.YtlkappmielllcaaRwTold
namespace Go.Fw
open Go.RowKit
set_option linter.unusedVariables false
theorem giveR_tot1 (x : Rf) (y : Int × Bool) : (giveR x y).tot = x.tot + 1 := by
  unfold giveR Rf.tot
  split <;> simp <;> omega
theorem askR_tot (x : Rf) (t : Int) (b : Bool) : (askR x t b).1.tot ≤ x.tot + 1 := by
  unfold askR
  split
  · exact Nat.le_succ _
  split
  · exact Nat.le_succ _
  split
  · rw [giveR_tot1]; exact Nat.le_refl _
  · unfold Rf.tot; simp; omega
theorem dropGoR_tot (ln : List (Int × Bool)) : ∀ (r w : List Int), (dropGoR ln r w).1.tot = r.length + w.length + ln.length := by
  induction ln with
  | nil => intro r w; rfl
  | cons y ln ih =>
    intro r w
    rw [dropGoR]
    split
    · rw [ih]
      have := giveR_tot1 ⟨r, w, ln⟩ y
      unfold Rf.tot at this
      rw [giveR_line] at this
      simp only [List.length_cons] at this ⊢
      omega
    · rfl
theorem dropGoR_out (ln : List (Int × Bool)) : ∀ (r w : List Int), List.Sublist (dropGoR ln r w).2 (ln.map (·.1)) := by
  induction ln with
  | nil => intro r w; exact List.Sublist.refl _
  | cons y ln ih =>
    intro r w
    rw [dropGoR]
    split
    · exact (ih _ _).cons_cons _
    · exact List.nil_sublist _
theorem dropR_tot (x : Rf) (t : Int) : (dropR x t).1.tot ≤ x.tot := by
  unfold dropR
  rw [dropGoR_tot]
  have h1 := List.length_filter_le (fun y => decide (y ≠ t)) x.rd
  have h2 := List.length_filter_le (fun y => decide (y ≠ t)) x.wr
  unfold Rf.tot lessR
  omega
end Go.Fw
namespace Go.Proofs.Ytlkappmielllcaa
open Go.RowKit Go.Fw
set_option maxHeartbeats 2000000
set_option maxRecDepth 4000
set_option linter.unusedVariables false
set_option linter.unusedSimpArgs false
/-- what a call on the lock may have written touches no list of the reference's -/
theorem rf_keep {w w' : World} {p B : Nat} {sl a b c d : Value} {l : Lk} {x : Rf} (h : RfAt w a b c d x) (hL : LockAt w p B 27 [] sl l) (hK : Keep (fun j => j = p ∨ sl.ownBlock = some j) w w') : RfAt w' a b c d x :=
  ⟨hK.tail h.rd fun k hk e => e.elim (fun e => TailRow.ne h.rd hL.1 (by decide) (by rw [hk, e])) fun e => tail_ne_tail h.rd hL.2 (by decide) k hk e.symm,
   hK.tail h.wr fun k hk e => e.elim (fun e => TailRow.ne h.wr hL.1 (by decide) (by rw [hk, e])) fun e => tail_ne_tail h.wr hL.2 (by decide) k hk e.symm,
   hK.tail h.ln fun k hk e => e.elim (fun e => TailRow.ne h.ln hL.1 (by decide) (by rw [hk, e])) fun e => tail_ne_tail h.ln hL.2 (by decide) k hk e.symm,
   hK.tail h.wt fun k hk e => e.elim (fun e => TailRow.ne h.wt hL.1 (by decide) (by rw [hk, e])) fun e => tail_ne_tail h.wt hL.2 (by decide) k hk e.symm⟩
/-- a block of another kind is written: the lock stays -/
theorem LockAt.farT {w : World} {p B g i : Nat} {t t2 : TypeId} {rest : List Value} {sl : Value} {l : Lk} {cs : Array Value} (h : LockAt w p B t rest sl l) (hg : Blk w g t2 cs) (hgp : p ≠ g) (hne : 60 ≠ t2) (u : Value) : LockAt (w.setCell ⟨g, i, none⟩ u) p B t rest sl l :=
  ⟨h.1.far (p := ⟨g, i, none⟩) hgp u, h.2.turn fun k hk => Below.heap_setCell w _ _ k fun e => h.2.ne hg hne (by rw [hk, e])⟩
theorem LockAt.put4 {w : World} {p B g : Nat} {t t2 : TypeId} {rest : List Value} {sl : Value} {l : Lk} {cs : Array Value} (h : LockAt w p B t rest sl l) (hg : Blk w g t2 cs) (hgp : p ≠ g) (hne : 60 ≠ t2) (v0 v1 v2 v3 : Value) : LockAt (put4 w g v0 v1 v2 v3) p B t rest sl l :=
  (((h.farT hg hgp hne v0).farT (hg.set_ 0 v0) hgp hne v1).farT ((hg.set_ 0 v0).set_ 1 v1) hgp hne v2).farT (((hg.set_ 0 v0).set_ 1 v1).set_ 2 v2) hgp hne v3
theorem blk_put4 {w : World} {g : Nat} {t : TypeId} {a b c d : Value} (h : Blk w g t #[a, b, c, d]) (v0 v1 v2 v3 : Value) : Blk (put4 w g v0 v1 v2 v3) g t #[v0, v1, v2, v3] := by
  have := (((h.set_ 0 v0).set_ 1 v1).set_ 2 v2).set_ 3 v3
  simpa using this
/-- the lock and the reference's, both laid since world w0 -/
structure PlayAt (w0 w : World) (sl a b c d : Value) (l : Lk) (x : Rf) : Prop where
  lock : LockAt w w0.heap.size w0.heap.size 27 [] sl l
  ref : Blk w (w0.heap.size + 1) 42 #[a, b, c, d]
  lists : RfAt w a b c d x
  rel : RelL l x
  below : Below w0.heap.size w0 w
def PlaySt (w0 w : World) (k : Nat) : Prop := ∃ sl a b c d l x, PlayAt w0 w sl a b c d l x ∧ x.tot ≤ k
theorem PlayAt.up {w0 w w' : World} {sl a b c d : Value} {l : Lk} {x : Rf} (h : PlayAt w0 w sl a b c d l x) (hb : Below w.heap.size w w') : PlayAt w0 w' sl a b c d l x :=
  ⟨h.lock.up hb, h.ref.later hb, h.lists.up hb, h.rel, sub_trans h.below hb⟩
theorem play_new (w : World) : PlayAt w ((w.alloc (.cells #[.int .u32 0, .int .u32 0, .slice none 0 0] 27)).alloc (.cells #[.slice none 0 0, .slice none 0 0, .slice none 0 0, .slice none 0 0] 42)) (.slice none 0 0) (.slice none 0 0) (.slice none 0 0) (.slice none 0 0) (.slice none 0 0) ⟨0, 0, []⟩ ⟨[], [], []⟩ :=
  ⟨(lock_new w).up (sub_alloc (Below.refl _ _) _), Blk.new_at _ _ _ (by simp), RfAt.new_ _, rel_new, sub_alloc (sub_alloc (Below.refl _ _) _) _⟩
theorem rwlockPlays_walk (l : List (Int × Int)) (A : Option Addr) (c : Nat) (w : World) (hr : Reads w w.heap.size 2 A l.length (actsV l)) (hok : ActsOk l) (hl : l.length ≤ maxLen ∧ l.length ≤ c) :
    Calls Try.prog 4 #[.slice A l.length c] w fun e w' => e = .returned (.bool true) ∧ Below w.heap.size w w' := by
  obtain ⟨hl63, hlc⟩ := hl
  unfold maxLen at hl63
  by_cases hbig : 80 < l.length
  · go_enter Try.func4, Try.ntmps4
    go_wp2_with fail
    refine (awake_any w).mono ?_
    rintro e w1 ⟨rfl, hb⟩
    go_wp2
    go_ret
    exact ⟨rfl, hb⟩
  · go_enter Try.func4, Try.ntmps4
    go_wp2_with fail
    refine (awake_any w).mono ?_
    rintro e w1 ⟨rfl, hb⟩
    have hr1 := hr.up hb
    have HR := Lib.hid hr1
    have HB := Lib.hid hb
    have HOK := Lib.hid hok
    clear hr hr1 hb hok
    generalize hn : l.length = n at *
    have HN := Lib.hid hn
    clear hn
    go_wp2
    go_loopg [24] n (fun g i wr => ∃ (k : Nat), k ≤ n ∧ g = n - k ∧ i = .int .i64 k ∧ PlaySt w1 wr k)
    case atStart => exact ⟨0, Nat.zero_le _, rfl, rfl, _, _, _, _, _, _, _, play_new w1, by decide⟩
    case round =>
      obtain ⟨k, hk, hg, rfl, sl, va, vb, vc, vd, lk, x, hP, htot⟩ := hrel
      have HG := Lib.hid hg
      clear hg
      by_cases hlt : k < n
      · have hkl : k < l.length := by have := HN.out; omega
        obtain ⟨bl, off, rfl, hbl, g0, g1⟩ := act_at (HR.out.up hP.below) hkl
        obtain ⟨i0, i1⟩ := HOK.out l[k] (List.getElem_mem hkl)
        generalize l[k] = a at *
        obtain ⟨a0, a1⟩ := a
        simp only at g0 g1 i0 i1
        unfold In64 at i0 i1
        go_upto_region 10 with fail
        go_cut [35] (fun v wx => v = .bool (isAsk a0) ∧ wx = wr.alloc (.cells #[.int .i64 a0, .int .i64 a1] 29))
        case first =>
          have h9 := Blk.new_at wr 29 #[.int .i64 a0, .int .i64 a1] (g := wr.heap.size) rfl
          have hc0 := h9.cell 0
          simp at hc0
          go_wp2_with fail
          all_goals go_meet
          all_goals (refine ⟨?_, by first | rfl | simp [*]⟩; first | (simp [isAsk, *]; done) | (refine congrArg Value.bool ?_; unfold isAsk; rw [Bool.eq_iff_iff]; simp; done) | (refine congrArg Value.bool ?_; unfold isAsk; rw [Bool.eq_iff_iff]; simp; omega))
        case rest =>
          obtain ⟨rfl, rfl⟩ := hcut
          go_upto_if 35 with fail
          go_cut [] (fun wx => PlaySt w1 wx (k + 1))
          case first =>
            have h9 := Blk.new_at wr 29 #[.int .i64 a0, .int .i64 a1] (g := wr.heap.size) rfl
            have hP9 := hP.up (sub_alloc (Below.refl _ wr) (.cells #[.int .i64 a0, .int .i64 a1] 29))
            have HP9 := Lib.hid (And.intro hP9 (And.intro h9 htot))
            have HI := Lib.hid i1
            have hpq : w1.heap.size + 1 < wr.heap.size := hP.ref.lt
            have hslr : ∀ j, sl.ownBlock = some j → j < wr.heap.size := fun j hj => (hP.lock.2.lt j hj).2
            have HSL := Lib.hid hslr
            clear hP hP9 g0 g1 htot h9 hslr
            generalize hwa : wr.alloc (.cells #[.int .i64 a0, .int .i64 a1] 29) = wa at *
            have HWA := Lib.hid hwa
            clear hwa
            have hc0 := HP9.out.2.1.cell 0
            have hc1 := HP9.out.2.1.cell 1
            simp at hc0 hc1
            cases hia : isAsk a0
            · skip
              have hz := HP9.out.1.rel.held a1
              by_cases hheld : heldR x a1 = 0
              · rw [hheld] at hz
                have hdn := drop_none _ _ _ _ _ _ a1 wa HP9.out.1.lock HP9.out.1.rel.ok HI.out hz
                have hrd := rdrop_none va vb vc vd x a1 wa HP9.out.1.lists (Nat.le_trans HP9.out.2.2 (by omega)) hheld
                have HD1 := Lib.hid hdn
                have HD2 := Lib.hid hrd
                have ha2 := HP9.out.1.ref
                have d0 := ha2.cell 0
                have d1 := ha2.cell 1
                have d2 := ha2.cell 2
                have d3 := ha2.cell 3
                simp at d0 d1 d2 d3
                clear hdn hrd hz hheld ha2
                go_wp2_with fail
                refine HD1.out.mono ?_
                rintro e w2 ⟨rfl, rfl⟩
                go_wp2_with fail
                refine HD2.out.mono ?_
                rintro e w3 ⟨v, o, rfl, ⟨a', b', c', d', rfl, h3, hb3⟩, ho3⟩
                obtain ⟨l', el⟩ : ∃ l', l' = lk := ⟨_, rfl⟩
                obtain ⟨x', ex⟩ : ∃ x', x' = x := ⟨_, rfl⟩
                obtain ⟨out, eo⟩ : ∃ out : List Int, out = [] := ⟨_, rfl⟩
                rw [← ex] at h3
                have hq3 := HP9.out.1.ref.later hb3
                have hl3 := HP9.out.1.lock.up hb3
                have hbb3 := sub_trans HP9.out.1.below hb3
                have hto3 : Sl w3 (.slice none 0 0) out.length (i64s out) := by rw [eo]; exact Sl.nil_ w3
                rw [← eo] at ho3
                have HE : Hid (RelL l' x' ∧ x'.tot ≤ k + 1) := Lib.hid ⟨by rw [el, ex]; exact HP9.out.1.rel, by rw [ex]; have := HP9.out.2.2; omega⟩
                have HO : Hid (out.length ≤ 900 ∧ Small out) := Lib.hid ⟨by rw [eo]; simp, by rw [eo]; exact small_of (by simp)⟩
                have hol := HO.out.1
                rw [← el] at hl3
                clear hb3 HD1 HD2 el ex eo
                obtain ⟨E0, q0, rfl, _, _, _⟩ := h3.rd.form
                obtain ⟨E1, q1, rfl, _, _, _⟩ := h3.wr.form
                obtain ⟨E2, q2, rfl, _, _, _⟩ := h3.ln.form
                obtain ⟨E3, q3, rfl, _, _, _⟩ := h3.wt.form
                have k3 := hq3.alloc (.cells #[.slice E0 x'.rd.length q0, .slice E1 x'.wr.length q1, .slice E2 x'.line.length q2, .slice E3 x'.line.length q3] 42)
                have l3 := hl3.up (sub_alloc (Below.refl _ _) (.cells #[.slice E0 x'.rd.length q0, .slice E1 x'.wr.length q1, .slice E2 x'.line.length q2, .slice E3 x'.line.length q3] 42))
                have r3 := h3.up (sub_alloc (Below.refl _ _) (.cells #[.slice E0 x'.rd.length q0, .slice E1 x'.wr.length q1, .slice E2 x'.line.length q2, .slice E3 x'.line.length q3] 42))
                have b3 := sub_alloc hbb3 (.cells #[.slice E0 x'.rd.length q0, .slice E1 x'.wr.length q1, .slice E2 x'.line.length q2, .slice E3 x'.line.length q3] 42)
                have n3 := Blk.new_at w3 42 #[.slice E0 x'.rd.length q0, .slice E1 x'.wr.length q1, .slice E2 x'.line.length q2, .slice E3 x'.line.length q3] (g := w3.heap.size) rfl
                have t3 := hto3.up (sub_alloc (Below.refl _ _) (.cells #[.slice E0 x'.rd.length q0, .slice E1 x'.wr.length q1, .slice E2 x'.line.length q2, .slice E3 x'.line.length q3] 42))
                have o3 := ho3.up (sub_alloc (Below.refl _ _) (.cells #[.slice E0 x'.rd.length q0, .slice E1 x'.wr.length q1, .slice E2 x'.line.length q2, .slice E3 x'.line.length q3] 42))
                have H3 := Lib.hid (And.intro l3 (And.intro r3 (And.intro k3 (And.intro b3 n3))))
                have HT3 := Lib.hid (And.intro t3 o3)
                clear hq3 hl3 hbb3 hto3 ho3 h3 k3 l3 r3 b3 n3 t3 o3 d0 d1 d2 d3
                obtain ⟨At, qt, et, _, _, rt⟩ := HT3.out.1.form
                obtain ⟨Ao, qo, eo, _, _, ro⟩ := HT3.out.2.form
                injection et with e1 e2 e3
                subst e1 e3 eo
                try rw [← e2] at rt
                clear e2
                go_upto_region 18 with fail
                generalize w3.alloc (.cells #[.slice E0 x'.rd.length q0, .slice E1 x'.wr.length q1, .slice E2 x'.line.length q2, .slice E3 x'.line.length q3] 42) = w4 at *
                generalize w3.heap.size = g9 at *
                go_wp2_with fail
                refine (same7_any out out _ _ _ _ _ _ _ _ rt ro (by omega) (by omega) HO.out.2 HO.out.2).mono ?_
                rintro e w5 ⟨rfl, hb5⟩
                rw [show decide (out = out) = true by simp]
                have l5 := H3.out.1.up hb5
                have r5 := H3.out.2.1.up hb5
                have k5 := H3.out.2.2.1.later hb5
                have b5 := sub_trans H3.out.2.2.2.1 hb5
                have m5 := H3.out.2.2.2.2.later hb5
                have n0 := m5.cell 0
                have n1 := m5.cell 1
                have n2 := m5.cell 2
                have n3 := m5.cell 3
                have d0 := k5.cell 0
                have d1 := k5.cell 1
                have d2 := k5.cell 2
                have d3 := k5.cell 3
                have f0 := k5.frozen 0
                have f1 := k5.frozen 1
                have f2 := k5.frozen 2
                have f3 := k5.frozen 3
                simp at n0 n1 n2 n3 d0 d1 d2 d3
                have H5 := Lib.hid (And.intro l5 (And.intro r5 (And.intro k5 b5)))
                clear l5 r5 k5 b5 m5 rt ro hb5
                go_wp2
                go_meet
                exact ⟨_, _, _, _, _, l', x', ⟨H5.out.1.put4 H5.out.2.2.1 (by omega) (by decide) _ _ _ _, blk_put4 H5.out.2.2.1 _ _ _ _, H5.out.2.1.put4 H5.out.2.2.1 _ _ _ _, HE.out.1, below_put4 H5.out.2.2.2 (Nat.le_succ _) _ _ _ _⟩, HE.out.2⟩
              · have hzz : heldN lk a1 ≠ 0 := by rw [hz]; exact hheld
                have hdn := drop_any _ _ _ _ _ _ a1 wa HP9.out.1.lock HP9.out.1.rel.ok (by decide) (by have := HP9.out.2.2; rw [HP9.out.1.rel.line]; unfold Rf.tot at this; omega) HI.out hzz
                have hrd : ∀ w2, RfAt w2 va vb vc vd x → Calls Try.prog 15 #[.agg #[va, vb, vc, vd], .int .i64 a1] w2 (RDropPost w2 (dropR x a1).1 (dropR x a1).2 true) := fun w2 h2 => rdrop_any va vb vc vd x a1 w2 h2 (Nat.le_trans HP9.out.2.2 (by omega)) hheld
                have hrel := HP9.out.1.rel.drop a1
                have htt := dropR_tot x a1
                have hsub := dropGoR_out x.line (lessR x.rd a1) (lessR x.wr a1)
                have hsub2 : List.Sublist (dropR x a1).2 (x.line.map (·.1)) := hsub
                have hrng := HP9.out.1.rel.rng
                rcases hQ : dropR x a1 with ⟨x', out⟩
                rcases hBk : dropL lk a1 with ⟨l', out'⟩
                rw [hQ, hBk] at hrel
                obtain ⟨hrel1, heq⟩ := hrel
                simp only at heq
                subst heq
                rw [hQ] at hrd htt hsub2
                rw [hBk] at hdn
                have HE : Hid (RelL l' x' ∧ x'.tot ≤ k + 1) := Lib.hid ⟨hrel1, by have := HP9.out.2.2; simp only at htt; omega⟩
                have HO : Hid (out'.length ≤ 900 ∧ Small out') := Lib.hid ⟨by have h1 := hsub2.length_le; simp at h1; have := HP9.out.2.2; unfold Rf.tot at this; omega, small_of fun u hu => by
                  obtain ⟨y, hy, rfl⟩ := List.mem_map.1 (hsub2.subset hu)
                  have := hrng y hy
                  omega⟩
                obtain ⟨out, rfl⟩ : ∃ out, out = out' := ⟨_, rfl⟩
                have hol := HO.out.1
                have HD1 := Lib.hid hdn
                have HD2 := Lib.hid hrd
                clear hdn hrd hz hheld hzz hrel1 htt hsub hsub2 hrng hQ hBk
                go_wp2_with fail
                refine HD1.out.mono ?_
                rintro e w2 ⟨v2, rfl, hv2, sl2, h2, hK2⟩
                have hK2' : Keep (fun j => j = w1.heap.size ∨ sl.ownBlock = some j) wa w2 := hK2.more2 fun j e => .inl e
                have hl2 := rf_keep HP9.out.1.lists HP9.out.1.lock hK2'
                have hq2 := hK2.blk HP9.out.1.ref (by omega)
                have ha2 := hK2.blk HP9.out.2.1 (by omega)
                have b2 := HP9.out.1.below.trans (hK2.below HP9.out.1.below.size fun j e => by omega)
                obtain ⟨Av, qv, rfl, _, _⟩ := own_form hv2
                clear hc0 hc1
                have hc0 := ha2.cell 0
                have hc1 := ha2.cell 1
                have d0 := hq2.cell 0
                have d1 := hq2.cell 1
                have d2 := hq2.cell 2
                have d3 := hq2.cell 3
                simp at hc0 hc1 d0 d1 d2 d3
                have H2 := Lib.hid (And.intro h2 (And.intro hl2 (And.intro hq2 (And.intro b2 hv2))))
                clear h2 hl2 hq2 b2 hK2 hK2' ha2 hv2
                go_wp2_with fail
                refine (HD2.out w2 H2.out.2.1).mono ?_
                rintro e w3 ⟨v, o, rfl, ⟨a', b', c', d', rfl, h3, hb3⟩, ho3⟩
                have hq3 := H2.out.2.2.1.later hb3
                have hl3 := H2.out.1.up hb3
                have hbb3 := sub_trans H2.out.2.2.2.1 hb3
                have hto3 := (Sl.of_own H2.out.2.2.2.2).up hb3
                clear hb3 HD1 HD2 H2
                obtain ⟨E0, q0, rfl, _, _, _⟩ := h3.rd.form
                obtain ⟨E1, q1, rfl, _, _, _⟩ := h3.wr.form
                obtain ⟨E2, q2, rfl, _, _, _⟩ := h3.ln.form
                obtain ⟨E3, q3, rfl, _, _, _⟩ := h3.wt.form
                have k3 := hq3.alloc (.cells #[.slice E0 x'.rd.length q0, .slice E1 x'.wr.length q1, .slice E2 x'.line.length q2, .slice E3 x'.line.length q3] 42)
                have l3 := hl3.up (sub_alloc (Below.refl _ _) (.cells #[.slice E0 x'.rd.length q0, .slice E1 x'.wr.length q1, .slice E2 x'.line.length q2, .slice E3 x'.line.length q3] 42))
                have r3 := h3.up (sub_alloc (Below.refl _ _) (.cells #[.slice E0 x'.rd.length q0, .slice E1 x'.wr.length q1, .slice E2 x'.line.length q2, .slice E3 x'.line.length q3] 42))
                have b3 := sub_alloc hbb3 (.cells #[.slice E0 x'.rd.length q0, .slice E1 x'.wr.length q1, .slice E2 x'.line.length q2, .slice E3 x'.line.length q3] 42)
                have n3 := Blk.new_at w3 42 #[.slice E0 x'.rd.length q0, .slice E1 x'.wr.length q1, .slice E2 x'.line.length q2, .slice E3 x'.line.length q3] (g := w3.heap.size) rfl
                have t3 := hto3.up (sub_alloc (Below.refl _ _) (.cells #[.slice E0 x'.rd.length q0, .slice E1 x'.wr.length q1, .slice E2 x'.line.length q2, .slice E3 x'.line.length q3] 42))
                have o3 := ho3.up (sub_alloc (Below.refl _ _) (.cells #[.slice E0 x'.rd.length q0, .slice E1 x'.wr.length q1, .slice E2 x'.line.length q2, .slice E3 x'.line.length q3] 42))
                have H3 := Lib.hid (And.intro l3 (And.intro r3 (And.intro k3 (And.intro b3 n3))))
                have HT3 := Lib.hid (And.intro t3 o3)
                clear hq3 hl3 hbb3 hto3 ho3 h3 k3 l3 r3 b3 n3 t3 o3 d0 d1 d2 d3
                obtain ⟨At, qt, et, _, _, rt⟩ := HT3.out.1.form
                obtain ⟨Ao, qo, eo, _, _, ro⟩ := HT3.out.2.form
                injection et with e1 e2 e3
                subst e1 e3 eo
                try rw [← e2] at rt
                clear e2
                go_upto_region 18 with fail
                generalize w3.alloc (.cells #[.slice E0 x'.rd.length q0, .slice E1 x'.wr.length q1, .slice E2 x'.line.length q2, .slice E3 x'.line.length q3] 42) = w4 at *
                generalize w3.heap.size = g9 at *
                go_wp2_with fail
                refine (same7_any out out _ _ _ _ _ _ _ _ rt ro (by omega) (by omega) HO.out.2 HO.out.2).mono ?_
                rintro e w5 ⟨rfl, hb5⟩
                rw [show decide (out = out) = true by simp]
                have l5 := H3.out.1.up hb5
                have r5 := H3.out.2.1.up hb5
                have k5 := H3.out.2.2.1.later hb5
                have b5 := sub_trans H3.out.2.2.2.1 hb5
                have m5 := H3.out.2.2.2.2.later hb5
                have n0 := m5.cell 0
                have n1 := m5.cell 1
                have n2 := m5.cell 2
                have n3 := m5.cell 3
                have d0 := k5.cell 0
                have d1 := k5.cell 1
                have d2 := k5.cell 2
                have d3 := k5.cell 3
                have f0 := k5.frozen 0
                have f1 := k5.frozen 1
                have f2 := k5.frozen 2
                have f3 := k5.frozen 3
                simp at n0 n1 n2 n3 d0 d1 d2 d3
                have H5 := Lib.hid (And.intro l5 (And.intro r5 (And.intro k5 b5)))
                clear l5 r5 k5 b5 m5 rt ro hb5
                go_wp2
                go_meet
                exact ⟨_, _, _, _, _, l', x', ⟨H5.out.1.put4 H5.out.2.2.1 (by omega) (by decide) _ _ _ _, blk_put4 H5.out.2.2.1 _ _ _ _, H5.out.2.1.put4 H5.out.2.2.1 _ _ _ _, HE.out.1, below_put4 H5.out.2.2.2 (Nat.le_succ _) _ _ _ _⟩, HE.out.2⟩
            · rcases hQ : askR x a1 (a0 == 1) with ⟨x', rb, re⟩
              rcases hBk : askL lk a1 (a0 == 1) with ⟨l', rb', re'⟩
              have hrel := HP9.out.1.rel.ask a1 (a0 == 1)
              rw [hQ, hBk] at hrel
              obtain ⟨hrel1, heq⟩ := hrel
              have htt := askR_tot x a1 (a0 == 1)
              rw [hQ] at htt
              have h3 : rb' = rb := congrArg Prod.fst heq
              have h4 : re' = re := congrArg Prod.snd heq
              subst h3 h4
              have hask := ask_any _ _ _ _ _ _ a1 (a0 == 1) wa HP9.out.1.lock HP9.out.1.rel.ok (by decide) (by have := HP9.out.2.2; rw [HP9.out.1.rel.line]; unfold Rf.tot at this; omega) HP9.out.1.below.size HI.out
              rw [hBk] at hask
              have hra : ∀ (w2 : World), RfAt w2 va vb vc vd x → Calls Try.prog 14 #[.agg #[va, vb, vc, vd], .int .i64 a1, .bool (a0 == 1)] w2 (RAskPost w2 (x', rb', re')) := fun w2 hl2 => by
                rw [← hQ]
                exact rask_any va vb vc vd x a1 (a0 == 1) w2 hl2 (Rf.tot_short (Nat.le_trans HP9.out.2.2 (by omega))) HI.out
              have HASK := Lib.hid hask
              have HRA := Lib.hid hra
              have HE := Lib.hid (And.intro hrel1 htt)
              clear hask hra hrel1 htt heq hQ hBk
              go_wp2_with fail
              refine HASK.out.mono ?_
              rintro e w2 ⟨rfl, sl2, h2, hK2⟩
              have hl2 := rf_keep HP9.out.1.lists HP9.out.1.lock hK2
              have hq2 := hK2.blk HP9.out.1.ref (fun e => e.elim (fun e => by omega) fun e => HP9.out.1.lock.2.ne HP9.out.1.ref (by decide) e)
              have ha2 := hK2.blk HP9.out.2.1 (fun e => e.elim (fun e => by omega) fun e => by have := HSL.out _ e; omega)
              have b2 := HP9.out.1.below.trans ((HP9.out.1.lock.askKeep (Nat.le_refl _) hK2).below HP9.out.1.below.size fun _ h => h)
              clear hc0 hc1
              have hc0 := ha2.cell 0
              have hc1 := ha2.cell 1
              have d0 := hq2.cell 0
              have d1 := hq2.cell 1
              have d2 := hq2.cell 2
              have d3 := hq2.cell 3
              simp at hc0 hc1 d0 d1 d2 d3
              have H2 := Lib.hid (And.intro h2 (And.intro hl2 (And.intro hq2 b2)))
              clear h2 hl2 hq2 b2 hK2 ha2
              go_wp2_with fail
              refine (HRA.out w2 H2.out.2.1).mono ?_
              rintro e w3 ⟨v, rfl, a', b', c', d', rfl, h3, hb3⟩
              obtain ⟨E0, q0, rfl, _, _, _⟩ := h3.rd.form
              obtain ⟨E1, q1, rfl, _, _, _⟩ := h3.wr.form
              obtain ⟨E2, q2, rfl, _, _, _⟩ := h3.ln.form
              obtain ⟨E3, q3, rfl, _, _, _⟩ := h3.wt.form
              have hq3 := H2.out.2.2.1.later hb3
              have k3 := hq3.alloc (.cells #[.slice E0 x'.rd.length q0, .slice E1 x'.wr.length q1, .slice E2 x'.line.length q2, .slice E3 x'.line.length q3] 42)
              have l3 := (H2.out.1.up hb3).up (sub_alloc (Below.refl _ _) (.cells #[.slice E0 x'.rd.length q0, .slice E1 x'.wr.length q1, .slice E2 x'.line.length q2, .slice E3 x'.line.length q3] 42))
              have r3 := h3.up (sub_alloc (Below.refl _ _) (.cells #[.slice E0 x'.rd.length q0, .slice E1 x'.wr.length q1, .slice E2 x'.line.length q2, .slice E3 x'.line.length q3] 42))
              have b3 := sub_alloc (sub_trans H2.out.2.2.2 hb3) (.cells #[.slice E0 x'.rd.length q0, .slice E1 x'.wr.length q1, .slice E2 x'.line.length q2, .slice E3 x'.line.length q3] 42)
              have n3 := Blk.new_at w3 42 #[.slice E0 x'.rd.length q0, .slice E1 x'.wr.length q1, .slice E2 x'.line.length q2, .slice E3 x'.line.length q3] (g := w3.heap.size) rfl
              have H3 := Lib.hid (And.intro l3 (And.intro r3 (And.intro k3 (And.intro b3 n3))))
              clear hq3 h3 hb3 k3 l3 r3 b3 n3 d0 d1 d2 d3
              go_upto_region 13 with fail
              generalize w3.alloc (.cells #[.slice E0 x'.rd.length q0, .slice E1 x'.wr.length q1, .slice E2 x'.line.length q2, .slice E3 x'.line.length q3] 42) = w4 at *
              generalize w3.heap.size = g9 at *
              have n0 := H3.out.2.2.2.2.cell 0
              have n1 := H3.out.2.2.2.2.cell 1
              have n2 := H3.out.2.2.2.2.cell 2
              have n3 := H3.out.2.2.2.2.cell 3
              have d0 := H3.out.2.2.1.cell 0
              have d1 := H3.out.2.2.1.cell 1
              have d2 := H3.out.2.2.1.cell 2
              have d3 := H3.out.2.2.1.cell 3
              have f0 := H3.out.2.2.1.frozen 0
              have f1 := H3.out.2.2.1.frozen 1
              have f2 := H3.out.2.2.1.frozen 2
              have f3 := H3.out.2.2.1.frozen 3
              simp at n0 n1 n2 n3 d0 d1 d2 d3
              go_wp2
              go_meet
              exact ⟨sl2, _, _, _, _, l', x', ⟨H3.out.1.put4 H3.out.2.2.1 (by omega) (by decide) _ _ _ _, blk_put4 H3.out.2.2.1 _ _ _ _, H3.out.2.1.put4 H3.out.2.2.1 _ _ _ _, HE.out.1, below_put4 H3.out.2.2.2.1 (Nat.le_succ _) _ _ _ _⟩, by have := HE.out.2; have := HP9.out.2.2; omega⟩
          case rest =>
            clear hP g0 g1 htot
            obtain ⟨slc, ac, bc, cc, dc, lc, xc, hPc, htc⟩ := hcut
            obtain ⟨E0, q0, rfl, _, _, _⟩ := hPc.lists.rd.form
            obtain ⟨E1, q1, rfl, _, _, _⟩ := hPc.lists.wr.form
            obtain ⟨E2, q2, rfl, _, _, _⟩ := hPc.lists.ln.form
            obtain ⟨E3, q3, rfl, _, _, _⟩ := hPc.lists.wt.form
            have d0 := hPc.ref.cell 0
            have d1 := hPc.ref.cell 1
            have d2 := hPc.ref.cell 2
            have d3 := hPc.ref.cell 3
            simp at d0 d1 d2 d3
            have htl := told_any _ _ _ _ _ _ _ _ _ wc hPc.lock hPc.rel hPc.lists (Nat.le_trans htc (by omega))
            have HTL := Lib.hid htl
            have HPC := Lib.hid hPc
            clear htl hPc
            go_wp2_with fail
            refine HTL.out.mono ?_
            rintro e w8 ⟨rfl, hb8⟩
            go_wp2
            go_roundg (n - (k + 1))
            case measure => have := HG.out; omega
            case rel => exact ⟨k + 1, by omega, rfl, by go_num, _, _, _, _, _, _, _, HPC.out.up hb8, htc⟩
      · go_wp2
        go_ret
        exact ⟨rfl, HB.out.trans (hP.below.mono HB.out.size)⟩
end Go.Proofs.Ytlkappmielllcaa
