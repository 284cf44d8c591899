/-
  Rwlock's Drop. Condition: a line that is not long.
-/
import Derived.Test.YtlkappmielllcaaRwAsk
import Derived.Laws.BitsAllLaws
import Derived.Deep.LoopGhost
import Derived.Test.YtlkappmielllcaaStill
namespace Go.Fw
open Go.RowKit
set_option linter.unusedVariables false
def clr (a b : Nat) : Nat := a &&& (4294967295 - b)
theorem clr_lt {a : Nat} (b : Nat) (ha : a < 4294967296) : clr a b < 4294967296 := Nat.lt_of_le_of_lt Nat.and_le_left ha
def dropGo : List (Int × Bool) → Nat → Nat → Lk × List Int
  | [], r, w => (⟨r, w, []⟩, [])
  | x :: ln, r, w => if fitsB ⟨r, w, []⟩ x.2 = true then ((dropGo ln (giveL ⟨r, w, ln⟩ x).r (giveL ⟨r, w, ln⟩ x).w).1, x.1 :: (dropGo ln (giveL ⟨r, w, ln⟩ x).r (giveL ⟨r, w, ln⟩ x).w).2) else (⟨r, w, x :: ln⟩, [])
def dropL (l : Lk) (t : Int) : Lk × List Int := dropGo l.line (clr l.r (bitN t)) (clr l.w (bitN t))
theorem giveL_line (l : Lk) (x : Int × Bool) : (giveL l x).line = l.line := by unfold giveL; split <;> rfl
theorem giveL_ok {r w : Nat} {ln : List (Int × Bool)} (x : Int × Bool) (h : Lk.ok ⟨r, w, x :: ln⟩) : (giveL ⟨r, w, ln⟩ x).ok := by
  have h1 := h.r
  have h2 := h.w
  simp only at h1 h2
  have h3 : ∀ y ∈ ln, 0 ≤ y.1 ∧ y.1 < 32 := fun y hy => h.line y (by simp [hy])
  have hb := bitN_lt x.1
  unfold giveL
  split
  · exact ⟨h1, Nat.or_lt_two_pow (n := 32) (by omega) (by omega), h3⟩
  · exact ⟨Nat.or_lt_two_pow (n := 32) (by omega) (by omega), h2, h3⟩
theorem Keep.own {p : Nat} {w w' : World} (h : Keep (fun j => j = p) w w') {B s n : Nat} {e : TypeId} {v : Value} {xs : List Value} (hv : w.ownsRow B e s v n xs) (hp : p < B) : w'.ownsRow B e s v n xs :=
  hv.kept (row := some p) ⟨h.os, h.tape, h.output, h.size, fun k hk hne => h.block k hk fun e => hne (by rw [e])⟩ (.inr (own_far hv hp))
end Go.Fw
namespace Go.Proofs.Ytlkappmielllcaa
open Go.RowKit Go.Fw
set_option maxHeartbeats 1000000
set_option maxRecDepth 4000
set_option linter.unusedVariables false
set_option linter.unusedSimpArgs false

theorem LockAt.shift {w : World} {p B : Nat} {t : TypeId} {rest : List Value} {sl sl2 : Value} {l : Lk} {ln : List (Int × Bool)} (h : LockAt w p B t rest sl l) (hne : 60 ≠ t)
    (hT : TailRow w B 60 2 sl2 ln.length (lineV ln)) : LockAt (w.setCell ⟨p, 2, none⟩ sl2) p B t rest sl2 ⟨l.r, l.w, ln⟩ :=
  ⟨by have hb := h.1.set_ 2 sl2; simpa using hb, hT.turn fun k hk => Below.heap_setCell w _ _ k fun e => hT.ne h.1 hne (by rw [hk, e])⟩
theorem LockAt.shift2 {w : World} {p B : Nat} {t : TypeId} {rest : List Value} {sl sl2 : Value} {l : Lk} {ln : List (Int × Bool)} (h : LockAt w p B t rest sl l) (hne : 60 ≠ t)
    (hT : TailRow w B 60 2 sl2 ln.length (lineV ln)) (t2 : TypeId) (cs : Array Value) : LockAt ((w.setCell ⟨p, 2, none⟩ sl2).alloc (.cells cs t2)) p B t rest sl2 ⟨l.r, l.w, ln⟩ ∧ Blk ((w.setCell ⟨p, 2, none⟩ sl2).alloc (.cells cs t2)) w.heap.size t2 cs :=
  ⟨(h.shift hne hT).up (sub_alloc (Below.refl _ _) _), Blk.new_at _ _ _ (by simp [World.setCell])⟩
theorem tail_ne_own {w : World} {B B' s s' n n' : Nat} {e e' : TypeId} {v v' : Value} {xs xs' : List Value} (h : TailRow w B e s v n xs) (h' : w.ownsRow B' e' s' v' n' xs') (hne : e ≠ e') : ∀ k, v.ownBlock = some k → some k ≠ v'.ownBlock := by
  intro k hk hk'
  rcases h'.2 with ⟨rfl, _⟩ | ⟨g', cap, cur, rfl, _, hh, _⟩
  · simp [Value.ownBlock] at hk'
  · have : k = g' := by simpa [Value.ownBlock] using hk'
    subst this
    exact h.ne hh hne hk
theorem LockAt.grown {w w' : World} {p B B' s n : Nat} {t : TypeId} {rest : List Value} {sl v : Value} {l : Lk} {xs : List Value} (h : LockAt w p B t rest sl l) (hg : w.grownBy w' v.ownBlock) (ho : w.ownsRow B' 3 s v n xs) (hp : p < B') : LockAt w' p B t rest sl l :=
  ⟨h.1.grown hg (fun e => own_far ho hp e.symm), h.2.turn fun k hk => hg.block k (h.2.lt k hk).2 (tail_ne_own h.2 ho (by decide) k hk)⟩
theorem keep_grownOwn {p : Nat} {w0 w w' : World} {s n : Nat} {e : TypeId} {v : Value} {xs : List Value} (h : Keep (fun j => j = p) w0 w) (hg : w.grownBy w' v.ownBlock) (ho : w.ownsRow w0.heap.size e s v n xs) : Keep (fun j => j = p) w0 w' :=
  ⟨hg.os.trans h.os, hg.tape.trans h.tape, hg.output.trans h.output, Nat.le_trans h.size hg.size, fun k hk hl => (hg.block k (Nat.lt_of_lt_of_le hk h.size) fun e => by have := (ho.lt k e.symm).1; omega).trans (h.block k hk hl)⟩
theorem drop_nil (t : Int) (w : World) (ht : -9223372036854775808 ≤ t ∧ t ≤ 9223372036854775807) :
    Calls Try.prog 10 #[.pointer none, .int .i64 t] w fun e w' => e = .returned (.tuple #[.slice none 0 0, .int .i64 5]) ∧ w = w' := by
  go_enter Try.func10, Try.ntmps10
  go_wp2_with fail
  refine (held_nil t w ht).mono ?_
  rintro e w1 ⟨rfl, rfl⟩
  go_wp2
  go_ret2
  exact ⟨rfl, rfl⟩
/-- what Drop leaves -/
def DropPost (w : World) (p B : Nat) (ty : TypeId) (rest : List Value) (l : Lk) (out : List Int) (e : Ending) (w' : World) : Prop :=
  ∃ v, e = .returned (.tuple #[v, .int .i64 0]) ∧ w'.ownsRow w.heap.size 3 1 v out.length (i64s out) ∧ ∃ sl', LockAt w' p B ty rest sl' l ∧ Keep (fun j => j = p) w w'
theorem drop_none (p B : Nat) (ty : TypeId) (rest : List Value) (sl : Value) (l : Lk) (t : Int) (w : World) (h : LockAt w p B ty rest sl l) (hl : l.ok) (ht : -9223372036854775808 ≤ t ∧ t ≤ 9223372036854775807) (hz : heldN l t = 0) :
    Calls Try.prog 10 #[.pointer (some ⟨p, 0, none⟩), .int .i64 t] w fun e w' => e = .returned (.tuple #[.slice none 0 0, .int .i64 5]) ∧ w = w' := by
  have hh := held_any p B ty rest sl l t w h hl ht
  rw [hz] at hh
  have HH := Lib.hid hh
  clear hh
  go_enter Try.func10, Try.ntmps10
  go_wp2_with fail
  refine HH.out.mono ?_
  rintro e w1 ⟨rfl, rfl⟩
  go_wp2
  go_ret2
  exact ⟨rfl, rfl⟩
theorem drop_any (p B : Nat) (ty : TypeId) (rest : List Value) (sl : Value) (l : Lk) (t : Int) (w : World) (h : LockAt w p B ty rest sl l) (hl : l.ok) (hne : 60 ≠ ty) (hn : l.line.length ≤ 900) (ht : -9223372036854775808 ≤ t ∧ t ≤ 9223372036854775807) (hz : heldN l t ≠ 0) :
    Calls Try.prog 10 #[.pointer (some ⟨p, 0, none⟩), .int .i64 t] w (DropPost w p B ty rest (dropL l t).1 (dropL l t).2) := by
  have hbt := bit_any t
  have HT := Lib.hid ht
  have hh := held_any p B ty rest sl l t w h hl ht
  have hbl := bitN_lt t
  have a1 := u32_andNot_nat l.r (bitN t) hl.r hbl
  have a2 := u32_andNot_nat l.w (bitN t) hl.w hbl
  have hdl : dropL l t = dropGo l.line (clr l.r (bitN t)) (clr l.w (bitN t)) := rfl
  have d1 : (heldN l t == 0) = false := by simpa using hz
  have l1 := clr_lt (bitN t) hl.r
  have l2 := clr_lt (bitN t) hl.w
  have e1 : l.r &&& (4294967295 - bitN t) = clr l.r (bitN t) := rfl
  have e2 : l.w &&& (4294967295 - bitN t) = clr l.w (bitN t) := rfl
  rw [e1] at a1
  rw [e2] at a2
  generalize dropL l t = res at *
  generalize heldN l t = hv at *
  generalize clr l.r (bitN t) = r1 at *
  generalize clr l.w (bitN t) = r2 at *
  have HDL := Lib.hid hdl
  have HH := Lib.hid hh
  clear hdl hh hz e1 e2
  have c0 := h.c0
  have c1 := h.c1
  have f0 := h.1.frozen 0
  have f1 := h.1.frozen 1
  have hp := h.1.lt
  go_enter Try.func10, Try.ntmps10
  go_wp2_with fail
  refine HH.out.mono ?_
  rintro e w1 ⟨rfl, rfl⟩
  go_wp2
  refine still_start 9 (by kernel_rfl) (by kernel_rfl) ?_
  simp only [List.take_succ_cons, List.take_zero, List.drop_succ_cons, List.drop_zero]
  repeat still_step
  still_call ((hbt _ HT.out).mono fun e w1 h => ⟨h.1, h.2.symm⟩)
  repeat still_step
  refine wpStill_nil ?_
  go_wp2
  refine still_start 9 (by kernel_rfl) (by kernel_rfl) ?_
  simp only [List.take_succ_cons, List.take_zero, List.drop_succ_cons, List.drop_zero]
  repeat still_step
  still_call ((hbt _ HT.out).mono fun e w1 h => ⟨h.1, h.2.symm⟩)
  repeat still_step
  refine wpStill_nil ?_
  go_wp2
  go_loopg [6] l.line.length (fun k v wr => ∃ (l' : Lk) (sl' : Value) (pre : List Int), k = l'.line.length ∧ LockAt wr p B ty rest sl' l' ∧ l'.ok ∧ pre.length + l'.line.length ≤ 900 ∧ wr.ownsRow w.heap.size 3 1 v pre.length (i64s pre) ∧ Keep (fun j => j = p) w wr ∧
    Hid (res = ((dropGo l'.line l'.r l'.w).1, pre ++ (dropGo l'.line l'.r l'.w).2)))
  case atStart =>
    refine ⟨⟨r1, r2, l.line⟩, sl, [], rfl, ?_, ⟨l1, l2, hl.line⟩, by simpa using hn, World.ownsRow_nil _ _ _ _, ?_, Lib.hid (by rw [HDL.out]; rfl)⟩
    · have k1 : Keep (fun j => j = p) w ((w.setCell ⟨p, 0, none⟩ (.int .u32 r1)).setCell ⟨p, 1, none⟩ (.int .u32 r2)) := ((Keep.refl (fun j => j = p) w).setCell (p := ⟨p, 0, none⟩) (.inl rfl) _).setCell (p := ⟨p, 1, none⟩) (.inl rfl) _
      refine h.turn (w' := (w.setCell ⟨p, 0, none⟩ (.int .u32 r1)).setCell ⟨p, 1, none⟩ (.int .u32 r2)) hne r1 r2 ?_ k1
      have hb := (h.1.set_ 0 (.int .u32 r1)).set_ 1 (.int .u32 r2)
      simpa using hb
    · exact (((Keep.refl (fun j => j = p) w).setCell (p := ⟨p, 0, none⟩) (.inl rfl) _).setCell (p := ⟨p, 1, none⟩) (.inl rfl) _).drew.drew
  case round =>
    obtain ⟨⟨r, m, ln⟩, sl', pre, hgk, hL, hok, hlen, hown, hK, HR⟩ := hrel
    have g2 := hL.c2
    have hpr := hL.1.lt
    have k2 := hL.1.frozen 2
    have HG := Lib.hid hgk
    have HOK := Lib.hid hok
    have HLEN := Lib.hid hlen
    clear hgk hok hlen h hl hn HH HDL hbt hbl d1 a1 a2 l1 l2 c0 c1 f0 f1
    rcases ln with _ | ⟨⟨x0, x1⟩, ln⟩
    · obtain ⟨A, c, rfl, _, _, _⟩ := hL.2.form
      have HL := Lib.hid hL
      have HK := Lib.hid hK
      have HO := Lib.hid hown
      clear hL hK hown
      simp only [List.length_nil] at g2
      go_wp2
      go_ret2
      rw [HR.out]
      exact ⟨u6, rfl, by simpa [dropGo] using HO.out, _, HL.out, HK.out⟩
    · obtain ⟨g, off, cap, hsl, hcap, hmax, hrest⟩ := TailRow.rest (n := ln.length) hL.2
      subst hsl
      obtain ⟨A, c, hsl2, _, _, hrd⟩ := hL.2.form
      obtain ⟨bl, o, hA, _, q0, q1⟩ := want_at (k := 0) hrd (by simp)
      have hAA : A = some ⟨g, off, none⟩ := by injection hsl2 with h1 _ _; exact h1.symm
      have hbo : (⟨bl, o, none⟩ : Addr) = ⟨g, off, none⟩ := by rw [hAA] at hA; injection hA with hA; exact hA.symm
      injection hbo with hb1 hb2
      subst hb1 hb2
      simp only [Nat.zero_mul, Nat.add_zero, List.getElem_cons_zero] at q0 q1
      have hfit := fits_any p B ty rest _ _ x1 wr hL
      have HFIT := Lib.hid hfit
      clear hsl2 hrd hA hAA hfit
      have HRest := Lib.hid hrest
      clear hrest
      try simp only [List.length_cons] at g2
      have hlc : ln.length ≤ 900 := by have := HLEN.out; simp only [List.length_cons] at this; omega
      have hm63 : cap < 9223372036854775807 := by simpa [maxLen] using hmax
      by_cases hf : fitsB ⟨r, m, (x0, x1) :: ln⟩ x1 = true
      · have hdg : dropGo ((x0, x1) :: ln) r m = ((dropGo ln (giveL ⟨r, m, ln⟩ (x0, x1)).r (giveL ⟨r, m, ln⟩ (x0, x1)).w).1, x0 :: (dropGo ln (giveL ⟨r, m, ln⟩ (x0, x1)).r (giveL ⟨r, m, ln⟩ (x0, x1)).w).2) := by
          rw [dropGo]; exact if_pos hf
        have HDG := Lib.hid hdg
        rw [hf] at HFIT
        have hok2 := giveL_ok (x0, x1) HOK.out
        have HOK2 := Lib.hid hok2
        have hx64 : -9223372036854775808 ≤ x0 ∧ x0 ≤ 9223372036854775807 := by have := HOK.out.line (x0, x1) (by simp); simp only at this; omega
        have HX64 := Lib.hid hx64
        have HOKb : Hid (Lk.ok ⟨r, m, ln⟩) := Lib.hid ⟨HOK.out.r, HOK.out.w, fun y hy => HOK.out.line y (by simp [hy])⟩
        have hpl : pre.length ≤ 899 := by have := HLEN.out; simp only [List.length_cons] at this; omega
        have hsl2 : ∃ o2, Hid (cap = 0 ∧ o2 = o ∨ cap ≠ 0 ∧ o2 = o + 2) ∧ Hid (TailRow wr B 60 2 (.slice (some ⟨bl, o2, none⟩) ln.length cap) ln.length (lineV ln)) := by
          by_cases h0 : cap = 0
          · exact ⟨o, Lib.hid (.inl ⟨h0, rfl⟩), by have := HRest.out; rw [if_pos (by omega)] at this; exact this⟩
          · exact ⟨o + 2, Lib.hid (.inr ⟨h0, rfl⟩), by have := HRest.out; rw [if_neg (by omega)] at this; exact this⟩
        obtain ⟨o2, HO2, HT2⟩ := hsl2
        clear hf hok2 hx64 hdg HRest
        have hszz := hK.size
        have HKK := Lib.hid hK
        have HOW := Lib.hid hown
        have HLL := Lib.hid hL
        clear hL hown hK
        rcases HO2.out with ⟨h0, h1⟩ | ⟨h0, h1⟩
        all_goals
          subst h1
          try (subst h0; clear hcap)
          obtain ⟨hL2, hbt⟩ := HLL.out.shift2 hne HT2.out 60 #[.int .i64 x0, .bool x1]
          have HL2 := Lib.hid hL2
          have HBT := Lib.hid hbt
          clear hL2 hbt
          go_wp2_with fail
          refine HFIT.out.mono ?_
          rintro e w2 ⟨rfl, rfl⟩
          go_wp2_with fail
          refine (give_any p B ty rest _ ⟨r, m, ln⟩ (x0, x1) _ HL2.out HOKb.out hne HX64.out).mono ?_
          rintro e w4 ⟨rfl, h4, hK4⟩
          have hb4 := hK4.blk HBT.out (by omega)
          have i0 := hb4.cell 0
          simp at i0
          have hKall := (((Keep.refl (fun j => j = p) wr).setCell (p := ⟨p, 2, none⟩) (.inl rfl) _).alloc _).trans hK4
          have ho4 := hKall.own HOW.out hp
          have hz4 := hKall.size
          have H4 := Lib.hid h4
          have HKA := Lib.hid hKall
          clear h4 hK4 hb4 hKall
          go_wp2_with (at_builtin; go_must (refine wpList_append_oneG elemInt (by decide) rfl (.tmp 64) (.tmp 67) rfl rfl ho4 (by omega) (by simp) rfl rfl (by simp [Value.oneCell']) (by omega) (by unfold maxLen; omega) ?_); intro v' w' hm' hg')
          go_roundg ln.length
          case measure => rw [HG.out]; simp
          case rel =>
            refine ⟨giveL ⟨r, m, ln⟩ (x0, x1), _, pre ++ [x0], by rw [giveL_line], H4.out.grown hg' ho4 hp, HOK2.out, ?_, ?_, ?_, ?_⟩
            · rw [giveL_line]; have := HLEN.out; simp only [List.length_cons] at this; simp; omega
            · simpa [i64s] using hm'
            · exact keep_grownOwn (HKK.out.trans HKA.out) hg' ho4
            · exact Lib.hid (by rw [HR.out, HDG.out, giveL_line]; simp)
      · have hf2 : fitsB ⟨r, m, (x0, x1) :: ln⟩ x1 = false := by simpa using hf
        rw [hf2] at HFIT
        have hdg : dropGo ((x0, x1) :: ln) r m = (⟨r, m, (x0, x1) :: ln⟩, []) := by rw [dropGo]; exact if_neg hf
        have HDG := Lib.hid hdg
        clear hf hdg
        go_wp2_with fail
        refine HFIT.out.mono ?_
        rintro e w2 ⟨rfl, rfl⟩
        go_wp2
        go_ret2
        rw [HR.out, HDG.out]
        exact ⟨u6, rfl, by simpa using hown, _, hL, hK⟩
end Go.Proofs.Ytlkappmielllcaa
