/-
  The reference's functions on locks, walked. Conditions: short lists.
-/
import Derived.Test.YtlkappmielllcaaRwAlone
import Derived.Test.YtlkappmielllcaaMonAll
namespace Go.Fw
open Go.RowKit
set_option linter.unusedVariables false
/-- v is a slice of numbers that the program made: n elements, xs -/
def Sl (w : World) (v : Value) (n : Nat) (xs : List Value) : Prop := TailRow w 0 3 1 v n xs
/-- and one of truths -/
def SlB (w : World) (v : Value) (n : Nat) (xs : List Value) : Prop := TailRow w 0 4 1 v n xs
theorem Sl.form {w : World} {v : Value} {n : Nat} {xs : List Value} (h : Sl w v n xs) : ∃ A c, v = .slice A n c ∧ n ≤ c ∧ c ≤ maxLen ∧ Reads w w.heap.size 1 A n xs := TailRow.form h
theorem SlB.form {w : World} {v : Value} {n : Nat} {xs : List Value} (h : SlB w v n xs) : ∃ A c, v = .slice A n c ∧ n ≤ c ∧ c ≤ maxLen ∧ Reads w w.heap.size 1 A n xs := TailRow.form h
theorem Sl.up {w w' : World} {v : Value} {n : Nat} {xs : List Value} (h : Sl w v n xs) (hb : Below w.heap.size w w') : Sl w' v n xs := TailRow.later h hb
theorem SlB.up {w w' : World} {v : Value} {n : Nat} {xs : List Value} (h : SlB w v n xs) (hb : Below w.heap.size w w') : SlB w' v n xs := TailRow.later h hb
theorem Sl.of_own {w : World} {B : Nat} {v : Value} {n : Nat} {xs : List Value} (h : w.ownsRow B 3 1 v n xs) : Sl w v n xs := (TailRow.of_own h).lower (Nat.zero_le _)
theorem SlB.of_own {w : World} {B : Nat} {v : Value} {n : Nat} {xs : List Value} (h : w.ownsRow B 4 1 v n xs) : SlB w v n xs := (TailRow.of_own h).lower (Nat.zero_le _)
theorem Sl.nil_ (w : World) : Sl w (.slice none 0 0) 0 [] := TailRow.nil_ _ _ _ _
theorem SlB.nil_ (w : World) : SlB w (.slice none 0 0) 0 [] := TailRow.nil_ _ _ _ _
theorem Sl.set_ {w : World} {v : Value} {n : Nat} {xs : List Value} (h : Sl w v n xs) {g i : Nat} {t : TypeId} {cs : Array Value} (hg : Blk w g t cs) (hne : 3 ≠ t) (u : Value) : Sl (w.setCell ⟨g, i, none⟩ u) v n xs :=
  TailRow.turn h fun k hk => Below.heap_setCell w _ _ k fun e => TailRow.ne h hg hne (by rw [hk, e])
theorem SlB.set_ {w : World} {v : Value} {n : Nat} {xs : List Value} (h : SlB w v n xs) {g i : Nat} {t : TypeId} {cs : Array Value} (hg : Blk w g t cs) (hne : 4 ≠ t) (u : Value) : SlB (w.setCell ⟨g, i, none⟩ u) v n xs :=
  TailRow.turn h fun k hk => Below.heap_setCell w _ _ k fun e => TailRow.ne h hg hne (by rw [hk, e])
def bls (l : List Bool) : List Value := l.map Value.bool
theorem bls_length (l : List Bool) : (bls l).length = l.length := by simp [bls]
theorem bls_one (l : List Bool) : ∀ u ∈ bls l, u.oneCell' = true := by
  intro u hu
  obtain ⟨_, _, rfl⟩ := List.mem_map.1 hu
  rfl
def tsk (l : List (Int × Bool)) : List Int := l.map (·.1)
def wts (l : List (Int × Bool)) : List Bool := l.map (·.2)
theorem tsk_length (l : List (Int × Bool)) : (tsk l).length = l.length := by simp [tsk]
theorem wts_length (l : List (Int × Bool)) : (wts l).length = l.length := by simp [wts]
/-- the reference's lock, as a value -/
structure RfAt (w : World) (a b c d : Value) (x : Rf) : Prop where
  rd : Sl w a x.rd.length (i64s x.rd)
  wr : Sl w b x.wr.length (i64s x.wr)
  ln : Sl w c x.line.length (i64s (tsk x.line))
  wt : SlB w d x.line.length (bls (wts x.line))
theorem RfAt.up {w w' : World} {a b c d : Value} {x : Rf} (h : RfAt w a b c d x) (hb : Below w.heap.size w w') : RfAt w' a b c d x := ⟨h.rd.up hb, h.wr.up hb, h.ln.up hb, h.wt.up hb⟩
theorem RfAt.new_ (w : World) : RfAt w (.slice none 0 0) (.slice none 0 0) (.slice none 0 0) (.slice none 0 0) ⟨[], [], []⟩ := ⟨Sl.nil_ w, Sl.nil_ w, Sl.nil_ w, SlB.nil_ w⟩
theorem RfAt.set_ {w : World} {a b c d : Value} {x : Rf} (h : RfAt w a b c d x) {g i : Nat} {cs : Array Value} (hg : Blk w g 42 cs) (u : Value) : RfAt (w.setCell ⟨g, i, none⟩ u) a b c d x :=
  ⟨h.rd.set_ hg (by decide) u, h.wr.set_ hg (by decide) u, h.ln.set_ hg (by decide) u, h.wt.set_ hg (by decide) u⟩
/-- four cells of a block are written -/
abbrev put4 (w : World) (g : Nat) (v0 v1 v2 v3 : Value) : World := (((w.setCell ⟨g, 0, none⟩ v0).setCell ⟨g, 1, none⟩ v1).setCell ⟨g, 2, none⟩ v2).setCell ⟨g, 3, none⟩ v3
theorem below_put4 {B g : Nat} {w0 w : World} (b : Below B w0 w) (hg : B ≤ g) (v0 v1 v2 v3 : Value) : Below B w0 (put4 w g v0 v1 v2 v3) :=
  (((b.setCell (p := ⟨g, 0, none⟩) hg _).setCell (p := ⟨g, 1, none⟩) hg _).setCell (p := ⟨g, 2, none⟩) hg _).setCell (p := ⟨g, 3, none⟩) hg _
theorem RfAt.put4 {w : World} {a b c d : Value} {x : Rf} (h : RfAt w a b c d x) {g : Nat} {cs : Array Value} (hg : Blk w g 42 cs) (v0 v1 v2 v3 : Value) : RfAt (put4 w g v0 v1 v2 v3) a b c d x :=
  (((h.set_ hg v0).set_ (hg.set_ 0 v0) v1).set_ ((hg.set_ 0 v0).set_ 1 v1) v2).set_ (((hg.set_ 0 v0).set_ 1 v1).set_ 2 v2) v3
/-- lists that are short -/
structure Rf.short (x : Rf) (k : Nat) : Prop where
  rd : x.rd.length ≤ k
  wr : x.wr.length ≤ k
  ln : x.line.length ≤ k
end Go.Fw
namespace Go.Proofs.Ytlkappmielllcaa
open Go.RowKit Go.Fw
set_option maxHeartbeats 1000000
set_option maxRecDepth 4000
set_option linter.unusedVariables false
set_option linter.unusedSimpArgs false
theorem elemBool : ElemS Try.prog 40 4 (.bool false) 1 1 := ⟨Try.underlying40, by kernel_rfl, rfl⟩
theorem more_any (l : List Int) (v : Value) (t : Int) (w : World) (hr : Sl w v l.length (i64s l)) (hn : l.length ≤ 100000) :
    Calls Try.prog 32 #[v, .int .i64 t] w fun e w' => ∃ v', e = .returned v' ∧ MineS 1 w w' 3 v' (l.length + 1) (i64s (l ++ [t])) := by
  obtain ⟨A, c, rfl, _, _, hr⟩ := hr.form
  have hb := Blk.new_at w 3 #[] (g := w.heap.size) rfl
  have ho := own_empty (B := w.heap.size) (s := 1) hb (Nat.le_refl _)
  have hr2 := hr.alloc (Nat.le_refl _) (.cells #[] 3)
  obtain ⟨i, hi, hz, hsz, hby⟩ := info_parts elemInt.info
  have h1 := i64s_one l
  go_enter Try.func32, Try.ntmps32
  go_wp2_with (at_builtin; first | ((refine wpList_append_any (w.alloc (.cells #[] 3)) rfl (.tmp 6) (.tmp 7) _ rfl w.heap.size 3 i (.int .i64 0) 1 8 elemInt.under hi hz hsz hby rfl (by decide) _ 0 [] rfl ho w.heap.size A l.length c (i64s l) rfl hr2 h1 (by unfold maxLen; omega) (by omega) (by simp) ?_); intro v' w' hm' hg' _; have hb1 : Below w.heap.size w w' := (sub_alloc (Below.refl _ w) (.cells #[] 3)).grown hg' (by simp) fun k hk => (ho.lt k hk).1; have hm2 : w'.ownsRow w.heap.size 3 1 v' l.length (i64s l) := by simpa using hm') | ((refine wpList_append_oneG elemInt (by decide) rfl (.tmp 9) (.tmp 11) rfl rfl hm2 hb1.size rfl rfl rfl (by simp [Value.oneCell']) (by omega) (by unfold maxLen; omega) ?_); intro v2 w2 hm3 hg3))
  go_ret
  exact ⟨v2, rfl, by simpa [i64s] using hm3, hb1.grown hg3 hb1.size fun k hk => (hm2.lt k hk).1⟩
theorem lessR_snoc (l : List Int) (x t : Int) : lessR (l ++ [x]) t = if x = t then lessR l t else lessR l t ++ [x] := by
  unfold lessR
  rw [List.filter_append]
  by_cases h : x = t <;> simp [h]
theorem lessR_len (l : List Int) (t : Int) : (lessR l t).length ≤ l.length := List.length_filter_le _ _
theorem less_any (l : List Int) (v : Value) (t : Int) (w : World) (hr : Sl w v l.length (i64s l)) (hn : l.length ≤ 100000) :
    Calls Try.prog 33 #[v, .int .i64 t] w fun e w' => ∃ v', e = .returned v' ∧ MineS 1 w w' 3 v' (lessR l t).length (i64s (lessR l t)) := by
  obtain ⟨A, c, rfl, _, _, hr⟩ := hr.form
  generalize hl : l.length = n at *
  have HL := Lib.hid hl
  clear hl
  go_enter Try.func33, Try.ntmps33
  go_wp2
  go_loopw [5, 6] (fun v i wr => ∃ (k : Nat), k ≤ n ∧ i = .int .i64 k ∧ MineS 1 w wr 3 v (lessR (l.take k) t).length (i64s (lessR (l.take k) t))) (fun _ i _ => n - (intOf i).toNat)
  case atStart => exact ⟨0, by omega, rfl, MineS.nil_at 1 (Below.refl _ _) _⟩
  case round =>
    obtain ⟨k, hk, rfl, hm⟩ := hrel
    by_cases hlt : k < n
    · have hkl : k < l.length := by have := HL.out; omega
      obtain ⟨ad, u, rfl, _, hux, hc⟩ := (hr.up hm.below).at_ hlt
      obtain rfl := i64s_get hux hkl
      have hs : l.take (k + 1) = l.take k ++ [l[k]] := List.take_succ_eq_append_getElem hkl
      generalize l[k] = x at *
      have hq : (lessR (l.take k) t).length ≤ k := by have := lessR_len (l.take k) t; simp at this; omega
      have hsn := lessR_snoc (l.take k) x t
      rw [← hs] at hsn
      generalize hq2 : lessR (l.take k) t = q at *
      have HS := Lib.hid (And.intro hs (And.intro hsn hq2))
      clear hs hux hsn hq2
      by_cases hx : x = t
      · have hx2 : (x != t) = false := by simp [hx]
        have HX := Lib.hid hx
        clear hx
        go_wp2
        go_roundw
        case rel => exact ⟨k + 1, by omega, by go_num, by rw [HS.out.2.1, if_pos HX.out]; exact hm⟩
        case measure => simp [intOf]; omega
      · have hx2 : (x != t) = true := by simp [hx]
        have HX := Lib.hid hx
        clear hx
        go_wp2_with (at_builtin; go_must (refine wpList_append_oneG elemInt (by decide) rfl (.tmp 19) (.tmp 24) rfl rfl hm.own hm.le rfl rfl rfl (by simp [Value.oneCell']) (by omega) (by unfold maxLen; omega) ?_); intro v' w' hm' hg')
        go_roundw
        case rel =>
          refine ⟨k + 1, by omega, by go_num, ?_⟩
          have h3 := hm.app hg' hm'
          rw [HS.out.2.1, if_neg HX.out]
          simpa [i64s] using h3
        case measure => simp [intOf]; omega
    · have hkn : k = n := by omega
      have e : l.take k = l := List.take_of_length_le (by have := HL.out; omega)
      rw [e] at hm
      clear e hkn
      go_wp2
      go_ret
      exact ⟨_, rfl, hm⟩
theorem has_sl (l : List Int) (v : Value) (n : Nat) (t : Int) (w : World) (hr : Sl w v n (i64s l)) (hn : n ≤ 100000) :
    Calls Try.prog 12 #[v, .int .i64 t] w fun e w' => e = .returned (.bool (decide (t ∈ l))) ∧ w = w' := by
  obtain ⟨A, c, rfl, _, _, hr⟩ := hr.form
  exact has_any l A c n t w hr hn
theorem rheld_any (a b c d : Value) (x : Rf) (t : Int) (w : World) (h : RfAt w a b c d x) (hn : x.short 1000) :
    Calls Try.prog 29 #[.agg #[a, b, c, d], .int .i64 t] w fun e w' => e = .returned (.int .i64 (heldR x t)) ∧ Below w.heap.size w w' := by
  have hb := sub_alloc (Below.refl _ w) (.cells #[a, b, c, d] 42)
  have k0 := Blk.new_at w 42 #[a, b, c, d] (g := w.heap.size) rfl
  have c0 := k0.cell 0
  have c1 := k0.cell 1
  simp at c0 c1
  have h1 := h.up hb
  have HW := Lib.hid (has_sl x.wr b _ t _ h1.wr (by have := hn.wr; omega))
  have HR := Lib.hid (has_sl x.rd a _ t _ h1.rd (by have := hn.rd; omega))
  have hh : heldR x t = if t ∈ x.wr then 2 else if t ∈ x.rd then 1 else 0 := rfl
  have HH := Lib.hid hh
  clear hh h h1
  by_cases q1 : t ∈ x.wr
  · have e1 : heldR x t = 2 := by rw [HH.out, if_pos q1]
    rw [decide_eq_true q1] at HW
    have E1 := Lib.hid e1
    clear e1 q1
    go_enter Try.func29, Try.ntmps29
    go_wp2_with fail
    refine HW.out.mono ?_
    rintro e w1 ⟨rfl, rfl⟩
    go_wp2
    go_ret
    exact ⟨ret_i E1.out.symm, hb⟩
  · rw [decide_eq_false q1] at HW
    by_cases q2 : t ∈ x.rd
    · have e1 : heldR x t = 1 := by rw [HH.out, if_neg q1, if_pos q2]
      rw [decide_eq_true q2] at HR
      have E1 := Lib.hid e1
      clear e1 q1 q2
      go_enter Try.func29, Try.ntmps29
      go_wp2_with fail
      refine HW.out.mono ?_
      rintro e w1 ⟨rfl, rfl⟩
      go_wp2_with fail
      refine HR.out.mono ?_
      rintro e w1 ⟨rfl, rfl⟩
      go_wp2
      go_ret
      exact ⟨ret_i E1.out.symm, hb⟩
    · have e1 : heldR x t = 0 := by rw [HH.out, if_neg q1, if_neg q2]
      rw [decide_eq_false q2] at HR
      have E1 := Lib.hid e1
      clear e1 q1 q2
      go_enter Try.func29, Try.ntmps29
      go_wp2_with fail
      refine HW.out.mono ?_
      rintro e w1 ⟨rfl, rfl⟩
      go_wp2_with fail
      refine HR.out.mono ?_
      rintro e w1 ⟨rfl, rfl⟩
      go_wp2
      go_ret
      exact ⟨ret_i E1.out.symm, hb⟩
theorem rfits_any (a b c d : Value) (x : Rf) (y : Bool) (w : World) (h : RfAt w a b c d x) :
    Calls Try.prog 30 #[.agg #[a, b, c, d], .bool y] w fun e w' => e = .returned (.bool (fitsR x y)) ∧ Below w.heap.size w w' := by
  obtain ⟨A0, k0, rfl, _, _, _⟩ := h.rd.form
  obtain ⟨A1, k1, rfl, _, _, _⟩ := h.wr.form
  have hh : fitsR x y = (decide (x.wr = []) && (!y || decide (x.rd = []))) := rfl
  have HH := Lib.hid hh
  clear hh h
  rcases hq : x.wr with _ | ⟨u, s⟩
  · rw [hq] at HH
    have hx : ((x.rd.length : Int) == 0) = decide (x.rd = []) := by rcases x.rd with _ | ⟨u, s⟩ <;> simp; omega
    simp only [decide_true, Bool.true_and] at HH
    cases y
    · go_enter Try.func30, Try.ntmps30
      go_wp2
      go_ret
      exact ⟨ret_b (by rw [HH.out]; rfl), sub_alloc (Below.refl _ w) _⟩
    · go_enter Try.func30, Try.ntmps30
      go_wp2
      go_ret
      exact ⟨ret_b (by rw [HH.out]; simp [hx]), sub_alloc (Below.refl _ w) _⟩
  · rw [hq] at HH
    have hz : (((u :: s).length : Int) == 0) = false := by simp; omega
    generalize (u :: s).length = m at *
    go_enter Try.func30, Try.ntmps30
    go_wp2
    go_ret
    exact ⟨ret_b (by rw [HH.out]; simp), sub_alloc (Below.refl _ w) _⟩
/-- a lock as a result -/
def RfPost (w : World) (x : Rf) (v : Value) (w' : World) : Prop := ∃ a b c d, v = .agg #[a, b, c, d] ∧ RfAt w' a b c d x ∧ Below w.heap.size w w'
theorem rgive_any (a b c d : Value) (x : Rf) (t : Int) (y : Bool) (w : World) (h : RfAt w a b c d x) (hn : x.short 1000) :
    Calls Try.prog 31 #[.agg #[a, b, c, d], .int .i64 t, .bool y] w fun e w' => ∃ a' b', e = .returned (.agg #[a', b', c, d]) ∧ RfAt w' a' b' c d (giveR x (t, y)) ∧ Below w.heap.size w w' ∧ (a' = a ∨ ∀ k, a'.ownBlock = some k → w.heap.size ≤ k) ∧ (b' = b ∨ ∀ k, b'.ownBlock = some k → w.heap.size ≤ k) := by
  have hb := sub_alloc (sub_alloc (Below.refl _ w) (.cells #[a, b, c, d] 42)) (.cells #[.slice none 0 0, .slice none 0 0, .slice none 0 0, .slice none 0 0] 42)
  have k3 := (Blk.new_at w 42 #[a, b, c, d] (g := w.heap.size) rfl).alloc (.cells #[.slice none 0 0, .slice none 0 0, .slice none 0 0, .slice none 0 0] 42)
  have k6 := Blk.new_at (w.alloc (.cells #[a, b, c, d] 42)) 42 #[.slice none 0 0, .slice none 0 0, .slice none 0 0, .slice none 0 0] (g := w.heap.size + 1) (by simp)
  have h2 := h.up hb
  obtain ⟨A0, p0, rfl, _, _, _⟩ := h.rd.form
  obtain ⟨A1, p1, rfl, _, _, _⟩ := h.wr.form
  obtain ⟨A2, p2, rfl, _, _, _⟩ := h.ln.form
  obtain ⟨A3, p3, rfl, _, _, _⟩ := h.wt.form
  cases y
  · have HM := Lib.hid (more_any x.rd _ t _ h2.rd (by have := hn.rd; omega))
    go_enter Try.func31, Try.ntmps31
    go_wp2_with fail
    refine HM.out.mono ?_
    rintro e w1 ⟨v1, rfl, hm1⟩
    obtain ⟨Am, q1, rfl, _, _, _⟩ := hm1.form
    have j3 := k3.later hm1.below
    have j6 := k6.later hm1.below
    have c0 := j3.cell 0
    have c1 := j3.cell 1
    have c2 := j3.cell 2
    have c3 := j3.cell 3
    have z0 := j6.cell 0
    have z1 := j6.cell 1
    have z2 := j6.cell 2
    have z3 := j6.cell 3
    have f0 := j3.frozen 0
    have g0 := j6.frozen 0
    have g1 := j6.frozen 1
    have g2 := j6.frozen 2
    have g3 := j6.frozen 3
    simp at c0 c1 c2 c3 z0 z1 z2 z3
    have hzz := hm1.below.size
    simp at hzz
    clear k3 k6
    go_wp2
    have b1 : Below w.heap.size w w1 := hb.trans (hm1.below.mono hb.size)
    have bW := ((((b1.setCell (p := ⟨w.heap.size, 0, none⟩) (Nat.le_refl _) (Value.slice Am (x.rd.length + 1) q1)).setCell (p := ⟨w.heap.size + 1, 0, none⟩) (Nat.le_succ _) (Value.slice Am (x.rd.length + 1) q1)).setCell (p := ⟨w.heap.size + 1, 1, none⟩) (Nat.le_succ _) (Value.slice A1 x.wr.length p1)).setCell (p := ⟨w.heap.size + 1, 2, none⟩) (Nat.le_succ _) (Value.slice A2 x.line.length p2)).setCell (p := ⟨w.heap.size + 1, 3, none⟩) (Nat.le_succ _) (Value.slice A3 x.line.length p3)
    refine bodyPost_ret (v := .agg #[.slice Am (x.rd.length + 1) q1, .slice A1 x.wr.length p1, .slice A2 x.line.length p2, .slice A3 x.line.length p3]) (by simp [results, Try.results31, go_sem, z0, z1, z2, z3]) rfl ⟨_, _, rfl, ?_, bW, .inr fun k hk => Nat.le_trans hb.size (hm1.own.lt k hk).1, .inl rfl⟩
    have hR : RfAt w1 (.slice Am (x.rd.length + 1) q1) (.slice A1 x.wr.length p1) (.slice A2 x.line.length p2) (.slice A3 x.line.length p3) (giveR x (t, false)) := ⟨by have hq := Sl.of_own hm1.own; simpa [giveR] using hq, (h.up b1).wr, (h.up b1).ln, (h.up b1).wt⟩
    exact (hR.set_ j3 _).put4 (j6.far (p := ⟨w.heap.size, 0, none⟩) (by simp) _) _ _ _ _
  · have HM := Lib.hid (more_any x.wr _ t _ h2.wr (by have := hn.wr; omega))
    go_enter Try.func31, Try.ntmps31
    go_wp2_with fail
    refine HM.out.mono ?_
    rintro e w1 ⟨v1, rfl, hm1⟩
    obtain ⟨Am, q1, rfl, _, _, _⟩ := hm1.form
    have j3 := k3.later hm1.below
    have j6 := k6.later hm1.below
    have c0 := j3.cell 0
    have c1 := j3.cell 1
    have c2 := j3.cell 2
    have c3 := j3.cell 3
    have z0 := j6.cell 0
    have z1 := j6.cell 1
    have z2 := j6.cell 2
    have z3 := j6.cell 3
    have f0 := j3.frozen 1
    have g0 := j6.frozen 0
    have g1 := j6.frozen 1
    have g2 := j6.frozen 2
    have g3 := j6.frozen 3
    simp at c0 c1 c2 c3 z0 z1 z2 z3
    have hzz := hm1.below.size
    simp at hzz
    clear k3 k6
    go_wp2
    have b1 : Below w.heap.size w w1 := hb.trans (hm1.below.mono hb.size)
    have bW := ((((b1.setCell (p := ⟨w.heap.size, 1, none⟩) (Nat.le_refl _) (Value.slice Am (x.wr.length + 1) q1)).setCell (p := ⟨w.heap.size + 1, 0, none⟩) (Nat.le_succ _) (Value.slice A0 x.rd.length p0)).setCell (p := ⟨w.heap.size + 1, 1, none⟩) (Nat.le_succ _) (Value.slice Am (x.wr.length + 1) q1)).setCell (p := ⟨w.heap.size + 1, 2, none⟩) (Nat.le_succ _) (Value.slice A2 x.line.length p2)).setCell (p := ⟨w.heap.size + 1, 3, none⟩) (Nat.le_succ _) (Value.slice A3 x.line.length p3)
    refine bodyPost_ret (v := .agg #[.slice A0 x.rd.length p0, .slice Am (x.wr.length + 1) q1, .slice A2 x.line.length p2, .slice A3 x.line.length p3]) (by simp [results, Try.results31, go_sem, z0, z1, z2, z3]) rfl ⟨_, _, rfl, ?_, bW, .inl rfl, .inr fun k hk => Nat.le_trans hb.size (hm1.own.lt k hk).1⟩
    have hR : RfAt w1 (.slice A0 x.rd.length p0) (.slice Am (x.wr.length + 1) q1) (.slice A2 x.line.length p2) (.slice A3 x.line.length p3) (giveR x (t, true)) := ⟨(h.up b1).rd, by have hq := Sl.of_own hm1.own; simpa [giveR] using hq, (h.up b1).ln, (h.up b1).wt⟩
    exact (hR.set_ j3 _).put4 (j6.far (p := ⟨w.heap.size, 1, none⟩) (by simp) _) _ _ _ _
end Go.Proofs.Ytlkappmielllcaa
