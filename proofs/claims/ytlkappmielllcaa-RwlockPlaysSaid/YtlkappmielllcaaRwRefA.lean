/-
  The reference's Ask on locks, walked. Conditions: short lists.
-/
import Derived.Test.YtlkappmielllcaaRwRefW
namespace Go.Fw
open Go.RowKit
set_option linter.unusedVariables false
/-- the two blocks that a call laid first: its argument and its result -/
structure Two (g3 g6 : Nat) (t : TypeId) (a b c d : Value) (w : World) : Prop where
  one : Blk w g3 t #[a, b, c, d]
  two : Blk w g6 t #[.slice none 0 0, .slice none 0 0, .slice none 0 0, .slice none 0 0]
theorem two_new (w : World) (t : TypeId) (a b c d : Value) : Two w.heap.size (w.heap.size + 1) t a b c d ((w.alloc (.cells #[a, b, c, d] t)).alloc (.cells #[.slice none 0 0, .slice none 0 0, .slice none 0 0, .slice none 0 0] t)) :=
  ⟨(Blk.new_at w t #[a, b, c, d] rfl).alloc _, Blk.new_at _ _ _ (by simp)⟩
theorem Two.later {g3 g6 : Nat} {t : TypeId} {a b c d : Value} {w w' : World} (h : Two g3 g6 t a b c d w) (hb : Below w.heap.size w w') : Two g3 g6 t a b c d w' := ⟨h.one.later hb, h.two.later hb⟩
theorem Two.facts {g3 g6 : Nat} {t : TypeId} {a b c d : Value} {w : World} (h : Two g3 g6 t a b c d w) :
    w.cell? ⟨g3, 0, none⟩ = some a ∧ w.cell? ⟨g3, 1, none⟩ = some b ∧ w.cell? ⟨g3, 2, none⟩ = some c ∧ w.cell? ⟨g3, 3, none⟩ = some d ∧
    w.cell? ⟨g6, 0, none⟩ = some (.slice none 0 0) ∧ w.cell? ⟨g6, 1, none⟩ = some (.slice none 0 0) ∧ w.cell? ⟨g6, 2, none⟩ = some (.slice none 0 0) ∧ w.cell? ⟨g6, 3, none⟩ = some (.slice none 0 0) :=
  ⟨by rw [h.one.cell]; rfl, by rw [h.one.cell]; rfl, by rw [h.one.cell]; rfl, by rw [h.one.cell]; rfl, by rw [h.two.cell]; rfl, by rw [h.two.cell]; rfl, by rw [h.two.cell]; rfl, by rw [h.two.cell]; rfl⟩
theorem Two.free {g3 g6 : Nat} {t : TypeId} {a b c d : Value} {w : World} (h : Two g3 g6 t a b c d w) :
    w.frozen? ⟨g3, 0, none⟩ = false ∧ w.frozen? ⟨g3, 1, none⟩ = false ∧ w.frozen? ⟨g3, 2, none⟩ = false ∧ w.frozen? ⟨g3, 3, none⟩ = false ∧
    w.frozen? ⟨g6, 0, none⟩ = false ∧ w.frozen? ⟨g6, 1, none⟩ = false ∧ w.frozen? ⟨g6, 2, none⟩ = false ∧ w.frozen? ⟨g6, 3, none⟩ = false :=
  ⟨h.one.frozen _, h.one.frozen _, h.one.frozen _, h.one.frozen _, h.two.frozen _, h.two.frozen _, h.two.frozen _, h.two.frozen _⟩
theorem Two.set2 {g3 g6 : Nat} {t : TypeId} {a b c d : Value} {w : World} (h : Two g3 g6 t a b c d w) (hne : g6 ≠ g3) (u : Value) : Two g3 g6 t a b u d (w.setCell ⟨g3, 2, none⟩ u) :=
  ⟨by have hb := h.one.set_ 2 u; simpa using hb, h.two.far (p := ⟨g3, 2, none⟩) hne u⟩
end Go.Fw
namespace Go.Proofs.Ytlkappmielllcaa
open Go.RowKit Go.Fw
set_option maxHeartbeats 1000000
set_option maxRecDepth 4000
set_option linter.unusedVariables false
set_option linter.unusedSimpArgs false
def RAskPost (w : World) (r : Rf × Bool × Int) (e : Ending) (w' : World) : Prop := ∃ v, e = .returned (.tuple #[v, .bool r.2.1, .int .i64 r.2.2]) ∧ RfPost w r.1 v w'
theorem rask_any (a b c d : Value) (x : Rf) (t : Int) (y : Bool) (w : World) (h : RfAt w a b c d x) (hn : x.short 1000) (ht : -9223372036854775808 ≤ t ∧ t ≤ 9223372036854775807) :
    Calls Try.prog 14 #[.agg #[a, b, c, d], .int .i64 t, .bool y] w (RAskPost w (askR x t y)) := by
  obtain ⟨A0, p0, rfl, _, _, _⟩ := h.rd.form
  obtain ⟨A1, p1, rfl, _, _, _⟩ := h.wr.form
  obtain ⟨A2, p2, rfl, _, _, _⟩ := h.ln.form
  obtain ⟨A3, p3, rfl, _, _, _⟩ := h.wt.form
  have hb := sub_alloc (sub_alloc (Below.refl _ w) (.cells #[.slice A0 x.rd.length p0, .slice A1 x.wr.length p1, .slice A2 x.line.length p2, .slice A3 x.line.length p3] 42)) (.cells #[.slice none 0 0, .slice none 0 0, .slice none 0 0, .slice none 0 0] 42)
  have k36 := two_new w 42 (.slice A0 x.rd.length p0) (.slice A1 x.wr.length p1) (.slice A2 x.line.length p2) (.slice A3 x.line.length p3)
  have h2 := h.up hb
  have hh : askR x t y = if t < 0 ∨ 31 < t then (x, false, 1) else if heldR x t ≠ 0 ∨ t ∈ tsk x.line then (x, false, 15) else if x.line = [] ∧ fitsR x y = true then (giveR x (t, y), true, 0) else ({ x with line := x.line ++ [(t, y)] }, false, 0) := rfl
  have HH := Lib.hid hh
  have HT := Lib.hid ht
  clear hh ht
  by_cases ht0 : t < 0 ∨ 31 < t
  · have HX : Hid (askR x t y = (x, false, 1)) := by show _ = _; rw [HH.out, if_pos ht0]
    rcases ht0 with ht0 | ht0
    · go_enter Try.func14, Try.ntmps14
      go_wp2
      refine bodyPost_ret (v := .tuple #[.agg #[.slice A0 x.rd.length p0, .slice A1 x.wr.length p1, .slice A2 x.line.length p2, .slice A3 x.line.length p3], .bool false, .int .i64 1]) (by simp [results, Try.results14, go_sem]) rfl ?_
      rw [HX.out]
      exact ⟨_, rfl, _, _, _, _, rfl, h.up (sub_alloc (sub_alloc (Below.refl _ _) _) _), sub_alloc (sub_alloc (Below.refl _ _) _) _⟩
    · have ht1 : ¬ t < 0 := by omega
      go_enter Try.func14, Try.ntmps14
      go_wp2
      refine bodyPost_ret (v := .tuple #[.agg #[.slice A0 x.rd.length p0, .slice A1 x.wr.length p1, .slice A2 x.line.length p2, .slice A3 x.line.length p3], .bool false, .int .i64 1]) (by simp [results, Try.results14, go_sem]) rfl ?_
      rw [HX.out]
      exact ⟨_, rfl, _, _, _, _, rfl, h.up (sub_alloc (sub_alloc (Below.refl _ _) _) _), sub_alloc (sub_alloc (Below.refl _ _) _) _⟩
  have ht1 : ¬ t < 0 := by omega
  have ht2 : ¬ 31 < t := by omega
  have hha := rheld_any _ _ _ _ x t _ h2 hn
  by_cases hz : heldR x t ≠ 0
  · have HX : Hid (askR x t y = (x, false, 15)) := by show _ = _; rw [HH.out, if_neg ht0, if_pos (.inl hz)]
    have hz2 : (heldR x t != 0) = true := by simpa using hz
    generalize heldR x t = hv at *
    have HA := Lib.hid hha
    clear hha hz ht0
    go_enter Try.func14, Try.ntmps14
    go_wp2_with fail
    refine HA.out.mono ?_
    rintro e w1 ⟨rfl, hb1⟩
    obtain ⟨c0, c1, c2, c3, z0, z1, z2, z3⟩ := (k36.later hb1).facts
    obtain ⟨f0, f1, f2, f3, g0, g1, g2, g3⟩ := (k36.later hb1).free
    have bW := below_put4 (hb.trans (hb1.mono hb.size)) (Nat.le_succ _ : w.heap.size ≤ w.heap.size + 1) (.slice A0 x.rd.length p0) (.slice A1 x.wr.length p1) (.slice A2 x.line.length p2) (.slice A3 x.line.length p3)
    have BW := Lib.hid (And.intro bW (h.up bW))
    clear bW h2 HH h hb hb1
    go_wp2
    refine bodyPost_ret (v := .tuple #[.agg #[.slice A0 x.rd.length p0, .slice A1 x.wr.length p1, .slice A2 x.line.length p2, .slice A3 x.line.length p3], .bool false, .int .i64 15]) (by simp [results, Try.results14, go_sem, z0, z1, z2, z3]) rfl ?_
    rw [HX.out]
    exact ⟨_, rfl, _, _, _, _, rfl, BW.out.2, BW.out.1⟩
  have hz0 : heldR x t = 0 := by omega
  rw [hz0] at hha
  have HA := Lib.hid hha
  clear hha
  have hmem : ∀ w', Below ((w.alloc (.cells #[.slice A0 x.rd.length p0, .slice A1 x.wr.length p1, .slice A2 x.line.length p2, .slice A3 x.line.length p3] 42)).alloc (.cells #[.slice none 0 0, .slice none 0 0, .slice none 0 0, .slice none 0 0] 42)).heap.size ((w.alloc (.cells #[.slice A0 x.rd.length p0, .slice A1 x.wr.length p1, .slice A2 x.line.length p2, .slice A3 x.line.length p3] 42)).alloc (.cells #[.slice none 0 0, .slice none 0 0, .slice none 0 0, .slice none 0 0] 42)) w' → Calls Try.prog 12 #[.slice A2 x.line.length p2, .int .i64 t] w' fun e w2 => e = .returned (.bool (decide (t ∈ tsk x.line))) ∧ w' = w2 :=
    fun w' hb' => has_sl (tsk x.line) _ _ t w' (h2.up hb').ln (by have := hn.ln; omega)
  have HM := Lib.hid hmem
  clear hmem
  by_cases hl : t ∈ tsk x.line
  · have HX : Hid (askR x t y = (x, false, 15)) := by show _ = _; rw [HH.out, if_neg ht0, if_pos (.inr hl)]
    have HD : Hid (decide (t ∈ tsk x.line) = true) := Lib.hid (by simpa using hl)
    clear hz hz0 ht0 hl
    go_enter Try.func14, Try.ntmps14
    go_wp2_with fail
    refine HA.out.mono ?_
    rintro e w1 ⟨rfl, hb1⟩
    obtain ⟨c0, c1, c2, c3, z0, z1, z2, z3⟩ := (k36.later hb1).facts
    obtain ⟨f0, f1, f2, f3, g0, g1, g2, g3⟩ := (k36.later hb1).free
    have bW := below_put4 (hb.trans (hb1.mono hb.size)) (Nat.le_succ _ : w.heap.size ≤ w.heap.size + 1) (.slice A0 x.rd.length p0) (.slice A1 x.wr.length p1) (.slice A2 x.line.length p2) (.slice A3 x.line.length p3)
    have BW := Lib.hid (And.intro bW (And.intro (h.up bW) hb1))
    clear bW h2 HH h hb hb1
    go_wp2_with fail
    refine (HM.out w1 BW.out.2.2).mono ?_
    rintro e w2 ⟨rfl, rfl⟩
    rw [HD.out]
    go_wp2
    refine bodyPost_ret (v := .tuple #[.agg #[.slice A0 x.rd.length p0, .slice A1 x.wr.length p1, .slice A2 x.line.length p2, .slice A3 x.line.length p3], .bool false, .int .i64 15]) (by simp [results, Try.results14, go_sem, z0, z1, z2, z3]) rfl ?_
    rw [HX.out]
    exact ⟨_, rfl, _, _, _, _, rfl, BW.out.2.1, BW.out.1⟩
  have HD : Hid (decide (t ∈ tsk x.line) = false) := Lib.hid (by simpa using hl)
  have HX : Hid (askR x t y = if x.line = [] ∧ fitsR x y = true then (giveR x (t, y), true, 0) else ({ x with line := x.line ++ [(t, y)] }, false, 0)) := by
    show _ = _
    rw [HH.out, if_neg ht0, if_neg (fun e => e.elim hz hl)]
  clear hz hz0 ht0 hl HH
  by_cases hz : x.line.length = 0
  · cases hf : fitsR x y
    · have HX2 : Hid (askR x t y = ({ x with line := x.line ++ [(t, y)] }, false, 0)) := by show _ = _; rw [HX.out, if_neg (fun e => by rw [hf] at e; exact absurd e.2 (by decide))]
      have HF := Lib.hid hf
      have hz2 : ((x.line.length : Int) == 0) = true := by rw [hz]; rfl
      have HZ := Lib.hid hz
      clear hf hz
      go_enter Try.func14, Try.ntmps14
      go_wp2_with fail
      refine HA.out.mono ?_
      rintro e w1 ⟨rfl, hb1⟩
      have K1 := k36.later hb1
      obtain ⟨c0, c1, c2, c3, z0, z1, z2, z3⟩ := K1.facts
      have H1 := Lib.hid (And.intro hb1 (And.intro K1 (h2.up hb1)))
      have B1 := Lib.hid (hb.trans (hb1.mono hb.size))
      clear hb1 K1 h2 hb k36
      go_wp2_with fail
      refine (HM.out w1 H1.out.1).mono ?_
      rintro e w2 ⟨rfl, rfl⟩
      rw [HD.out]
      go_wp2_with fail
      refine (rfits_any _ _ _ _ x y w1 H1.out.2.2).mono ?_
      rintro e w2 ⟨rfl, hb2⟩
      rw [HF.out]
      have K2 := H1.out.2.1.later hb2
      clear c0 c1 c2 c3 z0 z1 z2 z3
      obtain ⟨c0, c1, c2, c3, z0, z1, z2, z3⟩ := K2.facts
      have HK := Lib.hid K2
      have HR := Lib.hid (H1.out.2.2.up hb2)
      have HB := Lib.hid (B1.out.trans (hb2.mono B1.out.size))
      clear hb2 K2
      go_wp2_with fail
      refine (more_any (tsk x.line) _ t w2 (by rw [tsk_length]; exact HR.out.ln) (by rw [tsk_length]; have := hn.ln; omega)).mono ?_
      rintro e w4 ⟨v1, rfl, hm4⟩
      obtain ⟨Am, q1, rfl, _, _, _⟩ := hm4.form
      have K4 := HK.out.later hm4.below
      clear c0 c1 c2 c3 z0 z1 z2 z3
      obtain ⟨c0, c1, c2, c3, z0, z1, z2, z3⟩ := K4.facts
      obtain ⟨f0, f1, f2, f3, g0, g1, g2, g3⟩ := K4.free
      have hR4 := HR.out.up hm4.below
      have hB4 := HB.out.trans (hm4.below.mono HB.out.size)
      have hL4 := (Sl.of_own hm4.own).set_ (i := 2) K4.one (by decide) (.slice Am ((tsk x.line).length + 1) q1)
      have hR5 := hR4.set_ (i := 2) K4.one (.slice Am ((tsk x.line).length + 1) q1)
      have hB5 := hB4.setCell (p := ⟨w.heap.size, 2, none⟩) (Nat.le_refl _) (.slice Am ((tsk x.line).length + 1) q1)
      have K5 := K4.set2 (by simp) (.slice Am ((tsk x.line).length + 1) q1)
      have HH5 := Lib.hid (And.intro hL4 (And.intro hR5 (And.intro hB5 K5)))
      clear hL4 hR5 hB5 K5 K4 hR4 hB4 hm4
      go_upto_region 8 with fail
      generalize (w4.setCell ⟨w.heap.size, 2, none⟩ (.slice Am ((tsk x.line).length + 1) q1)) = w5 at *
      clear c0 c1 c2 c3 z0 z1 z2 z3 f0 f1 f2 f3 g0 g1 g2 g3
      obtain ⟨c0, c1, c2, c3, z0, z1, z2, z3⟩ := HH5.out.2.2.2.facts
      obtain ⟨f0, f1, f2, f3, g0, g1, g2, g3⟩ := HH5.out.2.2.2.free
      have hbe := Blk.new_at w5 4 #[] (g := w5.heap.size) rfl
      have ho := own_empty (B := w5.heap.size) (s := 1) hbe (Nat.le_refl _)
      obtain ⟨A3', p3', e3, _, _, hr3⟩ := HH5.out.2.1.wt.form
      injection e3 with e31 _ e32
      subst e31 e32
      have hr4 := hr3.alloc (Nat.le_refl _) (.cells #[] 4)
      obtain ⟨i, hi, hz1, hsz, hby⟩ := info_parts elemBool.info
      have hone := bls_one (wts x.line)
      have hln := hn.ln
      have hlt5 : w.heap.size + 1 < w5.heap.size := HH5.out.2.2.2.two.lt
      have hlt6 : w.heap.size < w5.heap.size := HH5.out.2.2.2.one.lt
      go_wp2_with (at_builtin; first | ((refine wpList_append_any (w5.alloc (.cells #[] 4)) rfl (.tmp 45) (.tmp 47) _ rfl w5.heap.size 4 i (.bool false) 1 1 elemBool.under hi hz1 hsz hby rfl (by decide) _ 0 [] rfl ho w5.heap.size A3 x.line.length p3 (bls (wts x.line)) rfl hr4 hone (by unfold maxLen; omega) (by omega) (by simp) ?_); intro v6 w6 hm6 hg6 _; have hb6 : Below w5.heap.size w5 w6 := (sub_alloc (Below.refl _ w5) (.cells #[] 4)).grown hg6 (by simp) fun k hk => (ho.lt k hk).1; have hm62 : w6.ownsRow w5.heap.size 4 1 v6 x.line.length (bls (wts x.line)) := by simpa using hm6) | ((refine wpList_append_oneG elemBool (by decide) rfl (.tmp 48) (.tmp 50) rfl rfl hm62 hb6.size rfl rfl rfl (by simp [Value.oneCell']) (by omega) (by unfold maxLen; omega) ?_); intro v7 w7 hm7 hg7; obtain ⟨A7, p7, rfl, _, _⟩ := own_form hm7; have hb7 : Below w5.heap.size w5 w7 := hb6.grown hg7 hb6.size (fun k hk => (hm62.lt k hk).1); have K7 := HH5.out.2.2.2.later hb7; obtain ⟨c0, c1, c2, c3, z0, z1, z2, z3⟩ := K7.facts; obtain ⟨f0, f1, f2, f3, g0, g1, g2, g3⟩ := K7.free; have H7 := Lib.hid (And.intro K7 (And.intro hb7 hm7)); clear K7 hb7 hm7 hb6 hm62 hm6))
      have hR7 : RfAt w7 (.slice A0 x.rd.length p0) (.slice A1 x.wr.length p1) (.slice Am ((tsk x.line).length + 1) q1) (.slice A7 (x.line.length + 1) p7) { x with line := x.line ++ [(t, y)] } :=
        ⟨(HH5.out.2.1.up H7.out.2.1).rd, (HH5.out.2.1.up H7.out.2.1).wr, by have hq := HH5.out.1.up H7.out.2.1; simpa [tsk] using hq, by have hq := SlB.of_own H7.out.2.2; simpa [bls, wts] using hq⟩
      refine bodyPost_ret (v := .tuple #[.agg #[.slice A0 x.rd.length p0, .slice A1 x.wr.length p1, .slice Am ((tsk x.line).length + 1) q1, .slice A7 (x.line.length + 1) p7], .bool false, .int .i64 0]) (by simp [results, Try.results14, go_sem, z0, z1, z2, z3]) rfl ?_
      rw [HX2.out]
      exact ⟨_, rfl, _, _, _, _, rfl, (hR7.set_ (i := 3) H7.out.1.one _).put4 (H7.out.1.two.far (p := ⟨w.heap.size, 3, none⟩) (by simp) _) _ _ _ _, below_put4 ((HH5.out.2.2.1.trans (H7.out.2.1.mono HH5.out.2.2.1.size)).setCell (p := ⟨w.heap.size, 3, none⟩) (Nat.le_refl _) _) (Nat.le_succ _) _ _ _ _⟩
    · have HX2 : Hid (askR x t y = (giveR x (t, y), true, 0)) := by show _ = _; rw [HX.out, if_pos ⟨List.eq_nil_of_length_eq_zero hz, hf⟩]
      have HF := Lib.hid hf
      have hz2 : ((x.line.length : Int) == 0) = true := by rw [hz]; rfl
      have HZ := Lib.hid hz
      clear hf hz
      go_enter Try.func14, Try.ntmps14
      go_wp2_with fail
      refine HA.out.mono ?_
      rintro e w1 ⟨rfl, hb1⟩
      have K1 := k36.later hb1
      obtain ⟨c0, c1, c2, c3, z0, z1, z2, z3⟩ := K1.facts
      have H1 := Lib.hid (And.intro hb1 (And.intro K1 (h2.up hb1)))
      have B1 := Lib.hid (hb.trans (hb1.mono hb.size))
      clear hb1 K1 h2 hb k36
      go_wp2_with fail
      refine (HM.out w1 H1.out.1).mono ?_
      rintro e w2 ⟨rfl, rfl⟩
      rw [HD.out]
      go_wp2_with fail
      refine (rfits_any _ _ _ _ x y w1 H1.out.2.2).mono ?_
      rintro e w2 ⟨rfl, hb2⟩
      rw [HF.out]
      have K2 := H1.out.2.1.later hb2
      clear c0 c1 c2 c3 z0 z1 z2 z3
      obtain ⟨c0, c1, c2, c3, z0, z1, z2, z3⟩ := K2.facts
      have H2 := Lib.hid (And.intro K2 (H1.out.2.2.up hb2))
      have B2 := Lib.hid (B1.out.trans (hb2.mono B1.out.size))
      clear hb2 K2
      go_wp2_with fail
      refine (rgive_any _ _ _ _ x t y w2 H2.out.2 hn).mono ?_
      rintro e w3 ⟨a', b', rfl, h3, hb3, _, _⟩
      obtain ⟨E0, q0, rfl, _, _, _⟩ := h3.rd.form
      obtain ⟨E1, q1, rfl, _, _, _⟩ := h3.wr.form
      have K3 := H2.out.1.later hb3
      clear c0 c1 c2 c3 z0 z1 z2 z3
      obtain ⟨_, _, _, _, z0, z1, z2, z3⟩ := K3.facts
      obtain ⟨_, _, _, _, g0, g1, g2, g3⟩ := K3.free
      have bW := B2.out.trans (hb3.mono B2.out.size)
      have HW3 := Lib.hid h3
      have HB3 := Lib.hid bW
      have HK3 := Lib.hid K3
      clear hb3 h3 bW K3
      go_wp2
      refine bodyPost_ret (v := .tuple #[.agg #[.slice E0 (giveR x (t, y)).rd.length q0, .slice E1 (giveR x (t, y)).wr.length q1, .slice A2 x.line.length p2, .slice A3 x.line.length p3], .bool true, .int .i64 0]) (by simp [results, Try.results14, go_sem, z0, z1, z2, z3]) rfl ?_
      rw [HX2.out]
      exact ⟨_, rfl, _, _, _, _, rfl, HW3.out.put4 HK3.out.two _ _ _ _, below_put4 HB3.out (Nat.le_succ _) _ _ _ _⟩
  · have HX2 : Hid (askR x t y = ({ x with line := x.line ++ [(t, y)] }, false, 0)) := by show _ = _; rw [HX.out, if_neg (fun e => hz (by rw [e.1]; rfl))]
    have hz2 : ((x.line.length : Int) == 0) = false := by revert hz; generalize x.line.length = n9; intro hz; simp; omega
    clear hz
    go_enter Try.func14, Try.ntmps14
    go_wp2_with fail
    refine HA.out.mono ?_
    rintro e w1 ⟨rfl, hb1⟩
    have K1 := k36.later hb1
    obtain ⟨c0, c1, c2, c3, z0, z1, z2, z3⟩ := K1.facts
    have H1 := Lib.hid (And.intro hb1 (And.intro K1 (h2.up hb1)))
    have B1 := Lib.hid (hb.trans (hb1.mono hb.size))
    clear hb1 K1 h2 hb k36
    go_wp2_with fail
    refine (HM.out w1 H1.out.1).mono ?_
    rintro e w2 ⟨rfl, rfl⟩
    rw [HD.out]
    obtain ⟨w2, rfl⟩ : ∃ w2, w2 = w1 := ⟨_, rfl⟩
    have HK := Lib.hid H1.out.2.1
    have HR := Lib.hid H1.out.2.2
    have HB := Lib.hid B1.out
    go_wp2_with fail
    refine (more_any (tsk x.line) _ t w2 (by rw [tsk_length]; exact HR.out.ln) (by rw [tsk_length]; have := hn.ln; omega)).mono ?_
    rintro e w4 ⟨v1, rfl, hm4⟩
    obtain ⟨Am, q1, rfl, _, _, _⟩ := hm4.form
    have K4 := HK.out.later hm4.below
    clear c0 c1 c2 c3 z0 z1 z2 z3
    obtain ⟨c0, c1, c2, c3, z0, z1, z2, z3⟩ := K4.facts
    obtain ⟨f0, f1, f2, f3, g0, g1, g2, g3⟩ := K4.free
    have hR4 := HR.out.up hm4.below
    have hB4 := HB.out.trans (hm4.below.mono HB.out.size)
    have hL4 := (Sl.of_own hm4.own).set_ (i := 2) K4.one (by decide) (.slice Am ((tsk x.line).length + 1) q1)
    have hR5 := hR4.set_ (i := 2) K4.one (.slice Am ((tsk x.line).length + 1) q1)
    have hB5 := hB4.setCell (p := ⟨w.heap.size, 2, none⟩) (Nat.le_refl _) (.slice Am ((tsk x.line).length + 1) q1)
    have K5 := K4.set2 (by simp) (.slice Am ((tsk x.line).length + 1) q1)
    have HH5 := Lib.hid (And.intro hL4 (And.intro hR5 (And.intro hB5 K5)))
    clear hL4 hR5 hB5 K5 K4 hR4 hB4 hm4
    go_upto_region 8 with fail
    generalize (w4.setCell ⟨w.heap.size, 2, none⟩ (.slice Am ((tsk x.line).length + 1) q1)) = w5 at *
    clear c0 c1 c2 c3 z0 z1 z2 z3 f0 f1 f2 f3 g0 g1 g2 g3
    obtain ⟨c0, c1, c2, c3, z0, z1, z2, z3⟩ := HH5.out.2.2.2.facts
    obtain ⟨f0, f1, f2, f3, g0, g1, g2, g3⟩ := HH5.out.2.2.2.free
    have hbe := Blk.new_at w5 4 #[] (g := w5.heap.size) rfl
    have ho := own_empty (B := w5.heap.size) (s := 1) hbe (Nat.le_refl _)
    obtain ⟨A3', p3', e3, _, _, hr3⟩ := HH5.out.2.1.wt.form
    injection e3 with e31 _ e32
    subst e31 e32
    have hr4 := hr3.alloc (Nat.le_refl _) (.cells #[] 4)
    obtain ⟨i, hi, hz1, hsz, hby⟩ := info_parts elemBool.info
    have hone := bls_one (wts x.line)
    have hln := hn.ln
    have hlt5 : w.heap.size + 1 < w5.heap.size := HH5.out.2.2.2.two.lt
    have hlt6 : w.heap.size < w5.heap.size := HH5.out.2.2.2.one.lt
    go_wp2_with (at_builtin; first | ((refine wpList_append_any (w5.alloc (.cells #[] 4)) rfl (.tmp 45) (.tmp 47) _ rfl w5.heap.size 4 i (.bool false) 1 1 elemBool.under hi hz1 hsz hby rfl (by decide) _ 0 [] rfl ho w5.heap.size A3 x.line.length p3 (bls (wts x.line)) rfl hr4 hone (by unfold maxLen; omega) (by omega) (by simp) ?_); intro v6 w6 hm6 hg6 _; have hb6 : Below w5.heap.size w5 w6 := (sub_alloc (Below.refl _ w5) (.cells #[] 4)).grown hg6 (by simp) fun k hk => (ho.lt k hk).1; have hm62 : w6.ownsRow w5.heap.size 4 1 v6 x.line.length (bls (wts x.line)) := by simpa using hm6) | ((refine wpList_append_oneG elemBool (by decide) rfl (.tmp 48) (.tmp 50) rfl rfl hm62 hb6.size rfl rfl rfl (by simp [Value.oneCell']) (by omega) (by unfold maxLen; omega) ?_); intro v7 w7 hm7 hg7; obtain ⟨A7, p7, rfl, _, _⟩ := own_form hm7; have hb7 : Below w5.heap.size w5 w7 := hb6.grown hg7 hb6.size (fun k hk => (hm62.lt k hk).1); have K7 := HH5.out.2.2.2.later hb7; obtain ⟨c0, c1, c2, c3, z0, z1, z2, z3⟩ := K7.facts; obtain ⟨f0, f1, f2, f3, g0, g1, g2, g3⟩ := K7.free; have H7 := Lib.hid (And.intro K7 (And.intro hb7 hm7)); clear K7 hb7 hm7 hb6 hm62 hm6))
    have hR7 : RfAt w7 (.slice A0 x.rd.length p0) (.slice A1 x.wr.length p1) (.slice Am ((tsk x.line).length + 1) q1) (.slice A7 (x.line.length + 1) p7) { x with line := x.line ++ [(t, y)] } :=
      ⟨(HH5.out.2.1.up H7.out.2.1).rd, (HH5.out.2.1.up H7.out.2.1).wr, by have hq := HH5.out.1.up H7.out.2.1; simpa [tsk] using hq, by have hq := SlB.of_own H7.out.2.2; simpa [bls, wts] using hq⟩
    refine bodyPost_ret (v := .tuple #[.agg #[.slice A0 x.rd.length p0, .slice A1 x.wr.length p1, .slice Am ((tsk x.line).length + 1) q1, .slice A7 (x.line.length + 1) p7], .bool false, .int .i64 0]) (by simp [results, Try.results14, go_sem, z0, z1, z2, z3]) rfl ?_
    rw [HX2.out]
    exact ⟨_, rfl, _, _, _, _, rfl, (hR7.set_ (i := 3) H7.out.1.one _).put4 (H7.out.1.two.far (p := ⟨w.heap.size, 3, none⟩) (by simp) _) _ _ _ _, below_put4 ((HH5.out.2.2.1.trans (H7.out.2.1.mono HH5.out.2.2.1.size)).setCell (p := ⟨w.heap.size, 3, none⟩) (Nat.le_refl _) _) (Nat.le_succ _) _ _ _ _⟩
end Go.Proofs.Ytlkappmielllcaa
