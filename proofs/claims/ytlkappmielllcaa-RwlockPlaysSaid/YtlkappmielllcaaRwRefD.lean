/-
  The reference's Drop on locks, walked. Conditions: short lists.
-/
import Derived.Test.YtlkappmielllcaaRwRefA
namespace Go.Fw
open Go.RowKit
set_option linter.unusedVariables false
theorem TailRow.rest1g {w : World} {B n : Nat} {e : TypeId} {v u : Value} {us : List Value} (h : TailRow w B e 1 v (n + 1) (u :: us)) :
    ∃ g off cap o2, v = .slice (some ⟨g, off, none⟩) (n + 1) (cap + 1) ∧ n ≤ cap ∧ cap < maxLen ∧ w.cell? ⟨g, off, none⟩ = some u ∧ (cap = 0 ∧ o2 = off ∨ cap ≠ 0 ∧ o2 = off + 1) ∧
      TailRow w B e 1 (.slice (some ⟨g, o2, none⟩) n cap) n us := by
  obtain ⟨g, off, cap, hv, h1, h2, h3⟩ := TailRow.rest (n := n) h
  have hc : w.cell? ⟨g, off, none⟩ = some u := by
    obtain ⟨A, c, e, _, _, hr⟩ := h.form
    obtain ⟨b, o, hA, _, hx⟩ := hr.base_ (k := 0) (by decide) (by simp)
    have := hx 0 u (by simp)
    rw [hv] at e
    injection e with e _ _
    rw [hA] at e
    injection e with e
    injection e with e1 e2
    subst e1 e2
    simpa using this
  by_cases h0 : cap = 0
  · refine ⟨g, off, cap, off, hv, h1, h2, hc, .inl ⟨h0, rfl⟩, ?_⟩
    rw [if_pos (by omega)] at h3
    exact h3
  · refine ⟨g, off, cap, off + 1, hv, h1, h2, hc, .inr ⟨h0, rfl⟩, ?_⟩
    rw [if_neg (by omega)] at h3
    exact h3
/-- one element more; the row's block is the elder one or a new one -/
theorem wpList_append_oneN {P : Program} {s : Nat} {w : World} {ops : Array Oper} {rest : List Oper} {o : Oper} {a : Act} {Q : Exit → Act → World → Prop} {t e e' : TypeId} {z : Value} {bytes : Nat} (hT : ElemS P t e z s bytes) (hs0 : 0 < s)
    (hgd : o.guard = none) (sl x : Operand) (ho : o.op = .call { callee := .builtin .append, args := #[sl, x], argTypes := #[t, t] })
    {v : Value} {n B g : Nat} {xs : List Value} (hs : a.eval sl = v) (hm : w.ownsRow B e s v n xs) (hB : B ≤ w.heap.size) (hg : g = w.heap.size) {cs : Array Value} (hx : a.eval x = .slice (some ⟨g, 0, none⟩) 1 1) (hcs : cs.size = s) (h1 : ∀ u ∈ cs.toList, u.oneCell' = true)
    (hlen : (n + 1) * bytes ≤ 140737488355328) (hle : n + 1 ≤ maxLen)
    (h : ∀ v' w', w'.ownsRow B e s v' (n + 1) (xs ++ cs.toList) → w.grownBy w' v.ownBlock → (v'.ownBlock = v.ownBlock ∨ ∀ k, v'.ownBlock = some k → w.heap.size ≤ k) → wpList P ops Q rest (a.put o.dst v') w') :
    wpList P ops Q (o :: rest) a (w.alloc (.cells cs e')) := by
  subst hg
  obtain ⟨i, hi, hz, hsz, hby⟩ := info_parts hT.info
  refine wpList_append_any (w.alloc (.cells cs e')) hgd sl x t ho B e i z s bytes hT.under hi hz hsz hby hT.cells hs0 v n xs hs (hm.alloc _) _ _ 1 1 cs.toList hx (reads_newS w e' cs s 1 w.heap.size _ (by omega) rfl rfl) h1 hle hlen (by simp; omega) fun v' w' h2 h3 h4 => ?_
  have hg : w.grownBy w' v.ownBlock := ⟨h3.os, h3.tape, h3.output, Nat.le_trans (by simp) h3.size, fun k hk hne => (h3.block k (by simp; omega) hne).trans (Below.heap_alloc w _ k hk)⟩
  refine h v' w' h2 hg ?_
  rcases h4 with h4 | h4
  · exact .inl h4
  · refine .inr fun k hk => ?_
    rw [h4] at hk
    injection hk with hk
    simp at hk
    omega
theorem Sl.grown {w w' : World} {a : Value} {n : Nat} {xs : List Value} {row : Option Nat} (h : Sl w a n xs) (hg : w.grownBy w' row) (hne : ∀ k, a.ownBlock = some k → some k ≠ row) : Sl w' a n xs := TailRow.turn h fun k hk => hg.block k (TailRow.lt h k hk).2 (hne k hk)
theorem Sl.drew {w : World} {v : Value} {n : Nat} {xs : List Value} (h : Sl w v n xs) : Sl w.drew v n xs := TailRow.turn h fun _ _ => rfl
theorem SlB.drew {w : World} {v : Value} {n : Nat} {xs : List Value} (h : SlB w v n xs) : SlB w.drew v n xs := TailRow.turn h fun _ _ => rfl
theorem RfAt.drew {w : World} {a b c d : Value} {x : Rf} (h : RfAt w a b c d x) : RfAt w.drew a b c d x := ⟨h.rd.drew, h.wr.drew, h.ln.drew, h.wt.drew⟩
theorem Sl.put4 {w : World} {v : Value} {n : Nat} {xs : List Value} (h : Sl w v n xs) {g : Nat} {cs : Array Value} (hg : Blk w g 42 cs) (v0 v1 v2 v3 : Value) : Sl (put4 w g v0 v1 v2 v3) v n xs :=
  (((h.set_ hg (by decide) v0).set_ (hg.set_ 0 v0) (by decide) v1).set_ ((hg.set_ 0 v0).set_ 1 v1) (by decide) v2).set_ (((hg.set_ 0 v0).set_ 1 v1).set_ 2 v2) (by decide) v3
/-- the row that is made lies in none of the blocks of the lock's lists -/
def Apart3 (v a b c : Value) : Prop := ∀ k, v.ownBlock = some k → a.ownBlock ≠ some k ∧ b.ownBlock ≠ some k ∧ c.ownBlock ≠ some k
theorem Apart3.give {v a b c a' b' : Value} {N : Nat} (h : Apart3 v a b c) (hv : ∀ k, v.ownBlock = some k → k < N) (ha : a' = a ∨ ∀ k, a'.ownBlock = some k → N ≤ k) (hb : b' = b ∨ ∀ k, b'.ownBlock = some k → N ≤ k) : Apart3 v a' b' c := by
  intro k hk
  obtain ⟨h1, h2, h3⟩ := h k hk
  refine ⟨?_, ?_, h3⟩
  · rcases ha with rfl | ha
    · exact h1
    · exact fun e => by have := ha k e; have := hv k hk; omega
  · rcases hb with rfl | hb
    · exact h2
    · exact fun e => by have := hb k e; have := hv k hk; omega
theorem Apart3.app {v v' a b c : Value} {N : Nat} (h : Apart3 v a b c) (hv : v'.ownBlock = v.ownBlock ∨ ∀ k, v'.ownBlock = some k → N ≤ k) (ha : ∀ k, a.ownBlock = some k → k < N) (hb : ∀ k, b.ownBlock = some k → k < N) (hc : ∀ k, c.ownBlock = some k → k < N) : Apart3 v' a b c := by
  intro k hk
  rcases hv with hv | hv
  · exact h k (hv ▸ hk)
  · have := hv k hk
    exact ⟨fun e => by have := ha k e; omega, fun e => by have := hb k e; omega, fun e => by have := hc k e; omega⟩
theorem drew_below {w w' : World} (h : Below w.drew.heap.size w.drew w') : Below w.heap.size w w' := ⟨h.os, h.tape, h.output, h.size, h.block⟩
theorem own_setT {w : World} {B s n g i : Nat} {e t : TypeId} {v : Value} {xs : List Value} {cs : Array Value} (h : w.ownsRow B e s v n xs) (hg : Blk w g t cs) (hne : e ≠ t) (u : Value) : (w.setCell ⟨g, i, none⟩ u).ownsRow B e s v n xs := own_set (p := ⟨g, i, none⟩) h (own_ne h hg hne) u
theorem own_put4T {w : World} {B s n g : Nat} {e t : TypeId} {v : Value} {xs : List Value} {cs : Array Value} (h : w.ownsRow B e s v n xs) (hg : Blk w g t cs) (hne : e ≠ t) (v0 v1 v2 v3 : Value) : (put4 w g v0 v1 v2 v3).ownsRow B e s v n xs :=
  own_setT (own_setT (own_setT (own_setT h hg hne v0) (hg.set_ 0 v0) hne v1) ((hg.set_ 0 v0).set_ 1 v1) hne v2) (((hg.set_ 0 v0).set_ 1 v1).set_ 2 v2) hne v3
def Rf.tot (x : Rf) : Nat := x.rd.length + x.wr.length + x.line.length
theorem Rf.tot_short {x : Rf} {k : Nat} (h : x.tot ≤ k) : x.short k := by unfold Rf.tot at h; exact ⟨by omega, by omega, by omega⟩
theorem giveR_tot (r w : List Int) (ln : List (Int × Bool)) (y : Int × Bool) : (giveR ⟨r, w, ln⟩ y).tot = (Rf.mk r w (y :: ln)).tot := by
  unfold giveR Rf.tot
  split <;> simp <;> omega
theorem Two.set0 {g3 g6 : Nat} {t : TypeId} {a b c d : Value} {w : World} (h : Two g3 g6 t a b c d w) (hne : g6 ≠ g3) (u : Value) : Two g3 g6 t u b c d (w.setCell ⟨g3, 0, none⟩ u) :=
  ⟨by have hb := h.one.set_ 0 u; simpa using hb, h.two.far (p := ⟨g3, 0, none⟩) hne u⟩
theorem Two.set1 {g3 g6 : Nat} {t : TypeId} {a b c d : Value} {w : World} (h : Two g3 g6 t a b c d w) (hne : g6 ≠ g3) (u : Value) : Two g3 g6 t a u c d (w.setCell ⟨g3, 1, none⟩ u) :=
  ⟨by have hb := h.one.set_ 1 u; simpa using hb, h.two.far (p := ⟨g3, 1, none⟩) hne u⟩
theorem Two.set3 {g3 g6 : Nat} {t : TypeId} {a b c d : Value} {w : World} (h : Two g3 g6 t a b c d w) (hne : g6 ≠ g3) (u : Value) : Two g3 g6 t a b c u (w.setCell ⟨g3, 3, none⟩ u) :=
  ⟨by have hb := h.one.set_ 3 u; simpa using hb, h.two.far (p := ⟨g3, 3, none⟩) hne u⟩
theorem Two.put4 {g3 g6 : Nat} {t : TypeId} {a b c d : Value} {w : World} (h : Two g3 g6 t a b c d w) (hne : g6 ≠ g3) (a' b' c' d' : Value) : Two g3 g6 t a' b' c' d' (put4 w g3 a' b' c' d') :=
  (((h.set0 hne a').set1 hne b').set2 hne c').set3 hne d'
end Go.Fw
namespace Go.Proofs.Ytlkappmielllcaa
open Go.RowKit Go.Fw
set_option maxHeartbeats 1000000
set_option maxRecDepth 4000
set_option linter.unusedVariables false
set_option linter.unusedSimpArgs false
theorem rf_grown {w w' : World} {a b c d v : Value} {x : Rf} {B n : Nat} {xs : List Value} (h : RfAt w a b c d x) (ho : w.ownsRow B 3 1 v n xs) (hap : Apart3 v a b c) (hg : w.grownBy w' v.ownBlock) : RfAt w' a b c d x :=
  ⟨h.rd.grown hg fun k hk e => (hap k e.symm).1 hk, h.wr.grown hg fun k hk e => (hap k e.symm).2.1 hk, h.ln.grown hg fun k hk e => (hap k e.symm).2.2 hk,
    TailRow.turn h.wt fun k hk => hg.block k (TailRow.lt h.wt k hk).2 (tail_ne_own h.wt ho (by decide) k hk)⟩
/-- what Drop hands back -/
def RDropPost (w : World) (x : Rf) (out : List Int) (held : Bool) (e : Ending) (w' : World) : Prop :=
  ∃ v o, e = .returned (.tuple #[v, o, .bool held]) ∧ RfPost w x v w' ∧ Sl w' o out.length (i64s out)
theorem rdrop_none (a b c d : Value) (x : Rf) (t : Int) (w : World) (h : RfAt w a b c d x) (hn : x.tot ≤ 900) (hz : heldR x t = 0) :
    Calls Try.prog 15 #[.agg #[a, b, c, d], .int .i64 t] w (RDropPost w x [] false) := by
  obtain ⟨A0, p0, rfl, _, _, _⟩ := h.rd.form
  obtain ⟨A1, p1, rfl, _, _, _⟩ := h.wr.form
  obtain ⟨A2, p2, rfl, _, _, _⟩ := h.ln.form
  obtain ⟨A3, p3, rfl, _, _, _⟩ := h.wt.form
  have hb := sub_alloc (sub_alloc (Below.refl _ w) (.cells #[.slice A0 x.rd.length p0, .slice A1 x.wr.length p1, .slice A2 x.line.length p2, .slice A3 x.line.length p3] 42)) (.cells #[.slice none 0 0, .slice none 0 0, .slice none 0 0, .slice none 0 0] 42)
  have k36 := two_new w 42 (.slice A0 x.rd.length p0) (.slice A1 x.wr.length p1) (.slice A2 x.line.length p2) (.slice A3 x.line.length p3)
  have h2 := h.up hb
  have hha := rheld_any _ _ _ _ x t _ h2 (Rf.tot_short (Nat.le_trans hn (by decide)))
  rw [hz] at hha
  have HA := Lib.hid hha
  clear hha hz
  go_enter Try.func15, Try.ntmps15
  go_wp2_with fail
  refine HA.out.mono ?_
  rintro e w1 ⟨rfl, hb1⟩
  have K1 := k36.later hb1
  obtain ⟨c0, c1, c2, c3, z0, z1, z2, z3⟩ := K1.facts
  obtain ⟨f0, f1, f2, f3, g0, g1, g2, g3⟩ := K1.free
  have HW := Lib.hid (And.intro K1 (And.intro (h2.up hb1) (hb.trans (hb1.mono hb.size))))
  clear K1 hb1 h2 hb k36
  go_wp2
  refine bodyPost_ret (v := .tuple #[.agg #[.slice A0 x.rd.length p0, .slice A1 x.wr.length p1, .slice A2 x.line.length p2, .slice A3 x.line.length p3], .slice none 0 0, .bool false]) (by simp [results, Try.results15, go_sem, z0, z1, z2, z3]) rfl ?_
  exact ⟨_, _, rfl, ⟨_, _, _, _, rfl, HW.out.2.1.put4 HW.out.1.two _ _ _ _, below_put4 HW.out.2.2 (Nat.le_succ _) _ _ _ _⟩, Sl.nil_ _⟩
theorem rdrop_any (a b c d : Value) (x : Rf) (t : Int) (w : World) (h : RfAt w a b c d x) (hn : x.tot ≤ 900) (hz : heldR x t ≠ 0) :
    Calls Try.prog 15 #[.agg #[a, b, c, d], .int .i64 t] w (RDropPost w (dropR x t).1 (dropR x t).2 true) := by
  obtain ⟨A0, p0, rfl, _, _, _⟩ := h.rd.form
  obtain ⟨A1, p1, rfl, _, _, _⟩ := h.wr.form
  obtain ⟨A2, p2, rfl, _, _, _⟩ := h.ln.form
  obtain ⟨A3, p3, rfl, _, _, _⟩ := h.wt.form
  have hb := sub_alloc (sub_alloc (Below.refl _ w) (.cells #[.slice A0 x.rd.length p0, .slice A1 x.wr.length p1, .slice A2 x.line.length p2, .slice A3 x.line.length p3] 42)) (.cells #[.slice none 0 0, .slice none 0 0, .slice none 0 0, .slice none 0 0] 42)
  have k36 := two_new w 42 (.slice A0 x.rd.length p0) (.slice A1 x.wr.length p1) (.slice A2 x.line.length p2) (.slice A3 x.line.length p3)
  have h2 := h.up hb
  have hha := rheld_any _ _ _ _ x t _ h2 (Rf.tot_short (Nat.le_trans hn (by decide)))
  have hdd : dropR x t = dropGoR x.line (lessR x.rd t) (lessR x.wr t) := rfl
  have hz2 : (heldR x t == 0) = false := by simpa using hz
  generalize dropR x t = res at *
  generalize heldR x t = hv at *
  have HD := Lib.hid hdd
  have HA := Lib.hid hha
  have HN := Lib.hid hn
  clear hha hz hdd hn
  go_enter Try.func15, Try.ntmps15
  go_wp2_with fail
  refine HA.out.mono ?_
  rintro e w1 ⟨rfl, hb1⟩
  have K1 := k36.later hb1
  obtain ⟨c0, c1, c2, c3, z0, z1, z2, z3⟩ := K1.facts
  have HK1 := Lib.hid K1
  have HR1 := Lib.hid (h2.up hb1)
  have HB1 := Lib.hid (hb.trans (hb1.mono hb.size))
  clear K1 hb1 h2 hb k36
  go_wp2_with fail
  refine (less_any x.rd _ t w1 HR1.out.rd (by have := (Rf.tot_short HN.out).rd; omega)).mono ?_
  rintro e w2 ⟨v2, rfl, hm2⟩
  obtain ⟨E0, q0, rfl, _, _, _⟩ := hm2.form
  have K2 := HK1.out.later hm2.below
  clear c0 c1 c2 c3 z0 z1 z2 z3
  obtain ⟨c0, c1, c2, c3, z0, z1, z2, z3⟩ := K2.facts
  obtain ⟨f0, f1, f2, f3, g0, g1, g2, g3⟩ := K2.free
  have K3 := K2.set0 (by simp) (.slice E0 (lessR x.rd t).length q0)
  have R2 := HR1.out.up hm2.below
  have R3 : RfAt (w2.setCell ⟨w.heap.size, 0, none⟩ (.slice E0 (lessR x.rd t).length q0)) (.slice E0 (lessR x.rd t).length q0) _ _ _ ⟨lessR x.rd t, x.wr, x.line⟩ := (RfAt.mk (Sl.of_own hm2.own) R2.wr R2.ln R2.wt : RfAt w2 _ _ _ _ ⟨lessR x.rd t, x.wr, x.line⟩).set_ K2.one _
  have B3 := (HB1.out.trans (hm2.below.mono HB1.out.size)).setCell (p := ⟨w.heap.size, 0, none⟩) (Nat.le_refl _) (.slice E0 (lessR x.rd t).length q0)
  have HK3 := Lib.hid K3
  have HR3 := Lib.hid R3
  have HB3 := Lib.hid B3
  clear K2 K3 R2 R3 B3 hm2
  go_upto_region 4 with fail
  generalize (w2.setCell ⟨w.heap.size, 0, none⟩ (.slice E0 (lessR x.rd t).length q0)) = w3 at *
  clear c0 c1 c2 c3 z0 z1 z2 z3 f0 f1 f2 f3 g0 g1 g2 g3
  obtain ⟨c0, c1, c2, c3, z0, z1, z2, z3⟩ := HK3.out.facts
  go_wp2_with fail
  refine (less_any x.wr _ t w3 HR3.out.wr (by have := (Rf.tot_short HN.out).wr; omega)).mono ?_
  rintro e w4 ⟨v4, rfl, hm4⟩
  obtain ⟨E1, q1, rfl, _, _, _⟩ := hm4.form
  have K4 := HK3.out.later hm4.below
  clear c0 c1 c2 c3 z0 z1 z2 z3
  obtain ⟨c0, c1, c2, c3, z0, z1, z2, z3⟩ := K4.facts
  obtain ⟨f0, f1, f2, f3, g0, g1, g2, g3⟩ := K4.free
  have K5 := K4.set1 (by simp) (.slice E1 (lessR x.wr t).length q1)
  have R4 := HR3.out.up hm4.below
  have R5 : RfAt (w4.setCell ⟨w.heap.size, 1, none⟩ (.slice E1 (lessR x.wr t).length q1)) _ (.slice E1 (lessR x.wr t).length q1) _ _ ⟨lessR x.rd t, lessR x.wr t, x.line⟩ := (RfAt.mk R4.rd (Sl.of_own hm4.own) R4.ln R4.wt : RfAt w4 _ _ _ _ ⟨lessR x.rd t, lessR x.wr t, x.line⟩).set_ K4.one _
  have B5 := (HB3.out.trans (hm4.below.mono HB3.out.size)).setCell (p := ⟨w.heap.size, 1, none⟩) (Nat.le_refl _) (.slice E1 (lessR x.wr t).length q1)
  have HK5 := Lib.hid K5
  have HR5 := Lib.hid R5
  have HB5 := Lib.hid B5
  clear K4 K5 R4 R5 B5 hm4
  go_upto_region 5 with fail
  generalize (w4.setCell ⟨w.heap.size, 1, none⟩ (.slice E1 (lessR x.wr t).length q1)) = w5 at *
  clear c0 c1 c2 c3 z0 z1 z2 z3 f0 f1 f2 f3 g0 g1 g2 g3
  go_wp2
  have htot : (Rf.mk (lessR x.rd t) (lessR x.wr t) x.line).tot ≤ 900 := by
    have h1 := lessR_len x.rd t
    have h2 := lessR_len x.wr t
    have h3 := HN.out
    unfold Rf.tot at h3 ⊢
    simp only
    omega
  have HTOT := Lib.hid htot
  clear htot
  go_loopg [7] x.line.length (fun k v wr => ∃ (a b c d : Value) (y : Rf) (pre : List Int), k = y.line.length ∧ Two w.heap.size (w.heap.size + 1) 42 a b c d wr ∧ RfAt wr a b c d y ∧ wr.ownsRow w.heap.size 3 1 v pre.length (i64s pre) ∧ Apart3 v a b c ∧ pre.length + y.line.length ≤ 900 ∧ y.tot ≤ 900 ∧ Below w.heap.size w wr ∧
    Hid (res = ((dropGoR y.line y.rd y.wr).1, pre ++ (dropGoR y.line y.rd y.wr).2)))
  case atStart =>
    exact ⟨_, _, _, _, ⟨lessR x.rd t, lessR x.wr t, x.line⟩, [], rfl, HK5.out, HR5.out, World.ownsRow_nil _ _ _ _, fun k hk => by simp [Value.ownBlock] at hk, by have := HTOT.out; unfold Rf.tot at this; simp only at this; simp; omega, HTOT.out, HB5.out, Lib.hid (by rw [HD.out]; rfl)⟩
  case round =>
    obtain ⟨a, b, c, d, ⟨rd, rw', ln⟩, pre, hgk, K, R, hown, hap, hpre, htot2, hB, HR⟩ := hrel
    obtain ⟨Ea, qa, rfl, _, _, _⟩ := R.rd.form
    obtain ⟨Eb, qb, rfl, _, _, _⟩ := R.wr.form
    obtain ⟨Ev, qv, rfl, _, _⟩ := own_form hown
    rcases ln with _ | ⟨⟨y0, y1⟩, ln⟩
    · obtain ⟨Ec, qc, rfl, _, _, _⟩ := R.ln.form
      obtain ⟨Ed, qd, rfl, _, _, _⟩ := R.wt.form
      obtain ⟨c0, c1, c2, c3, z0, z1, z2, z3⟩ := K.facts
      obtain ⟨_, _, _, _, g0, g1, g2, g3⟩ := K.free
      have HX := Lib.hid (And.intro K (And.intro R (And.intro hown hB)))
      clear hgk K R hown hap hpre htot2 hB h
      simp only [List.length_nil] at c2 c3
      go_wp2
      refine still_start 10 (by kernel_rfl) (by kernel_rfl) ?_
      simp only [List.take_succ_cons, List.take_zero, List.drop_succ_cons, List.drop_zero]
      repeat still_step
      refine wpStill_nil ?_
      go_wp2
      refine bodyPost_ret (v := .tuple #[.agg #[.slice Ea rd.length qa, .slice Eb rw'.length qb, .slice Ec 0 qc, .slice Ed 0 qd], .slice Ev pre.length qv, .bool true]) (by simp [results, Try.results15, go_sem, z0, z1, z2, z3]) rfl ?_
      rw [HR.out]
      refine ⟨_, _, rfl, ⟨_, _, _, _, rfl, (HX.out.2.1.put4 HX.out.1.two _ _ _ _).drew, (below_put4 HX.out.2.2.2 (Nat.le_succ _) _ _ _ _).drew⟩, ?_⟩
      have hq := ((Sl.of_own HX.out.2.2.1).put4 HX.out.1.two (.slice Ea rd.length qa) (.slice Eb rw'.length qb) (.slice Ec 0 qc) (.slice Ed 0 qd)).drew
      simpa [dropGoR] using hq
    · obtain ⟨gc, oc, kc, oc2, rfl, hkc, hmc, hcc, HOC, HTC⟩ := TailRow.rest1g (u := .int .i64 y0) (us := i64s (tsk ln)) R.ln
      obtain ⟨gd, od, kd, od2, rfl, hkd, hmd, hcd, HOD, HTD⟩ := TailRow.rest1g (u := .bool y1) (us := bls (wts ln)) R.wt
      obtain ⟨c0, c1, c2, c3, z0, z1, z2, z3⟩ := K.facts
      obtain ⟨f0, f1, f2, f3, g0, g1, g2, g3⟩ := K.free
      have hmc3 : kc < 9223372036854775807 := by simpa [maxLen] using hmc
      have hmd3 : kd < 9223372036854775807 := by simpa [maxLen] using hmd
      have hln : ln.length ≤ 900 := by unfold Rf.tot at htot2; simp only [List.length_cons] at htot2; omega
      have hpl : pre.length ≤ 899 := by simp only [List.length_cons] at hpre; omega
      have HX := Lib.hid (And.intro K (And.intro R (And.intro hown hB)))
      have HC := Lib.hid (And.intro HOC HTC)
      have HDD := Lib.hid (And.intro HOD HTD)
      have HG := Lib.hid hgk
      have HP := Lib.hid (And.intro hap (And.intro hpre htot2))
      have hfc := rfits_any _ _ _ _ _ y1 wr.drew R.drew
      have HF := Lib.hid hfc
      have hszz := hB.size
      have hk3 := K.one.lt
      have hk6 := K.two.lt
      clear hgk K R hown hap hpre htot2 hB h HOC HTC HOD HTD hmc hmd hfc
      by_cases hft : fitsR ⟨rd, rw', (y0, y1) :: ln⟩ y1 = true
      · rw [hft] at HF
        have HDG : Hid (dropGoR ((y0, y1) :: ln) rd rw' = ((dropGoR ln (giveR ⟨rd, rw', ln⟩ (y0, y1)).rd (giveR ⟨rd, rw', ln⟩ (y0, y1)).wr).1, y0 :: (dropGoR ln (giveR ⟨rd, rw', ln⟩ (y0, y1)).rd (giveR ⟨rd, rw', ln⟩ (y0, y1)).wr).2)) := by show _ = _; rw [dropGoR]; exact if_pos hft
        have hgc := World.block_lt_of_cell? wr _ hcc
        have hgd := World.block_lt_of_cell? wr _ hcd
        simp only at hgc hgd
        clear hft
        go_wp2
        refine still_start 10 (by kernel_rfl) (by kernel_rfl) ?_
        simp only [List.take_succ_cons, List.take_zero, List.drop_succ_cons, List.drop_zero]
        repeat still_step
        refine wpStill_nil ?_
        go_wp2_with fail
        refine HF.out.mono ?_
        rintro e w6 ⟨rfl, hb6⟩
        have hb6' := drew_below hb6
        have K6 := HX.out.1.later hb6'
        have B6 := HX.out.2.2.2.trans (hb6'.mono HX.out.2.2.2.size)
        have O6 := own_later HX.out.2.2.1 hb6'
        have R6 := HX.out.2.1.up hb6'
        have TC6 := TailRow.later HC.out.2 hb6'
        have TD6 := TailRow.later HDD.out.2 hb6'
        have hcc6 := (Below.cell hb6' (p := ⟨gc, oc, none⟩) hgc).trans hcc
        have hcd6 := (Below.cell hb6' (p := ⟨gd, od, none⟩) hgd).trans hcd
        clear c0 c1 c2 c3 z0 z1 z2 z3 f0 f1 f2 f3 g0 g1 g2 g3 hcc hcd
        obtain ⟨c0, c1, c2, c3, _, _, _, _⟩ := K6.facts
        obtain ⟨f0, f1, f2, f3, _, _, _, _⟩ := K6.free
        have H6 := Lib.hid (And.intro K6 (And.intro R6 (And.intro O6 (And.intro B6 (And.intro TC6 TD6)))))
        clear K6 R6 B6 O6 TC6 TD6 hb6 hb6'
        go_upto_region 9 with fail
        go_cut [] (fun wx => wx = w6.setCell ⟨w.heap.size, 2, none⟩ (.slice (some ⟨gc, oc2, none⟩) ln.length kc))
        case first =>
          rcases HC.out.1 with ⟨q0, q1⟩ | ⟨q0, q1⟩
          · subst q0 q1
            clear hkc
            go_wp2
            go_meet
            rfl
          · subst q1
            go_wp2
            go_meet
            rfl
        case rest =>
          subst hcut
          clear c0 c1 c2 c3 f0 f1 f2 f3 hcc6
          have K7 := H6.out.1.set2 (by simp) (.slice (some ⟨gc, oc2, none⟩) ln.length kc)
          have B7 := H6.out.2.2.2.1.setCell (p := ⟨w.heap.size, 2, none⟩) (Nat.le_refl _) (.slice (some ⟨gc, oc2, none⟩) ln.length kc)
          have O7 := own_setT (i := 2) H6.out.2.2.1 H6.out.1.one (by decide) (.slice (some ⟨gc, oc2, none⟩) ln.length kc)
          have Ra7 := H6.out.2.1.rd.set_ (i := 2) H6.out.1.one (by decide) (.slice (some ⟨gc, oc2, none⟩) ln.length kc)
          have Rb7 := H6.out.2.1.wr.set_ (i := 2) H6.out.1.one (by decide) (.slice (some ⟨gc, oc2, none⟩) ln.length kc)
          have Rc7 := Sl.set_ (i := 2) H6.out.2.2.2.2.1 H6.out.1.one (by decide) (.slice (some ⟨gc, oc2, none⟩) ln.length kc)
          have Rd7 := SlB.set_ (i := 2) (TailRow.lower H6.out.2.2.2.2.2 (Nat.zero_le _)) H6.out.1.one (by decide) (.slice (some ⟨gc, oc2, none⟩) ln.length kc)
          have H7 := Lib.hid (And.intro K7 (And.intro B7 (And.intro O7 (And.intro Ra7 (And.intro Rb7 (And.intro Rc7 Rd7))))))
          clear K7 B7 O7 Ra7 Rb7 Rc7 Rd7 H6
          generalize (w6.setCell ⟨w.heap.size, 2, none⟩ (.slice (some ⟨gc, oc2, none⟩) ln.length kc)) = w7 at *
          obtain ⟨c0, c1, c2, c3, _, _, _, _⟩ := H7.out.1.facts
          obtain ⟨f0, f1, f2, f3, _, _, _, _⟩ := H7.out.1.free
          go_upto_region 10 with fail
          go_cut [] (fun wx => wx = w7.setCell ⟨w.heap.size, 3, none⟩ (.slice (some ⟨gd, od2, none⟩) ln.length kd))
          case first =>
            rcases HDD.out.1 with ⟨q0, q1⟩ | ⟨q0, q1⟩
            · subst q0 q1
              clear hkd
              go_wp2
              go_meet
              rfl
            · subst q1
              go_wp2
              go_meet
              rfl
          case rest =>
            subst hcut
            clear c0 c1 c2 c3 f0 f1 f2 f3
            have K8 := H7.out.1.set3 (by simp) (.slice (some ⟨gd, od2, none⟩) ln.length kd)
            have B8 := H7.out.2.1.setCell (p := ⟨w.heap.size, 3, none⟩) (Nat.le_refl _) (.slice (some ⟨gd, od2, none⟩) ln.length kd)
            have O8 := own_setT (i := 3) H7.out.2.2.1 H7.out.1.one (by decide) (.slice (some ⟨gd, od2, none⟩) ln.length kd)
            have Ra8 := H7.out.2.2.2.1.set_ (i := 3) H7.out.1.one (by decide) (.slice (some ⟨gd, od2, none⟩) ln.length kd)
            have Rb8 := H7.out.2.2.2.2.1.set_ (i := 3) H7.out.1.one (by decide) (.slice (some ⟨gd, od2, none⟩) ln.length kd)
            have Rc8 := H7.out.2.2.2.2.2.1.set_ (i := 3) H7.out.1.one (by decide) (.slice (some ⟨gd, od2, none⟩) ln.length kd)
            have Rd8 := H7.out.2.2.2.2.2.2.set_ (i := 3) H7.out.1.one (by decide) (.slice (some ⟨gd, od2, none⟩) ln.length kd)
            have R8 : RfAt (w7.setCell ⟨w.heap.size, 3, none⟩ (.slice (some ⟨gd, od2, none⟩) ln.length kd)) (.slice Ea rd.length qa) (.slice Eb rw'.length qb) (.slice (some ⟨gc, oc2, none⟩) ln.length kc) (.slice (some ⟨gd, od2, none⟩) ln.length kd) ⟨rd, rw', ln⟩ := ⟨Ra8, Rb8, Rc8, Rd8⟩
            have H8 := Lib.hid (And.intro K8 (And.intro B8 (And.intro O8 R8)))
            clear K8 B8 O8 Ra8 Rb8 Rc8 Rd8 R8 H7
            generalize (w7.setCell ⟨w.heap.size, 3, none⟩ (.slice (some ⟨gd, od2, none⟩) ln.length kd)) = w8 at *
            obtain ⟨c0, c1, c2, c3, _, _, _, _⟩ := H8.out.1.facts
            have hsh : (Rf.mk rd rw' ln).short 1000 := by have := HP.out.2.2; unfold Rf.tot at this; simp only [List.length_cons] at this; exact ⟨by simp only; omega, by simp only; omega, by simp only; omega⟩
            have HSH := Lib.hid hsh
            clear hsh
            go_wp2_with fail
            refine (rgive_any _ _ _ _ _ y0 y1 w8 H8.out.2.2.2 HSH.out).mono ?_
            rintro e w9 ⟨a', b', rfl, h9, hb9, ha9, hb9'⟩
            obtain ⟨Ga, sa, rfl, _, _, _⟩ := h9.rd.form
            obtain ⟨Gb, sb, rfl, _, _, _⟩ := h9.wr.form
            have K9 := H8.out.1.later hb9
            have B9 := H8.out.2.1.trans (hb9.mono H8.out.2.1.size)
            have O9 := own_later H8.out.2.2.1 hb9
            have AP9 := HP.out.1.give (fun k hk => (H8.out.2.2.1.lt k hk).2) ha9 hb9'
            clear c0 c1 c2 c3
            obtain ⟨c0, c1, c2, c3, _, _, _, _⟩ := K9.facts
            obtain ⟨f0, f1, f2, f3, _, _, _, _⟩ := K9.free
            have H9 := Lib.hid (And.intro K9 (And.intro B9 (And.intro O9 (And.intro h9 AP9))))
            clear K9 B9 O9 AP9 h9 hb9 ha9 hb9'
            go_upto_region 12 with fail
            have K10 := H9.out.1.put4 (by simp) (.slice Ga (giveR ⟨rd, rw', ln⟩ (y0, y1)).rd.length sa) (.slice Gb (giveR ⟨rd, rw', ln⟩ (y0, y1)).wr.length sb) (.slice (some ⟨gc, oc2, none⟩) ln.length kc) (.slice (some ⟨gd, od2, none⟩) ln.length kd)
            have B10 := below_put4 H9.out.2.1 (Nat.le_refl _) (.slice Ga (giveR ⟨rd, rw', ln⟩ (y0, y1)).rd.length sa) (.slice Gb (giveR ⟨rd, rw', ln⟩ (y0, y1)).wr.length sb) (.slice (some ⟨gc, oc2, none⟩) ln.length kc) (.slice (some ⟨gd, od2, none⟩) ln.length kd)
            have O10 := own_put4T H9.out.2.2.1 H9.out.1.one (by decide) (.slice Ga (giveR ⟨rd, rw', ln⟩ (y0, y1)).rd.length sa) (.slice Gb (giveR ⟨rd, rw', ln⟩ (y0, y1)).wr.length sb) (.slice (some ⟨gc, oc2, none⟩) ln.length kc) (.slice (some ⟨gd, od2, none⟩) ln.length kd)
            have R10 := H9.out.2.2.2.1.put4 H9.out.1.one (.slice Ga (giveR ⟨rd, rw', ln⟩ (y0, y1)).rd.length sa) (.slice Gb (giveR ⟨rd, rw', ln⟩ (y0, y1)).wr.length sb) (.slice (some ⟨gc, oc2, none⟩) ln.length kc) (.slice (some ⟨gd, od2, none⟩) ln.length kd)
            have AP : Apart3 (.slice Ev pre.length qv) (.slice Ga (giveR ⟨rd, rw', ln⟩ (y0, y1)).rd.length sa) (.slice Gb (giveR ⟨rd, rw', ln⟩ (y0, y1)).wr.length sb) (.slice (some ⟨gc, oc2, none⟩) ln.length kc) := fun k hk => ⟨(H9.out.2.2.2.2 k hk).1, (H9.out.2.2.2.2 k hk).2.1, (H9.out.2.2.2.2 k hk).2.2⟩
            have H10 := Lib.hid (And.intro K10 (And.intro B10 (And.intro O10 (And.intro R10 AP))))
            clear K10 B10 O10 R10 AP H9 c0 c1 c2 c3 f0 f1 f2 f3
            unfold put4 at H10
            generalize ((((w9.setCell ⟨w.heap.size, 0, none⟩ (.slice Ga (giveR ⟨rd, rw', ln⟩ (y0, y1)).rd.length sa)).setCell ⟨w.heap.size, 1, none⟩ (.slice Gb (giveR ⟨rd, rw', ln⟩ (y0, y1)).wr.length sb)).setCell ⟨w.heap.size, 2, none⟩ (.slice (some ⟨gc, oc2, none⟩) ln.length kc)).setCell ⟨w.heap.size, 3, none⟩ (.slice (some ⟨gd, od2, none⟩) ln.length kd)) = w10 at *
            have ho10 := H10.out.2.2.1
            have hz10 := H10.out.2.1.size
            go_wp2_with (at_builtin; go_must (refine wpList_append_oneN (w := w10) (n := pre.length) (xs := i64s pre) elemInt (by decide) rfl (.tmp 57) (.tmp 59) rfl rfl ho10 hz10 rfl rfl rfl (by simp [Value.oneCell']) (by omega) (by unfold maxLen; omega) ?_); intro v' w' hm' hg' hvb)
            go_roundg ln.length
            case measure => rw [HG.out]; simp
            case rel =>
              have r1 := H10.out.2.2.2.1
              have ap2 := H10.out.2.2.2.2.app hvb (fun k hk => (TailRow.lt r1.rd k hk).2) (fun k hk => (TailRow.lt r1.wr k hk).2) (fun k hk => (TailRow.lt r1.ln k hk).2)
              refine ⟨_, _, _, .slice (some ⟨gd, od2, none⟩) ln.length kd, ⟨(giveR ⟨rd, rw', ln⟩ (y0, y1)).rd, (giveR ⟨rd, rw', ln⟩ (y0, y1)).wr, ln⟩, pre ++ [y0], rfl, ?_, ?_, ?_, ap2, ?_, ?_, ?_, ?_⟩
              · exact ⟨H10.out.1.one.grown hg' (fun e => own_ne ho10 H10.out.1.one (by decide) e.symm), H10.out.1.two.grown hg' (fun e => own_ne ho10 H10.out.1.two (by decide) e.symm)⟩
              · have r2 := rf_grown r1 ho10 H10.out.2.2.2.2 hg'
                exact ⟨r2.rd, r2.wr, by have hq := r2.ln; rw [giveR_line] at hq; exact hq, by have hq := r2.wt; rw [giveR_line] at hq; exact hq⟩
              · simpa [i64s] using hm'
              · have := HP.out.2.1; simp only [List.length_cons] at this; simp; omega
              · have h1 := giveR_tot rd rw' ln (y0, y1)
                have h2 := HP.out.2.2
                rw [← h1] at h2
                unfold Rf.tot at h2 ⊢
                rw [giveR_line] at h2
                exact h2
              · exact H10.out.2.1.grown hg' hz10 fun k hk => (ho10.lt k hk).1
              · exact Lib.hid (by rw [HR.out, HDG.out]; simp)
      · have hft2 : fitsR ⟨rd, rw', (y0, y1) :: ln⟩ y1 = false := by simpa using hft
        rw [hft2] at HF
        have HDG : Hid (dropGoR ((y0, y1) :: ln) rd rw' = (⟨rd, rw', (y0, y1) :: ln⟩, [])) := by show _ = _; rw [dropGoR]; exact if_neg hft
        clear hft hft2
        go_wp2
        refine still_start 10 (by kernel_rfl) (by kernel_rfl) ?_
        simp only [List.take_succ_cons, List.take_zero, List.drop_succ_cons, List.drop_zero]
        repeat still_step
        refine wpStill_nil ?_
        go_wp2_with fail
        refine HF.out.mono ?_
        rintro e w6 ⟨rfl, hb6⟩
        have K6 := HX.out.1.later (drew_below hb6)
        have R6 := HX.out.2.1.up (drew_below hb6)
        have B6 := HX.out.2.2.2.trans ((drew_below hb6).mono HX.out.2.2.2.size)
        have O6 := own_later HX.out.2.2.1 (drew_below hb6)
        clear c0 c1 c2 c3 z0 z1 z2 z3 f0 f1 f2 f3 g0 g1 g2 g3
        obtain ⟨c0, c1, c2, c3, z0, z1, z2, z3⟩ := K6.facts
        obtain ⟨_, _, _, _, g0, g1, g2, g3⟩ := K6.free
        have H6 := Lib.hid (And.intro K6 (And.intro R6 (And.intro O6 B6)))
        clear K6 R6 B6 O6 hb6
        go_wp2
        refine bodyPost_ret (v := .tuple #[.agg #[.slice Ea rd.length qa, .slice Eb rw'.length qb, .slice (some ⟨gc, oc, none⟩) (ln.length + 1) (kc + 1), .slice (some ⟨gd, od, none⟩) (ln.length + 1) (kd + 1)], .slice Ev pre.length qv, .bool true]) (by simp [results, Try.results15, go_sem, z0, z1, z2, z3]) rfl ?_
        rw [HR.out, HDG.out]
        refine ⟨_, _, rfl, ⟨_, _, _, _, rfl, H6.out.2.1.put4 H6.out.1.two _ _ _ _, below_put4 H6.out.2.2.2 (Nat.le_succ _) _ _ _ _⟩, ?_⟩
        have hq := (Sl.of_own H6.out.2.2.1).put4 H6.out.1.two (.slice Ea rd.length qa) (.slice Eb rw'.length qb) (.slice (some ⟨gc, oc, none⟩) (ln.length + 1) (kc + 1)) (.slice (some ⟨gd, od, none⟩) (ln.length + 1) (kd + 1))
        simpa using hq
end Go.Proofs.Ytlkappmielllcaa
