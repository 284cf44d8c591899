/-
  Monitor's Sleep, Wake, Sleeping, WakeAll, Idle. Conditions: few who sleep or wait.
-/
import Derived.Test.YtlkappmielllcaaRwAwake
namespace Go.Fw
open Go.RowKit
set_option linter.unusedVariables false
theorem wpList_append_T {P : Program} {s : Nat} {w : World} {t e e' : TypeId} {z : Value} {bytes : Nat} {ops : Array Oper} {rest : List Oper} {o : Oper} {a : Act} {Q : Exit → Act → World → Prop} (hT : ElemS P t e z s bytes) (hs0 : 0 < s)
    (hgd : o.guard = none) (sl x : Operand) (ho : o.op = .call { callee := .builtin .append, args := #[sl, x], argTypes := #[t, t] })
    {v : Value} {n B g : Nat} {xs : List Value} (hs : a.eval sl = v) (hm : TailRow w B e s v n xs) (hB : B ≤ w.heap.size) (hg : g = w.heap.size) {cs : Array Value} (hx : a.eval x = .slice (some ⟨g, 0, none⟩) 1 1) (hcs : cs.size = s) (h1 : ∀ u ∈ cs.toList, u.oneCell' = true)
    (hlen : (n + 1) * bytes ≤ 140737488355328) (hle : n + 1 ≤ maxLen)
    (h : ∀ v' w', TailRow w' B e s v' (n + 1) (xs ++ cs.toList) → w.grownBy w' v.ownBlock → w.heap.size < w'.heap.size → wpList P ops Q rest (a.put o.dst v') w') :
    wpList P ops Q (o :: rest) a (w.alloc (.cells cs e')) :=
  wpList_plain hgd fun _ hK => wp_append_T hT hs0 sl x ho hs hm hB hg hx hcs h1 hlen hle fun v' w' h2 h3 h4 => hK _ _ (h v' w' h2 h3 h4)
theorem tail_ne_tail {w : World} {B B' s s' n n' : Nat} {e e' : TypeId} {v v' : Value} {xs xs' : List Value} (h : TailRow w B e s v n xs) (h' : TailRow w B' e' s' v' n' xs') (hne : e ≠ e') : ∀ k, v.ownBlock = some k → some k ≠ v'.ownBlock := by
  intro k hk hk'
  rcases h'.2 with ⟨rfl, _⟩ | ⟨g', off, cap, cur, rfl, _, hh, _⟩
  · simp [Value.ownBlock] at hk'
  · have : k = g' := by simpa [Value.ownBlock] using hk'
    subst this
    exact h.ne hh hne hk
theorem Keep.tail {L : Nat → Prop} {w w' : World} (h : Keep L w w') {B s n : Nat} {e : TypeId} {v : Value} {xs : List Value} (hv : TailRow w B e s v n xs) (hL : ∀ k, v.ownBlock = some k → ¬ L k) : TailRow w' B e s v n xs :=
  hv.turn fun k hk => h.block k (hv.lt k hk).2 (hL k hk)
def wakeL (l : Lk) (zs : List Int) : Lk := zs.foldl (fun l t => (askL l t true).1) l
end Go.Fw
namespace Go.Proofs.Ytlkappmielllcaa
open Go.RowKit Go.Fw
set_option maxHeartbeats 1000000
set_option maxRecDepth 4000
set_option linter.unusedVariables false
set_option linter.unusedSimpArgs false

/-- a monitor in memory -/
def MonAt (w : World) (p B : Nat) (sl al : Value) (l : Lk) (zs : List Int) : Prop :=
  LockAt w p B 52 [al] sl l ∧ TailRow w B 3 1 al zs.length (i64s zs)
section
variable {w w' : World} {p B : Nat} {sl sl' al al2 : Value} {l l' : Lk} {zs zs2 : List Int}
theorem MonAt.c3 (h : MonAt w p B sl al l zs) : w.cell? ⟨p, 3, none⟩ = some al := by rw [h.1.1.cell]; rfl
theorem MonAt.up (h : MonAt w p B sl al l zs) (hb : Below w.heap.size w w') : MonAt w' p B sl al l zs := ⟨h.1.up hb, h.2.later hb⟩
theorem MonAt.asleep_ne (h : MonAt w p B sl al l zs) : al.ownBlock ≠ some p := h.2.ne h.1.1 (by decide)
/-- the field of who sleeps is written -/
theorem MonAt.set3 (h : LockAt w p B 52 [al] sl l) (hT : TailRow w B 3 1 al2 zs2.length (i64s zs2)) : MonAt (w.setCell ⟨p, 3, none⟩ al2) p B sl al2 l zs2 :=
  ⟨⟨by have hb := h.1.set_ 3 al2; simpa using hb, h.2.turn fun k hk => Below.heap_setCell w _ _ k fun e => h.2.ne h.1 (by decide) (by rw [hk, e])⟩,
    hT.turn fun k hk => Below.heap_setCell w _ _ k fun e => hT.ne h.1 (by decide) (by rw [hk, e])⟩
theorem MonAt.grown (h : MonAt w p B sl al l zs) (hg : w.grownBy w' al.ownBlock) : LockAt w' p B 52 [al] sl l :=
  ⟨h.1.1.grown hg fun e => h.asleep_ne e.symm, h.1.2.turn fun k hk => hg.block k (h.1.2.lt k hk).2 (tail_ne_tail h.1.2 h.2 (by decide) k hk)⟩
theorem MonAt.dropped (h : MonAt w p B sl al l zs) (h2 : LockAt w' p B 52 [al] sl' l') (hK : Keep (fun j => j = p) w w') : MonAt w' p B sl' al l' zs :=
  ⟨h2, hK.tail h.2 fun k hk e => h.asleep_ne (by rw [hk, e])⟩
theorem MonAt.asked (h : MonAt w p B sl al l zs) (h2 : LockAt w' p B 52 [al] sl' l') (hK : Keep (fun j => j = p ∨ sl.ownBlock = some j) w w') : MonAt w' p B sl' al l' zs :=
  ⟨h2, hK.tail h.2 fun k hk e => e.elim (fun e => h.asleep_ne (by rw [hk, e])) fun e => tail_ne_tail h.2 h.1.2 (by decide) k hk e.symm⟩
end

theorem sleep_nil (t : Int) (w : World) : Calls Try.prog 20 #[.pointer none, .int .i64 t] w fun e w' => e = .returned (.tuple #[.slice none 0 0, .int .i64 5]) ∧ w = w' := by
  go_enter Try.func20, Try.ntmps20
  go_wp2
  go_ret2
  exact ⟨rfl, rfl⟩
theorem sleep_any (p B : Nat) (sl al : Value) (l : Lk) (zs : List Int) (t : Int) (w : World) (h : MonAt w p B sl al l zs) (hl : l.ok) (hn : l.line.length ≤ 900) (has : zs.length ≤ 900) (hBw : B ≤ w.heap.size) (hBp : B ≤ p) (ht : -9223372036854775808 ≤ t ∧ t ≤ 9223372036854775807) (hz : heldN l t = 2) :
    Calls Try.prog 20 #[.pointer (some ⟨p, 0, none⟩), .int .i64 t] w fun e w' =>
      ∃ v, e = .returned (.tuple #[v, .int .i64 0]) ∧ ∃ sl' al', MonAt w' p B sl' al' (dropL l t).1 (zs ++ [t]) ∧ Keep (fun j => B ≤ j) w w' := by
  have hh := held_any p B _ _ sl l t w h.1 hl ht
  rw [hz] at hh
  have HH := Lib.hid hh
  have HZ := Lib.hid hz
  have HT := Lib.hid ht
  have g3 := h.c3
  have hnp := h.asleep_ne
  have hp := h.1.1.lt
  clear hh hz ht
  obtain ⟨A, c, rfl, _, _, _⟩ := h.2.form
  go_enter Try.func20, Try.ntmps20
  go_wp2_with fail
  refine HH.out.mono ?_
  rintro e w1 ⟨rfl, rfl⟩
  have hT := h.2
  go_wp2_with (at_builtin; go_must (refine wpList_append_T elemInt (by decide) rfl (.tmp 20) (.tmp 22) rfl rfl hT hBw rfl rfl rfl (by simp [Value.oneCell']) (by omega) (by unfold maxLen; omega) ?_); intro v' w' hm' hg' hlt'; obtain ⟨A3, k3, rfl, _, _, _⟩ := hm'.form; have hg2 : w.grownBy w' (Value.slice A zs.length c).ownBlock := hg'; clear hg'; have hL2 := MonAt.grown h hg2; have f3 := hL2.1.frozen 3; have q3 : w'.cell? ⟨p, 3, none⟩ = some (Value.slice A zs.length c) := by (rw [hL2.1.cell]; rfl))
  have hM : MonAt (w'.setCell ⟨p, 3, none⟩ (Value.slice A3 (zs.length + 1) k3)) p B sl (Value.slice A3 (zs.length + 1) k3) l (zs ++ [t]) := MonAt.set3 hL2 (by simpa [i64s] using hm')
  refine (drop_any p B _ _ sl l t _ hM.1 hl (by decide) hn HT.out (by rw [HZ.out]; decide)).mono ?_
  rintro e w2 ⟨v, rfl, _, sl2, h4, hK⟩
  go_wp2
  go_ret2
  refine ⟨v, rfl, sl2, _, hM.dropped h4 hK, ?_⟩
  have k1 : Keep (fun j => B ≤ j) w w' := grownK (Keep.refl (fun _ => False) w) hg2 (fun _ h => h.elim) fun k e => (h.2.lt k e).1
  exact (k1.setCell (p := ⟨p, 3, none⟩) (.inl hBp) _).trans (hK.more2 fun k e => by rw [e]; exact hBp)
theorem wake_nil (w : World) : Calls Try.prog 24 #[.pointer none] w fun e w' => e = .returned (.tuple #[.int .i64 (-1), .bool false]) ∧ w = w' := by
  go_enter Try.func24, Try.ntmps24
  go_wp2
  go_ret2
  exact ⟨rfl, rfl⟩
/-- the head goes -/
theorem TailRow.rest1 {w : World} {B : Nat} {v : Value} {t : Int} {zs : List Int} (h : TailRow w B 3 1 v (t :: zs).length (i64s (t :: zs))) :
    ∃ g off cap o2, v = .slice (some ⟨g, off, none⟩) (zs.length + 1) (cap + 1) ∧ zs.length ≤ cap ∧ cap < maxLen ∧ w.cell? ⟨g, off, none⟩ = some (.int .i64 t) ∧ (cap = 0 ∧ o2 = off ∨ cap ≠ 0 ∧ o2 = off + 1) ∧
      TailRow w B 3 1 (.slice (some ⟨g, o2, none⟩) zs.length cap) zs.length (i64s zs) := by
  obtain ⟨g, off, cap, hv, h1, h2, h3⟩ := TailRow.rest (n := zs.length) h
  have hc : w.cell? ⟨g, off, none⟩ = some (.int .i64 t) := by
    obtain ⟨A, c, e, _, _, hr⟩ := h.form
    obtain ⟨b, o, hA, _, hx⟩ := hr.base_ (k := 0) (by decide) (by simp)
    have := hx 0 (.int .i64 t) (by simp [i64s])
    rw [hv] at e
    injection e with e _ _
    rw [hA] at e
    injection e with e
    injection e with e1 e2
    subst e1 e2
    simpa using this
  by_cases h0 : cap = 0
  · refine ⟨g, off, cap, off, hv, h1, h2, hc, .inl ⟨h0, rfl⟩, ?_⟩
    rw [if_pos (by omega)] at h3
    exact h3
  · refine ⟨g, off, cap, off + 1, hv, h1, h2, hc, .inr ⟨h0, rfl⟩, ?_⟩
    rw [if_neg (by omega)] at h3
    exact h3
theorem wake_none (p B : Nat) (sl al : Value) (l : Lk) (w : World) (h : MonAt w p B sl al l []) :
    Calls Try.prog 24 #[.pointer (some ⟨p, 0, none⟩)] w fun e w' => e = .returned (.tuple #[.int .i64 (-1), .bool false]) ∧ w = w' := by
  have g3 := h.c3
  obtain ⟨A, c, rfl, _, _, _⟩ := h.2.form
  simp only [List.length_nil] at g3
  clear h
  go_enter Try.func24, Try.ntmps24
  go_wp2
  go_ret2
  exact ⟨rfl, rfl⟩
theorem wake_any (p B : Nat) (sl al : Value) (l : Lk) (t : Int) (zs : List Int) (w : World) (h : MonAt w p B sl al l (t :: zs)) (hl : l.ok) (hn : l.line.length ≤ 900) (has : zs.length ≤ 900) (hBw : B ≤ w.heap.size) (ht : -9223372036854775808 ≤ t ∧ t ≤ 9223372036854775807) :
    Calls Try.prog 24 #[.pointer (some ⟨p, 0, none⟩)] w fun e w' =>
      e = .returned (.tuple #[.int .i64 t, .bool (askL l t true).2.1]) ∧ ∃ sl' al', MonAt w' p B sl' al' (askL l t true).1 zs ∧ Keep (fun j => j = p ∨ sl.ownBlock = some j) w w' ∧ al'.ownBlock = al.ownBlock := by
  have HT := Lib.hid ht
  have g3 := h.c3
  have hnp := h.asleep_ne
  have hp := h.1.1.lt
  have f3 := h.1.1.frozen 3
  obtain ⟨g, off, cap, o2, rfl, hcap, hmax, hc0, ho2, hT⟩ := TailRow.rest1 h.2
  have hm63 : cap < 9223372036854775807 := by simpa [maxLen] using hmax
  have hM := MonAt.set3 h.1 hT
  have HM := Lib.hid hM
  have HH := Lib.hid h
  have hk1 : Keep (fun j => j = p ∨ sl.ownBlock = some j) w (w.setCell ⟨p, 3, none⟩ (.slice (some ⟨g, o2, none⟩) zs.length cap)) := (Keep.refl _ w).setCell (p := ⟨p, 3, none⟩) (.inl (.inl rfl)) _
  have HK := Lib.hid hk1
  clear ht hM h hT hk1 hmax
  have HC := Lib.hid hcap
  rcases ho2 with ⟨h0, h1⟩ | ⟨h0, h1⟩
  all_goals
    subst h1
    try (subst h0; clear hcap)
    go_enter Try.func24, Try.ntmps24
    go_wp2_with fail
    refine (ask_any p B _ _ sl l t true _ HM.out.1 hl (by decide) hn (by simpa [World.setCell] using hBw) HT.out).mono ?_
    rintro e w2 ⟨rfl, sl2, h4, hK⟩
    go_wp2
    go_ret2
    exact ⟨rfl, sl2, _, HM.out.asked h4 hK, HK.out.trans hK, rfl⟩
end Go.Proofs.Ytlkappmielllcaa
