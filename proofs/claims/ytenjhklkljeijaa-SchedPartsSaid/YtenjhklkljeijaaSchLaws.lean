/-
  SchedRuns and SchedNext: the walks of few, of the chapter's example and of both laws. Condition: none.
-/
import Derived.Test.YtenjhklkljeijaaSchRun
namespace Go.Fw
open Go.RowKit Go.WideShapes Go.ChangeShapes Go.Deep Go.Joins
set_option linter.unusedVariables false
def fewT (t : Toy) : Bool := !(decide (t.phase < 0) || decide (1000 < t.phase) || decide (1000 < t.left))
def fewB (l : List Toy) (n m : Nat) : Bool := l.all fewT && (decide (n ≤ 12) && decide (m ≤ 100))
theorem fewT_iff {t : Toy} (h : fewT t = true) : t.few := by
  unfold fewT at h
  simp at h
  exact ⟨h.2, h.1.1, h.1.2⟩
theorem fewB_true {l : List Toy} {n m : Nat} (h : fewB l n m = true) : (∀ t ∈ l, t.few) ∧ n ≤ 12 ∧ m ≤ 100 := by
  unfold fewB at h
  simp only [Bool.and_eq_true, decide_eq_true_eq] at h
  exact ⟨fun t ht => fewT_iff (List.all_eq_true.1 h.1 t ht), h.2.1, h.2.2⟩
theorem fewB_bad {l : List Toy} {n m k : Nat} (hk : k < l.length) (h : fewT l[k] = false) : fewB l n m = false := by
  have : l.all fewT = false := by
    rw [Bool.eq_false_iff]
    intro ha
    rw [List.all_eq_true.1 ha _ (List.getElem_mem hk)] at h
    cases h
  unfold fewB
  rw [this]
  rfl
theorem fewB_all {l : List Toy} {n m : Nat} (h : ∀ (k : Nat) (hk : k < l.length), fewT l[k] = true) : fewB l n m = (decide (n ≤ 12) && decide (m ≤ 100)) := by
  have : l.all fewT = true := List.all_eq_true.2 fun t ht => by
    obtain ⟨k, hk, rfl⟩ := List.getElem_of_mem ht
    exact h k hk
  unfold fewB
  rw [this]
  rfl
theorem arg_recs {α : Type} (f : α → List Value) (to : List Int → α) (s : Nat) (hto : ∀ r : List Int, r.length = s → r.map i64v = f (to r)) (hs : 0 < s)
    {H : Type} {enc : TypeId × Value → H} {P : Program} {W : World} {base : Nat} {t e : TypeId} {fs : Array Field} {v : Value} {d : DataW H} {p : List MemPlace} (ht : P.underlying t = some (.slice e)) (he : P.underlying e = some (.struct fs)) (hone : oneCellFields P fs = true) (hC : P.cellsOf e = s) (hsz : fs.size = s)
    (hints : fs.all (fun f => isI64 (P.underlying f.type)) = true)
    (hv : Value.okWide P W .any base t v) (h : DataW.Trod enc P W 0 (fun _ => true) true t v d p) :
    ∃ (A : Option Addr) (c : Nat) (l : List α), v = .slice A l.length c ∧ (l.length ≤ maxLen ∧ l.length ≤ c) ∧ (∀ a ∈ l, ∃ r : List Int, r.length = s ∧ (∀ n ∈ r, In64 n) ∧ a = to r) ∧ Reads W W.heap.size s A l.length (l.flatMap f) := by
  obtain ⟨A, c, rows, rfl, hl, hr, hR⟩ := arg_rows ht he hone (by rw [hC, hsz]) (nums_of hints) (by omega) hv h
  refine ⟨A, c, rows.map to, by simp, by simpa using hl, fun a ha => ?_, ?_⟩
  · obtain ⟨r, hr', rfl⟩ := List.mem_map.1 ha
    exact ⟨r, (hr r hr').1.trans hsz, (hr r hr').2, rfl⟩
  · have e1 : (rows.flatMap fun r => r.map i64v) = (rows.map to).flatMap f := by
      rw [List.flatMap_map]
      have : ∀ rs : List (List Int), (∀ r ∈ rs, r.length = s) → (rs.flatMap fun r => r.map i64v) = rs.flatMap fun r => f (to r) := by
        intro rs
        induction rs with
        | nil => intro _; rfl
        | cons r rs ih =>
          intro hrs
          rw [List.flatMap_cons, List.flatMap_cons, hto r (hrs r (by simp)), ih (fun r' hr' => hrs r' (by simp [hr']))]
      exact this rows fun r hr' => (hr r hr').1.trans hsz
    rw [e1, hsz] at hR
    simpa using hR
def toToy (r : List Int) : Toy := ⟨r.getD 0 0, r.getD 1 0, r.getD 2 0⟩
theorem toToy_cells {r : List Int} (h : r.length = 3) : r.map i64v = (toToy r).cells := by
  match r, h with
  | [a, b, c], _ => rfl
theorem arg_toys {H : Type} {enc : TypeId × Value → H} {P : Program} {W : World} {base : Nat} {t e : TypeId} {fs : Array Field} {v : Value} {d : DataW H} {p : List MemPlace} (ht : P.underlying t = some (.slice e)) (he : P.underlying e = some (.struct fs)) (hone : oneCellFields P fs = true) (hC : P.cellsOf e = 3) (hsz : fs.size = 3)
    (hints : fs.all (fun f => isI64 (P.underlying f.type)) = true)
    (hv : Value.okWide P W .any base t v) (h : DataW.Trod enc P W 0 (fun _ => true) true t v d p) :
    ∃ (A : Option Addr) (c : Nat) (l : List Toy), v = .slice A l.length c ∧ (l.length ≤ maxLen ∧ l.length ≤ c) ∧ (∀ a ∈ l, a.ok) ∧ Reads W W.heap.size 3 A l.length (toyV l) := by
  obtain ⟨A, c, l, rfl, hl, hok, hr⟩ := arg_recs Toy.cells toToy 3 (fun _ => toToy_cells) (by decide) ht he hone hC hsz hints hv h
  refine ⟨A, c, l, rfl, hl, fun a ha => ?_, hr⟩
  obtain ⟨r, h1, h2, rfl⟩ := hok a ha
  match r, h1 with
  | [a, b, c], _ => exact ⟨h2 a (by simp), h2 b (by simp), h2 c (by simp)⟩
theorem arg_u8 {H : Type} {enc : TypeId × Value → H} {P : Program} {W : World} {base : Nat} {t : TypeId} {v : Value} {d : DataW H} {p : List MemPlace} (ht : P.underlying t = some (.int .u8))
    (hv : Value.okWide P W .any base t v) (h : DataW.Trod enc P W 0 (fun _ => true) true t v d p) : ∃ n : Int, v = .int .u8 n ∧ 0 ≤ n ∧ n ≤ 255 := by
  obtain ⟨x, rfl, _, _, wx⟩ := open_int ht hv h
  exact ⟨x, rfl, by simpa [Lit.wf, IntKind.min, IntKind.max, IntKind.signed, IntKind.bits] using wx⟩
end Go.Fw
namespace Go.Proofs.Ytenjhklkljeijaa
open Go.RowKit Go.Fw
set_option maxHeartbeats 2000000
set_option maxRecDepth 4000
set_option linter.unusedVariables false
set_option linter.unusedSimpArgs false

theorem few_any (l : List Toy) (A Ap : Option Addr) (c cp n m : Nat) (w : World) (hr : Reads w w.heap.size 3 A n (toyV l)) (hn : n ≤ maxLen) (hm : m ≤ maxLen) :
    Calls Try.prog 8 #[.slice A n c, .slice Ap m cp] w fun e w' => e = .returned (.bool (fewB l n m)) ∧ Below w.heap.size w w' := by
  have hl := toy_len hr
  have HL := Lib.hid hl
  unfold maxLen at hn hm
  clear hl
  go_enter Try.func8, Try.ntmps8
  go_wp2
  go_loopw [9] (fun i wr => ∃ (k : Nat), k ≤ n ∧ i = .int .i64 k ∧ Hid (∀ (j : Nat) (h : j < l.length), j < k → fewT l[j] = true) ∧ Below w.heap.size w wr) (fun i _ => n - (intOf i).toNat)
  case atStart => exact ⟨0, by omega, rfl, Lib.hid (fun j _ h => by omega), Below.refl _ _⟩
  case round =>
    obtain ⟨k, hk, rfl, HF, hb⟩ := hrel
    by_cases hlt : k < n
    · have hkl : k < l.length := by have := HL.out; omega
      obtain ⟨bl, off, rfl, _, g0, g1, g2⟩ := toy_at (hr.up hb) hkl
      have hbad := fewB_bad (n := n) (m := m) hkl
      have hgood : fewT l[k] = true → ∀ (j : Nat) (h : j < l.length), j < k + 1 → fewT l[j] = true := fun h j hj hjk => by
        by_cases e : j = k
        · subst e; exact h
        · exact HF.out j hj (by omega)
      have HB := Lib.hid (And.intro hbad hgood)
      have ht : fewT l[k] = !(decide (l[k].phase < 0) || decide (1000 < l[k].phase) || decide (1000 < l[k].left)) := rfl
      have HT := Lib.hid ht
      clear hbad hgood ht
      generalize l[k] = t at *
      obtain ⟨x0, x1, x2⟩ := t
      simp only at g0 g1 g2
      have hb2 : ∀ o, Below w.heap.size w (wr.alloc o) := fun o => sub_alloc hb o
      by_cases c1 : x2 < 0
      · have HX := Lib.hid (HB.out.1 (by rw [HT.out]; simp [c1]))
        go_wp2
        go_ret
        exact ⟨ret_b HX.out.symm, hb2 _⟩
      · by_cases c2 : 1000 < x2
        · have HX := Lib.hid (HB.out.1 (by rw [HT.out]; simp [c2]))
          go_wp2
          go_ret
          exact ⟨ret_b HX.out.symm, hb2 _⟩
        · by_cases c3 : 1000 < x0
          · have HX := Lib.hid (HB.out.1 (by rw [HT.out]; simp [c3]))
            go_wp2
            go_ret
            exact ⟨ret_b HX.out.symm, hb2 _⟩
          · have HX := Lib.hid (HB.out.2 (by rw [HT.out]; simp; omega))
            go_wp2
            go_roundw
            case rel => exact ⟨k + 1, by omega, by go_num, HX, hb2 _⟩
            case measure => simp [intOf]; omega
    · have HX : Hid (fewB l n m = (decide (n ≤ 12) && decide (m ≤ 100))) := fewB_all fun j hj => HF.out j hj (by have := HL.out; omega)
      by_cases c1 : n ≤ 12
      · go_wp2
        go_ret
        exact ⟨ret_b (by rw [HX.out]; simp [c1]; try omega), hb⟩
      · go_wp2
        go_ret
        exact ⟨ret_b (by rw [HX.out]; simp [c1]), hb⟩

theorem tasks_at (l : List Toy) (A : Option Addr) (c n : Nat) (w : World) (hr : Reads w w.heap.size 3 A n (toyV l)) (hn : n ≤ 1000) :
    Calls Try.prog 9 #[.slice A n c] w fun e w' => ∃ B d es cb, e = .returned (.tuple #[.slice B n d, .pointer (some ⟨cb, 0, none⟩)]) ∧ Below w.heap.size w w' ∧ Reads w' w'.heap.size 1 B n (es.map tkV) ∧ (∀ ad, B = some ad → ¬ InT es cb ad.block) ∧ Tasks w' es l cb 0 ∧ (∀ k, InT es cb k → w.heap.size ≤ k) := by
  refine (tasks_any l A c n w hr hn).mono ?_
  rintro e w' ⟨v, es, cb, rfl, hm, hT, hin, _⟩
  have hne := hT.own_ne hm.own
  obtain ⟨B, d, rfl, _, _, hq⟩ := hm.form
  refine ⟨B, d, es, cb, rfl, hm.below, hq, fun ad e h => ?_, hT, hin⟩
  subst e
  exact hne _ h rfl

theorem Tasks.snocNil {w : World} {es : List (Option Nat)} {ts : List Toy} {cb : Nat} {u : Int} (h : Tasks w es ts cb u) {t : Toy} (hl : t.left < 1) : Tasks w (es ++ [none]) (ts ++ [t]) cb u := by
  refine ⟨by simp [h.len], fun k h1 h2 => ?_, h.clock, fun i j hi hj q e1 e2 => ?_⟩
  · by_cases hk : k < es.length
    · have hk2 : k < ts.length := by rw [← h.len]; exact hk
      rw [List.getElem_append_left hk, List.getElem_append_left hk2]
      exact h.toy k hk hk2
    · have hl := h.len
      have hke : k = es.length := by simp at h1; omega
      rw [List.getElem_append_right (by omega), List.getElem_append_right (by omega)]
      simp only [hke, hl, Nat.sub_self, List.getElem_cons_zero]
      assumption
  · by_cases hi2 : i < es.length
    · by_cases hj2 : j < es.length
      · rw [List.getElem_append_left hi2] at e1
        rw [List.getElem_append_left hj2] at e2
        exact h.apart i j hi2 hj2 q e1 e2
      · rw [List.getElem_append_right (by omega)] at e2
        simp at e2
    · rw [List.getElem_append_right (by omega)] at e1
      simp at e1
theorem inT_nil {es : List (Option Nat)} {cb k : Nat} (h : InT (es ++ [none]) cb k) : InT es cb k := by
  rcases h with h | h
  · rcases List.mem_append.1 h with h | h
    · exact .inl h
    · simp at h
  · exact .inr h
/-- what holds of toys and steps behind a run -/
theorem runW_facts {go : Nat → Bool} (ps : List Int) : ∀ (u : Int) (ts : List Toy) (st : List Int) (n : Nat), TsOk ts → st.length = ts.length → (∀ x ∈ st, 0 ≤ x ∧ x ≤ n) →
    TsOk (runW go u ts st n ps).2.2 ∧ (runW go u ts st n ps).2.1.length = ts.length ∧ (runW go u ts st n ps).2.2.length = ts.length ∧ (∀ x ∈ (runW go u ts st n ps).2.1, 0 ≤ x ∧ x ≤ (runW go u ts st n ps).1) ∧ n ≤ (runW go u ts st n ps).1 ∧ (runW go u ts st n ps).1 ≤ n + ps.length := by
  induction ps with
  | nil => intro u ts st n h1 h2 h3; exact ⟨h1, h2, rfl, h3, Nat.le_refl _, by simp [runW]⟩
  | cons p r ih =>
    intro u ts st n h1 h2 h3
    rcases nextL_cases ts u p with hc | ⟨b, hb, hc, hrd⟩
    · rw [runW, if_pos (by omega)]
      exact ⟨h1, h2, rfl, h3, Nat.le_refl _, by simp⟩
    · have hbs : b < st.length := by omega
      have hleft : 1 ≤ ts[b].left := by
        unfold readyT at hrd
        split at hrd
        · cases hrd
        · omega
      have g1 := h1.step hb hleft
      have g2 : (st.set b (st[b] + 1)).length = (ts.set b (toyStep ts[b])).length := by simp [h2]
      have g3 : ∀ x ∈ st.set b (st[b] + 1), 0 ≤ x ∧ x ≤ ((n + 1 : Nat) : Int) := by
        intro x hx
        have hsb := h3 _ (List.getElem_mem hbs)
        rcases List.mem_or_eq_of_mem_set hx with hx | rfl
        · have := h3 x hx; omega
        · omega
      cases hg : go n with
      | true =>
        have e := runW_on (go := go) (u := u) (ts := ts) (st := st) (n := n) (ps := p :: r) (k := 0) (b := b) (by simp) hc hb hbs hg
        rw [List.drop_zero] at e
        rw [e]
        simp only [List.drop_succ_cons, List.drop_zero]
        obtain ⟨k1, k2, k3, k4, k5, k6⟩ := ih (u + 1) _ _ (n + 1) g1 g2 g3
        simp only [List.length_set] at k2 k3
        exact ⟨k1, k2, k3, k4, by omega, by simp; omega⟩
      | false =>
        have e := runW_stop (go := go) (u := u) (ts := ts) (st := st) (n := n) (ps := p :: r) (k := 0) (b := b) (by simp) hc hb hbs hg
        rw [List.drop_zero] at e
        rw [e]
        exact ⟨g1, by simpa using g2, by simp, g3, by simp, by simp⟩
theorem runAll_facts {u : Int} {ts : List Toy} {n : Nat} {ps : List Int} (h : TsOk ts) (hn : n = ts.length) :
    TsOk (runAll u ts n ps).2.2 ∧ (runAll u ts n ps).2.1.length = n ∧ (runAll u ts n ps).2.2.length = n ∧ (∀ x ∈ (runAll u ts n ps).2.1, 0 ≤ x ∧ x ≤ (runAll u ts n ps).1) ∧ (runAll u ts n ps).1 ≤ ps.length := by
  subst hn
  obtain ⟨h1, h2, h3, h4, _, h6⟩ := runW_facts (go := fun _ => true) ps u ts (List.replicate ts.length 0) 0 h (by simp) (by simp)
  exact ⟨h1, h2, h3, h4, by simpa [runAll] using h6⟩

theorem awake27_any (w : World) : Calls Try.prog 7 #[] w fun e w' => e = .returned (.bool true) ∧ Below w.heap.size w w' := by
  have hres : ((3, [1, 2, 0], [⟨0, 0, 0⟩, ⟨0, 0, 0⟩, ⟨0, 0, 0⟩]) : Nat × List Int × List Toy) = runAll 0 [⟨1, 0, 0⟩, ⟨2, 0, 0⟩, ⟨0, 0, 0⟩] 3 [-1, 0, 0, 5, 5] := by decide
  have hsk : stuckB 0 (3, [1, 2, 0], [⟨0, 0, 0⟩, ⟨0, 0, 0⟩, ⟨0, 0, 0⟩]) = false := by decide
  have hf : firstN (-1) 3 = 2 := by decide
  have hnx : ∀ u, nextL [] u 3 = -1 := fun _ => rfl
  have HRES := Lib.hid hres
  have HSK := Lib.hid hsk
  have HF := Lib.hid hf
  have HNX := Lib.hid hnx
  have hb0 := sub_alloc (Below.refl _ w) (.cells #[.int .i64 1, .int .i64 0, .int .i64 0, .int .i64 2, .int .i64 0, .int .i64 0] 49)
  clear hres hsk hf hnx
  go_enter Try.func7, Try.ntmps7
  go_wp2_with fail
  refine (tasks_any [⟨1, 0, 0⟩, ⟨2, 0, 0⟩] _ _ 2 _ (reads_newS w 49 #[.int .i64 1, .int .i64 0, .int .i64 0, .int .i64 2, .int .i64 0, .int .i64 0] 3 2 _ _ rfl rfl (by simp)) (by omega)).mono ?_
  rintro e w1 ⟨v, es, cb, rfl, hm, hT, hin, _⟩
  have hb1 := sub_trans hb0 hm.below
  go_wp2_with (at_builtin; go_must (refine wpList_append_oneG elemTask (by decide) rfl (.tmp 11) (.tmp 12) rfl rfl hm.own hm.le rfl rfl rfl (by simp [Value.oneCell']) (by omega) (by unfold maxLen; omega) ?_); intro v' w2 hm' hg')
  have hT2 := (hT.grown hg' (hT.own_ne hm.own)).snocNil (t := ⟨0, 0, 0⟩) (by decide)
  have hm2 := hm.app hg' hm'
  have hb2 := sub_trans hb0 hm2.below
  have hne := fun k (h : InT (es ++ [none]) cb k) => hT2.own_ne hm2.own k h
  obtain ⟨B, d, rfl, _, _, hq⟩ := hm2.form
  have hq2 : Reads w2 w2.heap.size 1 B 3 ((es ++ [none]).map tkV) := by simpa [tkV] using hq
  have hin2 : ∀ k, InT (es ++ [none]) cb k → w.heap.size ≤ k := fun k h => by have := hin k (inT_nil h); simp at this; omega
  have hTa := hT2.alloc (.cells #[.int .i64 (-1), .int .i64 0, .int .i64 0, .int .i64 5, .int .i64 5] 3)
  have hqa := (hq2.alloc (Nat.le_refl _) (.cells #[.int .i64 (-1), .int .i64 0, .int .i64 0, .int .i64 5, .int .i64 5] 3)).more (B' := (w2.alloc (.cells #[.int .i64 (-1), .int .i64 0, .int .i64 0, .int .i64 5, .int .i64 5] 3)).heap.size) (by simp)
  have hba := sub_alloc hb2 (.cells #[.int .i64 (-1), .int .i64 0, .int .i64 0, .int .i64 5, .int .i64 5] 3)
  clear hm hm' hg' hm2 hq hq2 hb1 hT
  go_wp2_with fail
  refine (run_any (es ++ [none]) [⟨1, 0, 0⟩, ⟨2, 0, 0⟩, ⟨0, 0, 0⟩] cb 0 [-1, 0, 0, 5, 5] _ _ _ _ 3 5 _ hTa ⟨by intro t ht; simp at ht; rcases ht with rfl | rfl | rfl <;> exact ⟨⟨by decide, by decide⟩, ⟨by decide, by decide⟩, ⟨by decide, by decide⟩⟩, by intro t ht; simp at ht; rcases ht with rfl | rfl | rfl <;> exact ⟨by decide, by decide, by decide⟩⟩ hqa (fun ad e _ h => by subst e; exact hne _ h rfl) (reads_newS w2 3 #[.int .i64 (-1), .int .i64 0, .int .i64 0, .int .i64 5, .int .i64 5] 1 5 _ _ rfl rfl (by simp)) (fun ad e _ h => by injection e with e; subst e; have := hT2.in_lt h; simp at this) (small_of (by decide)) (by omega) (by omega) (by omega)).mono ?_
  rintro e w3 ⟨B3, d3, rfl, hq3, hB3, hT3, hK3⟩
  rw [← HRES.out] at hq3 hT3 ⊢
  rw [HSK.out]
  have hb3 := hba.trans (hK3.below (B := w.heap.size) (by have := hba.size; omega) hin2)
  have hq3' : Reads w3 w3.heap.size 1 B3 3 (i64s [1, 2, 0]) := hq3
  have hT4 := hT3.alloc (.cells #[.int .i64 3, .slice B3 3 d3, .bool false] 31)
  have hcl := hT4.clock
  have k4 := Blk.new_at w3 31 #[.int .i64 3, .slice B3 3 d3, .bool false] (g := w3.heap.size) rfl
  have hq4 := (hq3'.alloc (Nat.le_refl _) (.cells #[.int .i64 3, .slice B3 3 d3, .bool false] 31)).more (B' := (w3.alloc (.cells #[.int .i64 3, .slice B3 3 d3, .bool false] 31)).heap.size) (by simp)
  have hb4 := (hb3.alloc (o := .cells #[.int .i64 3, .slice B3 3 d3, .bool false] 31) (by have := hb3.size; omega))
  clear hTa hqa hba hK3 hB3 hq3 hq3' hT3 hT2 hne hin hin2 hb0 hb2 hT4
  go_wp2_with fail
  refine (first_any (-1) 3 _ ⟨by decide, by decide⟩ ⟨by decide, by decide⟩).mono ?_
  rintro e w4 ⟨rfl, rfl⟩
  rw [HF.out]
  go_wp2_with fail
  refine (next_any [] [] cb _ 3 _ _ 0 0 _ ⟨rfl, fun k h _ => by simp at h, hcl, fun i j h => by simp at h⟩ Reads.none_ (by omega) (by omega) ⟨by simp, by simp⟩ (by simp) ⟨by decide, by decide⟩).mono ?_
  rintro e w5 ⟨rfl, hb5⟩
  rw [HNX.out]
  have k5 := k4.later hb5
  have hq5 := hq4.up hb5
  have hb6 := hb4.trans (hb5.mono hb4.size)
  have c0 := k5.cell 0
  have c1 := k5.cell 1
  have c2 := k5.cell 2
  have lk := k5.lt
  simp at c0 c1 c2
  clear hq4 hb4 hb5 k4 hcl k5
  go_wp2_with fail
  have hq6 := (hq5.alloc (Nat.le_refl _) (.cells #[.int .i64 1, .int .i64 2, .int .i64 0] 3)).more (B' := w5.heap.size + 1) (by simp)
  refine (same7_any [1, 2, 0] [1, 2, 0] _ _ _ _ 3 3 (w5.heap.size + 1) _ hq6 (reads_new_at w5 3 #[.int .i64 1, .int .i64 2, .int .i64 0] 3 _ _ rfl rfl rfl) (by omega) (by omega) (small_of (by decide)) (small_of (by decide))).mono ?_
  rintro e w6 ⟨rfl, hb7⟩
  rw [decide_eq_true (rfl : ([1, 2, 0] : List Int) = [1, 2, 0])]
  have hb8 := sub_trans (sub_alloc hb6 (.cells #[.int .i64 1, .int .i64 2, .int .i64 0] 3)) hb7
  have d2 := (hb7.cell (p := ⟨w3.heap.size, 2, none⟩) (by simp; omega)).trans ((World.cell?_alloc_lt w5 _ _ lk).trans c2)
  clear c0 c1 c2 hb7 hq5 hq6
  go_wp2
  go_ret
  exact ⟨rfl, hb8⟩

theorem toysOk {l : List Toy} {n m : Nat} (hok : ∀ a ∈ l, a.ok) (h : fewB l n m = true) : TsOk l := ⟨hok, (fewB_true h).1⟩
theorem schedNext_walk (l : List Toy) (A : Option Addr) (c : Nat) (pick : Int) (x : Int) (w : World) (hr : Reads w w.heap.size 3 A l.length (toyV l)) (hok : ∀ a ∈ l, a.ok) (hlc : l.length ≤ maxLen ∧ l.length ≤ c) (hp : -9223372036854775808 ≤ pick ∧ pick ≤ 9223372036854775807) (hx : -9223372036854775808 ≤ x ∧ x ≤ 9223372036854775807) :
    Calls Try.prog 4 #[.slice A l.length c, .int .i64 pick, .int .i64 x] w fun e w' => e = .returned (.bool true) ∧ Below w.heap.size w w' := by
  have hl := hlc.1
  clear hlc
  obtain ⟨n, hn⟩ : ∃ n, n = l.length := ⟨_, rfl⟩
  have HN := Lib.hid hn
  rw [← hn] at hr hl ⊢
  clear hn
  have hpi : In64 pick := hp
  have hxi : In64 x := hx
  cases hfb : fewB l n 0 with
  | false =>
    have HB := Lib.hid hfb
    clear hfb hp hx
    go_enter Try.func4, Try.ntmps4
    go_wp2_with fail
    refine (awake27_any w).mono ?_
    rintro e w1 ⟨rfl, hb⟩
    go_wp2_with fail
    refine (few_any l _ _ _ _ _ 0 _ (hr.up hb) hl (by unfold maxLen; omega)).mono ?_
    rintro e w2 ⟨rfl, hb2⟩
    rw [HB.out]
    have hb3 := sub_trans hb hb2
    go_wp2
    go_ret
    exact ⟨rfl, hb3⟩
  | true =>
    have hts := toysOk hok hfb
    obtain ⟨_, hn12, _⟩ := fewB_true hfb
    have HB := Lib.hid hfb
    clear hfb hp hx
    go_enter Try.func4, Try.ntmps4
    go_wp2_with fail
    refine (awake27_any w).mono ?_
    rintro e w1 ⟨rfl, hb⟩
    have hr1 := hr.up hb
    go_wp2_with fail
    refine (few_any l _ _ _ _ _ 0 _ hr1 hl (by unfold maxLen; omega)).mono ?_
    rintro e w2 ⟨rfl, hb2⟩
    rw [HB.out]
    have hb3 := sub_trans hb hb2
    have hr2 := hr1.up hb2
    go_wp2_with fail
    refine (tasks_at l _ _ _ _ hr2 (by omega)).mono ?_
    rintro e w3 ⟨B, d, es, cb, rfl, hb4, hq, hqA, hT, hin⟩
    have hb5 := sub_trans hb3 hb4
    have hr3 := hr2.up hb4
    clear hr hr1 hr2 hb hb2 hb3 hb4
    go_wp2_with fail
    refine (first_any pick x _ hpi hxi).mono ?_
    rintro e w4 ⟨rfl, rfl⟩
    go_wp2_with fail
    refine (rfirst_any pick x _ hpi hxi).mono ?_
    rintro e w4 ⟨rfl, rfl⟩
    go_wp2_with fail
    refine (next_any es l cb 0 pick _ _ _ _ _ hT hq (Nat.le_refl _) (by omega) hts (by omega) hpi).mono ?_
    rintro e w5 ⟨rfl, hb6⟩
    have hr4 := hr3.up hb6
    have hb7 := sub_trans hb5 hb6
    go_wp2_with fail
    refine (rnext_any l 0 pick _ _ _ _ _ hr4 (Nat.le_refl _) (by omega) hts (by omega) hpi).mono ?_
    rintro e w6 ⟨rfl, hb8⟩
    have hb9 := sub_trans hb7 hb8
    go_wp2
    go_ret
    exact ⟨ret_b (by simp), hb9⟩
end Go.Proofs.Ytenjhklkljeijaa
