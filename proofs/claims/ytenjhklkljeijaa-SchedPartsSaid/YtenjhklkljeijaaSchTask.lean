/-
  Tasks in memory: what a step does; the walks of tasks and few. Condition: none.
-/
import Derived.Test.YtenjhklkljeijaaSchNext
namespace Go.Proofs.Ytenjhklkljeijaa
open Go.RowKit Go.Fw
set_option maxHeartbeats 1000000
set_option maxRecDepth 4000
set_option linter.unusedVariables false
set_option linter.unusedSimpArgs false

section
variable {w w' : World} {es : List (Option Nat)} {ts : List Toy} {cb : Nat} {u : Int}
theorem Tasks.turn (h : Tasks w es ts cb u) (hk : ∀ k, InT es cb k → w'.heap[k]? = w.heap[k]?) : Tasks w' es ts cb u := by
  refine ⟨h.len, fun k h1 h2 => ?_, (hk cb (.inr rfl)).trans h.clock, h.apart⟩
  have := h.toy k h1 h2
  have hm : ∀ p, es[k] = some p → w'.heap[p]? = w.heap[p]? := fun p e => hk p (.inl (e ▸ List.getElem_mem h1))
  revert this hm
  cases es[k] with
  | none => exact fun hb _ => hb
  | some p => exact fun hb hm => (hm p rfl).trans hb
theorem Tasks.grown {row : Option Nat} (h : Tasks w es ts cb u) (hg : w.grownBy w' row) (hne : ∀ k, InT es cb k → some k ≠ row) : Tasks w' es ts cb u :=
  h.turn fun k hk => hg.block k (h.in_lt hk) (hne k hk)
theorem Tasks.far (h : Tasks w es ts cb u) {p : Addr} (hp : ¬ InT es cb p.block) (v : Value) : Tasks (w.setCell p v) es ts cb u :=
  h.turn fun k hk => Below.heap_setCell w p v k (fun e => hp (e ▸ hk))
theorem Tasks.alloc (h : Tasks w es ts cb u) (o : Obj) : Tasks (w.alloc o) es ts cb u := h.turn fun k hk => Below.heap_alloc w o k (h.in_lt hk)
theorem Tasks.drew (h : Tasks w es ts cb u) : Tasks w.drew es ts cb u := h.turn fun _ _ => rfl
theorem Tasks.own_ne {base n : Nat} {v : Value} {xs : List Value} (h : Tasks w es ts cb u) (ho : w.ownsRow base 57 1 v n xs) : ∀ k, InT es cb k → some k ≠ v.ownBlock := by
  intro k hk
  rcases hk with hk | rfl
  · obtain ⟨i, hi, e⟩ := List.getElem_of_mem hk
    have := h.toy i hi (by rw [← h.len]; exact hi)
    rw [e] at this
    exact Ne.symm (Go.Fw.own_ne ho (show Blk w k _ _ from this) (by decide))
  · exact Ne.symm (Go.Fw.own_ne ho h.clock (by decide))
theorem Tasks.snoc (h : Tasks w es ts cb u) {p : Nat} {t : Toy} (hb : Blk w p 54 (toyC t cb)) (hne : some p ∉ es) : Tasks w (es ++ [some p]) (ts ++ [t]) cb u := by
  refine ⟨by simp [h.len], fun k h1 h2 => ?_, h.clock, fun i j hi hj q e1 e2 => ?_⟩
  · by_cases hk : k < es.length
    · have hk2 : k < ts.length := by rw [← h.len]; exact hk
      rw [List.getElem_append_left hk, List.getElem_append_left hk2]
      exact h.toy k hk hk2
    · have hl := h.len
      have hke : k = es.length := by simp at h1; omega
      rw [List.getElem_append_right (by omega), List.getElem_append_right (by omega)]
      simp only [hke, hl, Nat.sub_self, List.getElem_cons_zero]
      exact hb
  · by_cases hi2 : i < es.length <;> by_cases hj2 : j < es.length
    · rw [List.getElem_append_left hi2] at e1
      rw [List.getElem_append_left hj2] at e2
      exact h.apart i j hi2 hj2 q e1 e2
    · rw [List.getElem_append_left hi2] at e1
      rw [List.getElem_append_right (by omega)] at e2
      simp at e2
      subst e2
      exact absurd (e1 ▸ List.getElem_mem hi2) hne
    · rw [List.getElem_append_right (by omega)] at e1
      rw [List.getElem_append_left hj2] at e2
      simp at e1
      subst e1
      exact absurd (e2 ▸ List.getElem_mem hj2) hne
    · simp at hi hj; omega
theorem Tasks.step (h : Tasks w es ts cb u) {b p : Nat} (hb : b < es.length) (hb' : b < ts.length) (he : es[b] = some p) :
    Tasks ((w.setCell ⟨p, 0, none⟩ (.int .i64 (ts[b].left - 1))).setCell ⟨cb, 0, none⟩ (.int .i64 (u + 1))) es (ts.set b (toyStep ts[b])) cb (u + 1) := by
  have hpc := h.ne hb he
  refine ⟨by simp [h.len], fun k h1 h2 => ?_, ?_, h.apart⟩
  · have hk2 : k < ts.length := by simpa using h2
    have := h.toy k h1 hk2
    rw [List.getElem_set]
    by_cases e : b = k
    · subst e
      rw [if_pos rfl]
      rw [he] at this ⊢
      have hbk : Blk w p _ (toyC ts[b] cb) := this
      have h3 := (hbk.set_ 0 (.int .i64 (ts[b].left - 1))).far (p := ⟨cb, 0, none⟩) hpc (.int .i64 (u + 1))
      exact h3
    · rw [if_neg e]
      revert this
      cases hek : es[k] with
      | none => exact id
      | some q =>
        intro hq
        have hqp : q ≠ p := fun hh => e (h.apart b k hb h1 p he (hh ▸ hek))
        have hqc := h.ne h1 hek
        exact ((show Blk w q _ _ from hq).far (p := ⟨p, 0, none⟩) hqp _).far (p := ⟨cb, 0, none⟩) hqc _
  · exact ((h.clock.far (p := ⟨p, 0, none⟩) (Ne.symm hpc) _).set_ 0 _)
end
theorem TsOk.step {ts : List Toy} (h : TsOk ts) {b : Nat} (hb : b < ts.length) (hl : 1 ≤ ts[b].left) : TsOk (ts.set b (toyStep ts[b])) := by
  have h1 := h.ok _ (List.getElem_mem hb)
  have h2 := h.few _ (List.getElem_mem hb)
  obtain ⟨l, g, p⟩ := h1
  obtain ⟨f1, f2, f3⟩ := h2
  unfold In64 at *
  constructor
  · intro t ht
    rcases List.mem_or_eq_of_mem_set ht with ht | rfl
    · exact h.ok t ht
    · exact ⟨by unfold toyStep In64; simp only; omega, g, p⟩
  · intro t ht
    rcases List.mem_or_eq_of_mem_set ht with ht | rfl
    · exact h.few t ht
    · exact ⟨by unfold toyStep; simp only; omega, f2, f3⟩

theorem elemTask : ElemS Try.prog 26 57 .nilIface 1 16 := ⟨Try.underlying26, by kernel_rfl, rfl⟩

theorem tasks_any (l : List Toy) (A : Option Addr) (c n : Nat) (w : World) (hr : Reads w w.heap.size 3 A n (toyV l)) (hn : n ≤ 1000) :
    Calls Try.prog 9 #[.slice A n c] w fun e w' => ∃ v es cb, e = .returned (.tuple #[v, .pointer (some ⟨cb, 0, none⟩)]) ∧ MineS 1 w w' 57 v n (es.map tkV) ∧ Tasks w' es l cb 0 ∧ (∀ k, InT es cb k → w.heap.size ≤ k) ∧ (∀ e ∈ es, e ≠ none) := by
  have hl := toy_len hr
  have HL := Lib.hid hl
  clear hl
  have hc0 := Blk.new_at w 51 #[.int .i64 0] (g := w.heap.size) rfl
  go_enter Try.func9, Try.ntmps9
  go_wp2
  go_loopw [5, 12] (fun v i wr => ∃ (k : Nat) (es : List (Option Nat)), k ≤ n ∧ i = .int .i64 k ∧ MineS 1 w wr 57 v k (es.map tkV) ∧ Tasks wr es (l.take k) w.heap.size 0 ∧ (∀ j, InT es w.heap.size j → w.heap.size ≤ j) ∧ (∀ e ∈ es, e ≠ none)) (fun _ i _ => n - (intOf i).toNat)
  case atStart => exact ⟨0, [], by omega, rfl, MineS.nil_at 1 (sub_alloc (Below.refl _ _) _) _, ⟨rfl, fun k h _ => by simp at h, hc0, fun i j h => by simp at h⟩, fun j h => by rcases h with h | rfl; simp at h; exact Nat.le_refl _, by simp⟩
  case round =>
    clear hc0
    obtain ⟨k, es, hk, rfl, hm, hT, hin, hnn⟩ := hrel
    obtain ⟨v, hv⟩ : ∃ v, v = u5 := ⟨_, rfl⟩
    subst hv
    by_cases hlt : k < n
    · have hkl : k < l.length := by have := HL.out; omega
      obtain ⟨bl, off, rfl, hbl, g0, g1, g2⟩ := toy_at (hr.up hm.below) hkl
      have hs : l.take (k + 1) = l.take k ++ [l[k]] := List.take_succ_eq_append_getElem hkl
      generalize l[k] = t at *
      have HS := Lib.hid hs
      obtain ⟨x0, x1, x2⟩ := t
      simp only at g0 g1 g2
      have hm2 := (hm.alloc (.cells #[.int .i64 x0, .int .i64 x1, .int .i64 x2] 49)).alloc (.cells #[.int .i64 x0, .int .i64 x1, .int .i64 x2, .pointer (some ⟨w.heap.size, 0, none⟩)] 54)
      have hT2 := (hT.alloc (.cells #[.int .i64 x0, .int .i64 x1, .int .i64 x2] 49)).alloc (.cells #[.int .i64 x0, .int .i64 x1, .int .i64 x2, .pointer (some ⟨w.heap.size, 0, none⟩)] 54)
      have hbx := Blk.new_at (wr.alloc (.cells #[.int .i64 x0, .int .i64 x1, .int .i64 x2] 49)) 54 #[.int .i64 x0, .int .i64 x1, .int .i64 x2, .pointer (some ⟨w.heap.size, 0, none⟩)] (g := wr.heap.size + 1) (by simp)
      have hnp : some (wr.heap.size + 1) ∉ es := fun h => by have := hT.in_lt (.inl h); omega
      have hlew := hm.le
      clear hs
      go_wp2_with (at_builtin; go_must (refine wpList_append_oneG elemTask (by decide) rfl (.tmp 16) (.tmp 22) rfl rfl hm2.own hm2.le (by simp) rfl rfl (by simp [Value.oneCell']) (by omega) (by unfold maxLen; omega) ?_); intro v' w' hm' hg')
      have hT3 := hT2.grown hg' (hT2.own_ne hm2.own)
      have hbx2 := Blk.grown hbx hg' (Ne.symm (own_ne hm2.own hbx (by decide)))
      go_roundw
      case rel =>
        refine ⟨k + 1, es ++ [some (wr.heap.size + 1)], by omega, by go_num, ?_, ?_, ?_, ?_⟩
        · have h3 := hm2.app hg' hm'
          simpa [tkV] using h3
        · rw [HS.out]
          exact hT3.snoc (t := ⟨x0, x1, x2⟩) hbx2 hnp
        · intro j hj
          rcases hj with hj | rfl
          · rcases List.mem_append.1 hj with hj | hj
            · exact hin j (.inl hj)
            · simp at hj; omega
          · exact Nat.le_refl _
        · intro e he
          rcases List.mem_append.1 he with he | he
          · exact hnn e he
          · simp at he; subst he; simp
      case measure => simp [intOf]; omega
    · have hkn : k = n := by omega
      have e : l.take k = l := List.take_of_length_le (by have := HL.out; omega)
      rw [e] at hT
      rw [hkn] at hm
      clear e hkn
      go_wp2
      go_ret2
      exact ⟨_, es, _, rfl, hm, hT, hin, hnn⟩
end Go.Proofs.Ytenjhklkljeijaa
