/-
  Rows of the call's own whose head need not be the block's: what 'x = x[1:]' leaves, and appending to it. Condition: none.
-/
import Derived.Test.YtnikpgngaoaiiaaOwn
namespace Go.Fw
open Go.RowKit
set_option linter.unusedVariables false
set_option linter.unusedSimpArgs false

def setAll : Array Value → Nat → List Value → Array Value
  | cs, _, [] => cs
  | cs, o, v :: r => setAll (cs.setIfInBounds o v) (o + 1) r
theorem setAll_size (vs : List Value) : ∀ (cs : Array Value) (o : Nat), (setAll cs o vs).size = cs.size := by
  induction vs with
  | nil => intro cs o; rfl
  | cons v r ih => intro cs o; rw [setAll, ih]; simp
theorem setAll_out (vs : List Value) : ∀ (cs : Array Value) (o j : Nat), j < o ∨ o + vs.length ≤ j → (setAll cs o vs)[j]? = cs[j]? := by
  induction vs with
  | nil => intro cs o j _; rfl
  | cons v r ih =>
    intro cs o j h
    rw [setAll, ih _ _ _ (by simp at h; omega), Array.getElem?_setIfInBounds]
    rw [if_neg (by simp at h; omega)]
theorem setAll_in (vs : List Value) : ∀ (cs : Array Value) (o j : Nat), o + vs.length ≤ cs.size → j < vs.length → (setAll cs o vs)[o + j]? = vs[j]? := by
  induction vs with
  | nil => intro cs o j _ h; simp at h
  | cons v r ih =>
    intro cs o j hs h
    rw [setAll]
    simp only [List.length_cons] at hs h
    obtain _ | j := j
    · rw [Nat.add_zero, setAll_out _ _ _ _ (by omega), Array.getElem?_setIfInBounds, if_pos (by omega), if_pos (by omega)]
      rfl
    · rw [show o + (j + 1) = (o + 1) + j by omega, ih _ _ _ (by simp; omega) (by omega)]
      rfl
theorem Blk.setCells {g : Nat} {t : TypeId} (vs : List Value) : ∀ {w : World} {cs : Array Value} (o : Nat), Blk w g t cs → Blk (w.setCells g o vs) g t (setAll cs o vs) := by
  induction vs with
  | nil => intro w cs o h; exact h
  | cons v r ih => intro w cs o h; exact ih (o + 1) (h.set_ o v)
theorem heap_setCells {g k : Nat} (hk : k ≠ g) (vs : List Value) : ∀ (w : World) (o : Nat), (w.setCells g o vs).heap[k]? = w.heap[k]? := by
  induction vs with
  | nil => intro w o; rfl
  | cons v r ih => intro w o; exact (ih _ _).trans (Below.heap_setCell w ⟨g, o, none⟩ v k hk)
theorem size_setCells {g : Nat} (vs : List Value) : ∀ (w : World) (o : Nat), (w.setCells g o vs).heap.size = w.heap.size ∧ (w.setCells g o vs).os = w.os ∧ (w.setCells g o vs).tape = w.tape ∧ (w.setCells g o vs).output = w.output := by
  induction vs with
  | nil => intro w o; exact ⟨rfl, rfl, rfl, rfl⟩
  | cons v r ih =>
    intro w o
    obtain ⟨h1, h2, h3, h4⟩ := ih (w.setCell ⟨g, o, none⟩ v) (o + 1)
    exact ⟨h1.trans (by simp [World.setCell]), h2, h3, h4⟩

/-- v has n elements of s cells, xs, in a block of the call's own, from any place on -/
def TailRow (w : World) (B : Nat) (e : TypeId) (s : Nat) (v : Value) (n : Nat) (xs : List Value) : Prop :=
  xs.length = n * s ∧ ((v = .slice none 0 0 ∧ n = 0) ∨ ∃ g off cap cur, v = .slice (some ⟨g, off, none⟩) n cap ∧ B ≤ g ∧ Blk w g e cur ∧ n ≤ cap ∧ cap ≤ maxLen ∧ off + cap * s ≤ cur.size ∧ ∀ j u, xs[j]? = some u → cur[off + j]? = some u)
section
variable {w w' : World} {B s n : Nat} {e : TypeId} {v : Value} {xs : List Value}
theorem TailRow.nil_ (w : World) (B : Nat) (e : TypeId) (s : Nat) : TailRow w B e s (.slice none 0 0) 0 [] := ⟨by simp, .inl ⟨rfl, rfl⟩⟩
theorem TailRow.of_own (h : w.ownsRow B e s v n xs) : TailRow w B e s v n xs := by
  refine ⟨h.1, ?_⟩
  rcases h.2 with h2 | ⟨g, cap, cur, rfl, hB, hh, hnc, hc, hs, ht⟩
  · exact .inl h2
  · refine .inr ⟨g, 0, cap, cur, rfl, hB, hh, hnc, hc, by omega, fun j u hu => ?_⟩
    rw [← ht] at hu
    rw [List.getElem?_take] at hu
    split at hu
    · simpa using hu
    · cases hu
theorem TailRow.lt (h : TailRow w B e s v n xs) : ∀ k, v.ownBlock = some k → B ≤ k ∧ k < w.heap.size := by
  intro k hk
  rcases h.2 with ⟨rfl, _⟩ | ⟨g, off, cap, cur, rfl, hB, hh, _⟩
  · simp [Value.ownBlock] at hk
  · simp [Value.ownBlock] at hk
    subst hk
    exact ⟨hB, hh.lt⟩
theorem TailRow.turn (h : TailRow w B e s v n xs) (hk : ∀ k, v.ownBlock = some k → w'.heap[k]? = w.heap[k]?) : TailRow w' B e s v n xs := by
  refine ⟨h.1, ?_⟩
  rcases h.2 with h2 | ⟨g, off, cap, cur, rfl, hB, hh, h3⟩
  · exact .inl h2
  · exact .inr ⟨g, off, cap, cur, rfl, hB, (hk g rfl).trans hh, h3⟩
theorem TailRow.later (h : TailRow w B e s v n xs) (hb : Below w.heap.size w w') : TailRow w' B e s v n xs := h.turn fun k hk => hb.block k (h.lt k hk).2
theorem TailRow.lower {B' : Nat} (h : TailRow w B e s v n xs) (hb : B' ≤ B) : TailRow w B' e s v n xs := by
  refine ⟨h.1, ?_⟩
  rcases h.2 with h2 | ⟨g, off, cap, cur, h1, hB, h3⟩
  · exact .inl h2
  · exact .inr ⟨g, off, cap, cur, h1, Nat.le_trans hb hB, h3⟩
theorem TailRow.ne (h : TailRow w B e s v n xs) {g : Nat} {t : TypeId} {cs : Array Value} (hg : Blk w g t cs) (hne : e ≠ t) : v.ownBlock ≠ some g := by
  rcases h.2 with ⟨rfl, _⟩ | ⟨g', off, cap, cur, rfl, _, hh, _⟩
  · simp [Value.ownBlock]
  · intro he
    have : g' = g := by simpa [Value.ownBlock] using he
    subst this
    unfold Blk at hg hh
    rw [hh] at hg
    injection hg with hg
    injection hg with _ ht
    exact hne ht
theorem TailRow.form (h : TailRow w B e s v n xs) : ∃ A c, v = .slice A n c ∧ n ≤ c ∧ c ≤ maxLen ∧ Reads w w.heap.size s A n xs := by
  rcases h.2 with ⟨rfl, rfl⟩ | ⟨g, off, cap, cur, rfl, hB, hh, hnc, hc, hs, hx⟩
  · exact ⟨none, 0, rfl, Nat.le_refl _, by simp [maxLen], ⟨h.1, fun h => absurd h (by omega)⟩⟩
  · refine ⟨_, cap, rfl, hnc, hc, h.1, fun _ => ⟨_, rfl, hh.lt, fun j u hu => ?_⟩⟩
    rw [show (⟨g, off, none⟩ : Addr).add j = ⟨g, off + j, none⟩ by unfold Addr.add; split <;> simp_all]
    rw [hh.cell]
    exact hx j u hu
/-- without its first element -/
theorem TailRow.rest (h : TailRow w B e s v (n + 1) xs) : ∃ g off cap, v = .slice (some ⟨g, off, none⟩) (n + 1) (cap + 1) ∧ n ≤ cap ∧ cap < maxLen ∧
    TailRow w B e s (.slice (if cap + 1 = 1 then some ⟨g, off, none⟩ else some ((⟨g, off, none⟩ : Addr).add s)) n cap) n (xs.drop s) := by
  rcases h.2 with ⟨_, h2⟩ | ⟨g, off, cap, cur, rfl, hB, hh, hnc, hc, hs, hx⟩
  · omega
  · obtain ⟨cap, rfl⟩ : ∃ c, cap = c + 1 := ⟨cap - 1, by omega⟩
    refine ⟨g, off, cap, rfl, by omega, by omega, by rw [List.length_drop, h.1, Nat.succ_mul]; omega, .inr ?_⟩
    by_cases h0 : cap = 0
    · subst h0
      obtain rfl : n = 0 := by omega
      refine ⟨g, off, 0, cur, by simp, hB, hh, Nat.le_refl _, by simp [maxLen], by simp at hs ⊢; omega, fun j u hu => ?_⟩
      have hl := h.1
      rw [List.drop_eq_nil_of_le (by omega)] at hu
      simp at hu
    · refine ⟨g, off + s, cap, cur, ?_, hB, hh, by omega, by omega, by rw [Nat.succ_mul] at hs; omega, fun j u hu => ?_⟩
      · rw [if_neg (by omega), show (⟨g, off, none⟩ : Addr).add s = ⟨g, off + s, none⟩ by unfold Addr.add; split <;> simp_all]
      · rw [List.getElem?_drop] at hu
        have := hx (s + j) u hu
        rwa [← Nat.add_assoc] at this
end
section
variable {P : Program} {s : Nat} {w : World} {t e e' : TypeId} {z : Value} {bytes : Nat}
/-- one element more -/
theorem run_append_T (hT : ElemS P t e z s bytes) (hs0 : 0 < s) (ty : TypeId) {v : Value} {n B g : Nat} {xs : List Value} (hm : TailRow w B e s v n xs) (hB : B ≤ w.heap.size) (hg : g = w.heap.size) {cs : Array Value} (hcs : cs.size = s) (h1 : ∀ u ∈ cs.toList, u.oneCell' = true)
    (hlen : (n + 1) * bytes ≤ 140737488355328) (hle : n + 1 ≤ maxLen) :
    ∃ v' w', (Builtin.append_ #[t, t] ty #[v, .slice (some ⟨g, 0, none⟩) 1 1]).run P (w.alloc (.cells cs e')) = .ok v' w' ∧ TailRow w' B e s v' (n + 1) (xs ++ cs.toList) ∧ w.grownBy w' v.ownBlock ∧ w.heap.size < w'.heap.size := by
  subst hg
  obtain ⟨i, hi, hz, hsz, hby⟩ := info_parts hT.info
  have hl1 : cs.toList.length = 1 * i.size := by simp [hcs, hsz]
  have hnews : ∀ j u, cs.toList[j]? = some u → (w.alloc (.cells cs e')).cell? ((⟨w.heap.size, 0, none⟩ : Addr).add j) = some u := by
    intro j u hu
    rw [show (⟨w.heap.size, 0, none⟩ : Addr).add j = ⟨w.heap.size, j, none⟩ by unfold Addr.add; split <;> simp_all]
    rw [World.cell?_alloc_mark]
    simpa using hu
  have lower : ∀ {w' : World} {row : Option Nat}, (w.alloc (.cells cs e')).grownBy w' row → w.grownBy w' row := fun h3 =>
    ⟨h3.os, h3.tape, h3.output, Nat.le_trans (by simp) h3.size, fun k hk hne => (h3.block k (by simp; omega) hne).trans (Below.heap_alloc w _ k hk)⟩
  rcases hm.2 with ⟨rfl, rfl⟩ | ⟨g, off, cap, cur, rfl, hgB, hh, hnc, hc, hsc, hx⟩
  · have hx : xs = [] := List.eq_nil_of_length_eq_zero (by simpa using hm.1)
    subst hx
    obtain ⟨v', w', hr, h2, h3, _⟩ := run_append_own_at (P := P) (w.alloc (.cells cs e')) B t ty e i z s bytes hT.under hi hz hsz hby hT.cells hs0 (.slice none 0 0) 0 [] (World.ownsRow_nil _ _ _ _) ⟨w.heap.size, 0, none⟩ 1 1 cs.toList (by rw [hl1, hsz]) hnews h1 hle hlen (by simp; omega)
    exact ⟨v', w', hr, TailRow.of_own h2, lower h3, Nat.lt_of_lt_of_le (by simp) h3.size⟩
  · have hh1 : Blk (w.alloc (.cells cs e')) g e cur := hh.alloc _
    have hcl : cs.toList.length = s := by simp [hcs]
    by_cases hroom : n + 1 ≤ cap
    · have hfit : off + n * s + s ≤ cur.size := by
        have : (n + 1) * s ≤ cap * s := Nat.mul_le_mul_right _ hroom
        rw [Nat.succ_mul] at this
        omega
      have hr := run_append_room_cells (P := P) (w.alloc (.cells cs e')) t ty e i hT.under hi g off n cap ⟨w.heap.size, 0, none⟩ 1 1 cs.toList hl1 hnews h1 hroom
        (fun j hj => by rw [hsz, hh1.cell, Array.getElem?_eq_getElem (by omega)]; rfl) (fun j _ => hh1.frozen _)
      rw [hsz] at hr
      refine ⟨_, _, hr, ⟨by rw [List.length_append, hm.1, hcl, Nat.succ_mul], .inr ⟨g, off, cap, setAll cur (off + n * s) cs.toList, rfl, hgB, hh1.setCells _ _, hroom, hc, by rw [setAll_size]; exact hsc, fun j u hu => ?_⟩⟩, ?_, ?_⟩
      · by_cases hj : j < n * s
        · rw [List.getElem?_append_left (by rw [hm.1]; exact hj)] at hu
          rw [setAll_out _ _ _ _ (by omega)]
          exact hx j u hu
        · rw [List.getElem?_append_right (by rw [hm.1]; omega), hm.1] at hu
          have hjl : j - n * s < cs.toList.length := (List.getElem?_eq_some_iff.1 hu).1
          rw [show off + j = off + n * s + (j - n * s) by omega, setAll_in _ _ _ _ (by rw [hcl]; exact hfit) hjl]
          exact hu
      · obtain ⟨q1, q2, q3, q4⟩ := size_setCells (g := g) cs.toList (w.alloc (.cells cs e')) (off + n * s)
        refine lower ⟨q2, q3, q4, by omega, fun k hk hne => heap_setCells (fun e => hne (by simp [Value.ownBlock, e])) _ _ _⟩
      · obtain ⟨q1, _⟩ := size_setCells (g := g) cs.toList (w.alloc (.cells cs e')) (off + n * s)
        rw [q1]
        simp
    · obtain ⟨v', w', hr, h2, h3⟩ := run_append_arg_grows (P := P) (w.alloc (.cells cs e')) t ty e i z s bytes hT.under hi hz hsz hby hT.cells hs0 ⟨g, off, none⟩ n cap xs hm.1
        (fun j u hu => by
          rw [show (⟨g, off, none⟩ : Addr).add j = ⟨g, off + j, none⟩ by unfold Addr.add; split <;> simp_all]
          rw [hh1.cell]
          exact hx j u hu) ⟨w.heap.size, 0, none⟩ 1 1 cs.toList (by rw [hl1, hsz]) hnews (by omega) hle hlen
      have h4 : w.grownBy w' none := lower h3
      exact ⟨v', w', hr, (TailRow.of_own h2).lower (by simp; omega), ⟨h4.os, h4.tape, h4.output, h4.size, fun k hk _ => h4.block k hk (by simp)⟩, Nat.lt_of_lt_of_le (by simp) h3.size⟩
theorem wp_append_T {o : Oper} {a : Act} {K : Act → World → Prop} {Q : Exit → Act → World → Prop} (hT : ElemS P t e z s bytes) (hs0 : 0 < s)
    (sl x : Operand) (ho : o.op = .call { callee := .builtin .append, args := #[sl, x], argTypes := #[t, t] })
    {v : Value} {n B g : Nat} {xs : List Value} (hs : a.eval sl = v) (hm : TailRow w B e s v n xs) (hB : B ≤ w.heap.size) (hg : g = w.heap.size) {cs : Array Value} (hx : a.eval x = .slice (some ⟨g, 0, none⟩) 1 1) (hcs : cs.size = s) (h1 : ∀ u ∈ cs.toList, u.oneCell' = true)
    (hlen : (n + 1) * bytes ≤ 140737488355328) (hle : n + 1 ≤ maxLen)
    (h : ∀ v' w', TailRow w' B e s v' (n + 1) (xs ++ cs.toList) → w.grownBy w' v.ownBlock → w.heap.size < w'.heap.size → K (a.put o.dst v') w') :
    o.wp P a (w.alloc (.cells cs e')) K Q := by
  obtain ⟨v', w', hrun, h2, h3, h4⟩ := run_append_T (P := P) (e' := e') hT hs0 o.type hm hB hg hcs h1 hlen hle
  unfold Oper.wp execOp
  simp only [ho, resolve, invoke, builtin, Sem.run_bind, Sem.run_pure, Result.andThen_ok, List.map_toArray, List.map_cons, List.map_nil, hs, hx, hrun]
  exact h v' w' h2 h3 h4
end
end Go.Fw
