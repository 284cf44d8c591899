/-
  Words for rows that the call made, and for blocks that are known whole. Condition: none.
-/
import Derived.Test.YteljecehppeamaaDoorStruct
import Derived.Laws.StructEq
namespace Go.Fw
open Go.RowKit
set_option linter.unusedVariables false
set_option linter.unusedSimpArgs false

/-- a block that is known whole -/
def Blk (w : World) (g : Nat) (t : TypeId) (cs : Array Value) : Prop := w.heap[g]? = some (.cells cs t (0, 0))
section
variable {w w' : World} {g : Nat} {t : TypeId} {cs : Array Value}
theorem Blk.lt (h : Blk w g t cs) : g < w.heap.size := (Array.getElem?_eq_some_iff.1 h).1
theorem Blk.cell (h : Blk w g t cs) (i : Nat) : w.cell? ⟨g, i, none⟩ = cs[i]? := cell_of_row w g i cs t (0, 0) h
theorem Blk.frozen (h : Blk w g t cs) (i : Nat) : w.frozen? ⟨g, i, none⟩ = false := by
  unfold Blk at h
  simp [World.frozen?, h]
theorem Blk.new_at (w : World) (t : TypeId) (cs : Array Value) (hg : g = w.heap.size) : Blk (w.alloc (.cells cs t)) g t cs := by subst hg; exact heap_alloc_new w _
theorem Blk.alloc (h : Blk w g t cs) (o : Obj) : Blk (w.alloc o) g t cs := (Below.heap_alloc w o g h.lt).trans h
theorem Blk.set_ (h : Blk w g t cs) (i : Nat) (u : Value) : Blk (w.setCell ⟨g, i, none⟩ u) g t (cs.setIfInBounds i u) := by
  unfold Blk at h ⊢
  simp [World.setCell, Array.getElem?_modify, h]
theorem Blk.far (h : Blk w g t cs) {p : Addr} (hp : g ≠ p.block) (u : Value) : Blk (w.setCell p u) g t cs := (Below.heap_setCell w p u g hp).trans h
theorem Blk.later (h : Blk w g t cs) (hb : Below w.heap.size w w') : Blk w' g t cs := (hb.block g h.lt).trans h
theorem Blk.drew (h : Blk w g t cs) : Blk w.drew g t cs := h
theorem Blk.drewN (h : Blk w g t cs) (n : Nat) : Blk (w.drewN n) g t cs := h
theorem Blk.grown {row : Option Nat} (h : Blk w g t cs) (hb : w.grownBy w' row) (hg : some g ≠ row) : Blk w' g t cs := (hb.block g h.lt hg).trans h
theorem own_ne {base : Nat} {e : TypeId} {size n : Nat} {v : Value} {xs : List Value} (h : w.ownsRow base e size v n xs) (hg : Blk w g t cs) (hne : e ≠ t) : v.ownBlock ≠ some g := by
  rcases h.2 with ⟨rfl, _⟩ | ⟨g', cap, cur, rfl, _, hh, _⟩
  · simp [Value.ownBlock]
  · intro he
    have : g' = g := by simpa [Value.ownBlock] using he
    subst this
    unfold Blk at hg
    rw [hh] at hg
    injection hg with hg
    injection hg with _ ht
    exact hne ht
end
theorem own_lower {w : World} {b b' size n : Nat} {e : TypeId} {v : Value} {xs : List Value} (h : w.ownsRow b e size v n xs) (hb : b' ≤ b) : w.ownsRow b' e size v n xs := by
  refine ⟨h.1, ?_⟩
  rcases h.2 with h | ⟨g, cap, cur, h1, h2, h3⟩
  · exact .inl h
  · exact .inr ⟨g, cap, cur, h1, Nat.le_trans hb h2, h3⟩
theorem own_set {w : World} {B : Nat} {e : TypeId} {s n : Nat} {v : Value} {xs : List Value} (h : w.ownsRow B e s v n xs) {p : Addr} (hne : v.ownBlock ≠ some p.block) (u : Value) : (w.setCell p u).ownsRow B e s v n xs :=
  h.kept (row := some p.block) ⟨rfl, rfl, rfl, by simp [World.setCell], fun k _ hk => Below.heap_setCell w p u k (fun e => hk (by rw [e]))⟩ (.inr hne)
theorem own_later {w w' : World} {B : Nat} {e : TypeId} {s n : Nat} {v : Value} {xs : List Value} (h : w.ownsRow B e s v n xs) (hb : Below w.heap.size w w') : w'.ownsRow B e s v n xs := by
  refine h.kept (row := none) ⟨hb.os, hb.tape, hb.output, hb.size, fun k hk _ => hb.block k hk⟩ ?_
  cases v.ownBlock <;> simp
theorem own_far {w : World} {B g : Nat} {e : TypeId} {s n : Nat} {v : Value} {xs : List Value} (h : w.ownsRow B e s v n xs) (hg : g < B) : v.ownBlock ≠ some g := fun hk => by have := (h.lt _ hk).1; omega
theorem own_new {w : World} {B : Nat} {e : TypeId} {s n : Nat} {v : Value} {xs : List Value} (h : w.ownsRow B e s v n xs) : v.ownBlock ≠ some w.heap.size := fun hk => by have := (h.lt _ hk).2; omega
/-- a whole block is a row -/
theorem own_of_blk {w : World} {B g : Nat} {e : TypeId} {s n : Nat} {cs : Array Value} (h : Blk w g e cs) (hB : B ≤ g) (hn : cs.size = n * s) (hm : n ≤ maxLen) : w.ownsRow B e s (.slice (some ⟨g, 0, none⟩) n n) n cs.toList := by
  refine ⟨by simp [hn], .inr ⟨g, n, cs, rfl, hB, h, Nat.le_refl _, hm, by simp [hn], ?_⟩⟩
  rw [List.take_of_length_le (by simp [hn])]
/-- a cell of a row of the call's own: it reads, may be written, and what the row is then -/
theorem own_at {w : World} {B : Nat} {e : TypeId} {n b : Nat} {v : Value} {xs : List Value} (h : w.ownsRow B e 1 v n xs) (hb : b < n) :
    ∃ g c, v = .slice (some ⟨g, 0, none⟩) n c ∧ B ≤ g ∧ g < w.heap.size ∧ n ≤ c ∧ w.cell? ⟨g, b, none⟩ = xs[b]? ∧ w.frozen? ⟨g, b, none⟩ = false ∧ ∀ u, (w.setCell ⟨g, b, none⟩ u).ownsRow B e 1 v n (xs.set b u) := by
  obtain ⟨hl, h⟩ := h
  rcases h with ⟨_, rfl⟩ | ⟨g, cap, cur, rfl, hB, hh, hnc, hc, hs, ht⟩
  · simp at hl; omega
  · have hb' : Blk w g e cur := hh
    refine ⟨g, cap, rfl, hB, hb'.lt, hnc, ?_, hb'.frozen b, fun u => ⟨by simpa using hl, .inr ⟨g, cap, cur.setIfInBounds b u, rfl, hB, hb'.set_ b u, hnc, hc, by simpa using hs, ?_⟩⟩⟩
    · rw [hb'.cell, ← ht]
      rw [List.getElem?_take_of_lt (by omega)]
      simp
    · rw [← ht, Array.toList_setIfInBounds, List.take_set]
/-- a block that has just been laid reads as its cells, s an element -/
theorem reads_newS (w : World) (t : TypeId) (cs : Array Value) (s n g B : Nat) (hn : cs.size = n * s) (hg : g = w.heap.size) (hB : B = w.heap.size + 1) : Reads (w.alloc (.cells cs t)) B s (some ⟨g, 0, none⟩) n cs.toList := by
  subst hg
  subst hB
  refine ⟨by simp [hn], fun _ => ⟨_, rfl, by simp, fun j u hu => ?_⟩⟩
  rw [show (⟨w.heap.size, 0, none⟩ : Addr).add j = ⟨w.heap.size, j, none⟩ by unfold Addr.add; split <;> simp_all]
  rw [World.cell?_alloc_mark]
  simpa using hu
theorem wpList_append_oneG {P : Program} {s : Nat} {w : World} {ops : Array Oper} {rest : List Oper} {o : Oper} {a : Act} {Q : Exit → Act → World → Prop} {t e e' : TypeId} {z : Value} {bytes : Nat} (hT : ElemS P t e z s bytes) (hs0 : 0 < s)
    (hgd : o.guard = none) (sl x : Operand) (ho : o.op = .call { callee := .builtin .append, args := #[sl, x], argTypes := #[t, t] })
    {v : Value} {n B g : Nat} {xs : List Value} (hs : a.eval sl = v) (hm : w.ownsRow B e s v n xs) (hB : B ≤ w.heap.size) (hg : g = w.heap.size) {cs : Array Value} (hx : a.eval x = .slice (some ⟨g, 0, none⟩) 1 1) (hcs : cs.size = s) (h1 : ∀ u ∈ cs.toList, u.oneCell' = true)
    (hlen : (n + 1) * bytes ≤ 140737488355328) (hle : n + 1 ≤ maxLen)
    (h : ∀ v' w', w'.ownsRow B e s v' (n + 1) (xs ++ cs.toList) → w.grownBy w' v.ownBlock → wpList P ops Q rest (a.put o.dst v') w') :
    wpList P ops Q (o :: rest) a (w.alloc (.cells cs e')) := by
  subst hg
  obtain ⟨i, hi, hz, hsz, hby⟩ := info_parts hT.info
  refine wpList_append_own (w.alloc (.cells cs e')) hgd sl x t ho B e i z s bytes hT.under hi hz hsz hby hT.cells hs0 v n xs hs (hm.alloc _) ⟨w.heap.size, 0, none⟩ 1 1 cs.toList hx (by simpa using hcs)
    (fun j u hu => ?_) h1 hle hlen (by simp; omega) fun v' w' h2 h3 _ => ?_
  · rw [show (⟨w.heap.size, 0, none⟩ : Addr).add j = ⟨w.heap.size, j, none⟩ by unfold Addr.add; split <;> simp_all]
    rw [World.cell?_alloc_mark]
    simpa using hu
  · have hg : w.grownBy w' v.ownBlock := ⟨h3.os, h3.tape, h3.output, Nat.le_trans (by simp) h3.size, fun k hk hne => (h3.block k (by simp; omega) hne).trans (Below.heap_alloc w _ k hk)⟩
    exact h v' w' h2 hg
theorem wp_append_oneG {P : Program} {s : Nat} {w : World} {o : Oper} {a : Act} {K : Act → World → Prop} {Q : Exit → Act → World → Prop} {t e e' : TypeId} {z : Value} {bytes : Nat} (hT : ElemS P t e z s bytes) (hs0 : 0 < s)
    (sl x : Operand) (ho : o.op = .call { callee := .builtin .append, args := #[sl, x], argTypes := #[t, t] })
    {v : Value} {n B g : Nat} {xs : List Value} (hs : a.eval sl = v) (hm : w.ownsRow B e s v n xs) (hB : B ≤ w.heap.size) (hg : g = w.heap.size) {cs : Array Value} (hx : a.eval x = .slice (some ⟨g, 0, none⟩) 1 1) (hcs : cs.size = s) (h1 : ∀ u ∈ cs.toList, u.oneCell' = true)
    (hlen : (n + 1) * bytes ≤ 140737488355328) (hle : n + 1 ≤ maxLen)
    (h : ∀ v' w', w'.ownsRow B e s v' (n + 1) (xs ++ cs.toList) → w.grownBy w' v.ownBlock → K (a.put o.dst v') w') :
    o.wp P a (w.alloc (.cells cs e')) K Q := by
  obtain ⟨i, hi, hz, hsz, hby⟩ := info_parts hT.info
  refine wp_append_any (w.alloc (.cells cs e')) sl x t ho B e i z s bytes hT.under hi hz hsz hby hT.cells hs0 v n xs hs (hm.alloc _) _ _ 1 1 cs.toList hx (reads_newS w e' cs s 1 g _ (by omega) hg rfl) h1 hle hlen (by simp; omega) fun v' w' h2 h3 _ => ?_
  have hg : w.grownBy w' v.ownBlock := ⟨h3.os, h3.tape, h3.output, Nat.le_trans (by simp) h3.size, fun k hk hne => (h3.block k (by simp; omega) hne).trans (Below.heap_alloc w _ k hk)⟩
  exact h v' w' h2 hg
theorem MineS.alloc {s : Nat} {w0 w : World} {e : TypeId} {v : Value} {n : Nat} {xs : List Value} (h : MineS s w0 w e v n xs) (o : Obj) : MineS s w0 (w.alloc o) e v n xs := ⟨h.own.alloc o, sub_alloc h.below o⟩
theorem MineS.lower {s : Nat} {w w1 w2 : World} {e : TypeId} {v : Value} {n : Nat} {xs : List Value} (h : MineS s w1 w2 e v n xs) (hb : Below w.heap.size w w1) : MineS s w w2 e v n xs := ⟨own_lower h.own hb.size, sub_trans hb h.below⟩
theorem MineS.set_ {s : Nat} {w0 w : World} {e : TypeId} {v : Value} {n : Nat} {xs : List Value} (h : MineS s w0 w e v n xs) {p : Addr} (hp : w0.heap.size ≤ p.block) (hne : v.ownBlock ≠ some p.block) (u : Value) : MineS s w0 (w.setCell p u) e v n xs := by
  refine ⟨h.own.kept (row := some p.block) ⟨rfl, rfl, rfl, by simp [World.setCell], fun k _ hk => Below.heap_setCell w p u k (fun e => hk (by rw [e]))⟩ (.inr hne), h.below.setCell hp u⟩
/-- what a row of the call's own becomes by an append -/
theorem MineS.app {s : Nat} {w0 w w' : World} {e : TypeId} {v v' : Value} {n n' : Nat} {xs xs' : List Value} (h : MineS s w0 w e v n xs) (hg : w.grownBy w' v.ownBlock) (h' : w'.ownsRow w0.heap.size e s v' n' xs') : MineS s w0 w' e v' n' xs' :=
  ⟨h', h.below.grown hg h.le fun k hk => (h.own.lt k hk).1⟩
theorem quiet_l {P : Program} {f : FuncId} {args : Array Value} {w : World} {n : Nat} {v : Value}
    (h : Calls P f args (w.drewN n) fun e w' => e = .returned v ∧ w.drewN n = w') : Calls P f args (w.drewN n) fun e w'' => e = .returned v ∧ ∃ m, w'' = w.drewN m :=
  h.mono fun _ _ ⟨he, hm⟩ => ⟨he, n, hm.symm⟩
theorem dropEq {α : Type} [DecidableEq α] {xs ys : List α} (hl : xs.length = ys.length) (k : Nat) (hk : k < xs.length) : decide (xs.drop k = ys.drop k) = (decide (xs[k] = ys[k]) && decide (xs.drop (k + 1) = ys.drop (k + 1))) := by
  rw [List.drop_eq_getElem_cons hk, List.drop_eq_getElem_cons (show k < ys.length by omega), Bool.eq_iff_iff]
  simp only [decide_eq_true_eq, Bool.and_eq_true, List.cons.injEq]

/-- numbers in a block -/
def iarr (l : List Int) : Array Value := (i64s l).toArray
theorem iarr_size (l : List Int) : (iarr l).size = l.length := by simp [iarr, i64s]
theorem iarr_get {l : List Int} {k : Nat} (h : k < l.length) : (iarr l)[k]? = some (.int .i64 l[k]) := by simp [iarr, i64s, h]
theorem iarr_set (l : List Int) (k : Nat) (x : Int) : (iarr l).setIfInBounds k (.int .i64 x) = iarr (l.set k x) := by
  simp [iarr, i64s, List.map_set]
theorem iarr_list (l : List Int) : (iarr l).toList = i64s l := by simp [iarr]
/-- a new array of zeros -/
theorem made_zeros (n : Nat) : madeCells (Value.int .i64 0).cells n = iarr (List.replicate n 0) := by
  have h := toList_madeCells_one (.int .i64 0) n
  unfold iarr i64s
  rw [List.map_replicate, ← h]
  rfl
end Go.Fw
