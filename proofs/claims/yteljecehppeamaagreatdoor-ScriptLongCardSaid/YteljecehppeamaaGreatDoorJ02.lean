/-
  6 texts of this claim, joined; each says itself what it proves. Condition: as each text says.
-/
import Derived.Test.YteljecehppeamaaGreatDoorJ01
import Derived.Laws.StructEq
import Derived.Lib.Bytealg
import Derived.Lib.ItoaNum
import Derived.Lib.ItoaLen
import Derived.Lib.AtoiAll
import Derived.Lib.AtoiAllCases
/-
  Words for rows that the call made, and for blocks that are known whole. Condition: none.
-/
namespace Go.Fw
open Go.RowKit
set_option linter.unusedVariables false
set_option linter.unusedSimpArgs false

/-- a block that is known whole -/
def Blk (w : World) (g : Nat) (t : TypeId) (cs : Array Value) : Prop := w.heap[g]? = some (.cells cs t (0, 0))
section
variable {w w' : World} {g : Nat} {t : TypeId} {cs : Array Value}
theorem Blk.lt (h : Blk w g t cs) : g < w.heap.size := (Array.getElem?_eq_some_iff.1 h).1
theorem Blk.cell (h : Blk w g t cs) (i : Nat) : w.cell? ⟨g, i, none⟩ = cs[i]? := cell_of_row w g i cs t (0, 0) h
theorem Blk.frozen (h : Blk w g t cs) (i : Nat) : w.frozen? ⟨g, i, none⟩ = false := by
  unfold Blk at h
  simp [World.frozen?, h]
theorem Blk.new_at (w : World) (t : TypeId) (cs : Array Value) (hg : g = w.heap.size) : Blk (w.alloc (.cells cs t)) g t cs := by subst hg; exact heap_alloc_new w _
theorem Blk.alloc (h : Blk w g t cs) (o : Obj) : Blk (w.alloc o) g t cs := (Below.heap_alloc w o g h.lt).trans h
theorem Blk.set_ (h : Blk w g t cs) (i : Nat) (u : Value) : Blk (w.setCell ⟨g, i, none⟩ u) g t (cs.setIfInBounds i u) := by
  unfold Blk at h ⊢
  simp [World.setCell, Array.getElem?_modify, h]
theorem Blk.far (h : Blk w g t cs) {p : Addr} (hp : g ≠ p.block) (u : Value) : Blk (w.setCell p u) g t cs := (Below.heap_setCell w p u g hp).trans h
theorem Blk.later (h : Blk w g t cs) (hb : Below w.heap.size w w') : Blk w' g t cs := (hb.block g h.lt).trans h
theorem Blk.drew (h : Blk w g t cs) : Blk w.drew g t cs := h
theorem Blk.drewN (h : Blk w g t cs) (n : Nat) : Blk (w.drewN n) g t cs := h
theorem Blk.grown {row : Option Nat} (h : Blk w g t cs) (hb : w.grownBy w' row) (hg : some g ≠ row) : Blk w' g t cs := (hb.block g h.lt hg).trans h
theorem own_ne {base : Nat} {e : TypeId} {size n : Nat} {v : Value} {xs : List Value} (h : w.ownsRow base e size v n xs) (hg : Blk w g t cs) (hne : e ≠ t) : v.ownBlock ≠ some g := by
  rcases h.2 with ⟨rfl, _⟩ | ⟨g', cap, cur, rfl, _, hh, _⟩
  · simp [Value.ownBlock]
  · intro he
    have : g' = g := by simpa [Value.ownBlock] using he
    subst this
    unfold Blk at hg
    rw [hh] at hg
    injection hg with hg
    injection hg with _ ht
    exact hne ht
end
theorem own_lower {w : World} {b b' size n : Nat} {e : TypeId} {v : Value} {xs : List Value} (h : w.ownsRow b e size v n xs) (hb : b' ≤ b) : w.ownsRow b' e size v n xs := by
  refine ⟨h.1, ?_⟩
  rcases h.2 with h | ⟨g, cap, cur, h1, h2, h3⟩
  · exact .inl h
  · exact .inr ⟨g, cap, cur, h1, Nat.le_trans hb h2, h3⟩
theorem own_set {w : World} {B : Nat} {e : TypeId} {s n : Nat} {v : Value} {xs : List Value} (h : w.ownsRow B e s v n xs) {p : Addr} (hne : v.ownBlock ≠ some p.block) (u : Value) : (w.setCell p u).ownsRow B e s v n xs :=
  h.kept (row := some p.block) ⟨rfl, rfl, rfl, by simp [World.setCell], fun k _ hk => Below.heap_setCell w p u k (fun e => hk (by rw [e]))⟩ (.inr hne)
theorem own_later {w w' : World} {B : Nat} {e : TypeId} {s n : Nat} {v : Value} {xs : List Value} (h : w.ownsRow B e s v n xs) (hb : Below w.heap.size w w') : w'.ownsRow B e s v n xs := by
  refine h.kept (row := none) ⟨hb.os, hb.tape, hb.output, hb.size, fun k hk _ => hb.block k hk⟩ ?_
  cases v.ownBlock <;> simp
theorem own_far {w : World} {B g : Nat} {e : TypeId} {s n : Nat} {v : Value} {xs : List Value} (h : w.ownsRow B e s v n xs) (hg : g < B) : v.ownBlock ≠ some g := fun hk => by have := (h.lt _ hk).1; omega
theorem own_new {w : World} {B : Nat} {e : TypeId} {s n : Nat} {v : Value} {xs : List Value} (h : w.ownsRow B e s v n xs) : v.ownBlock ≠ some w.heap.size := fun hk => by have := (h.lt _ hk).2; omega
/-- a whole block is a row -/
theorem own_of_blk {w : World} {B g : Nat} {e : TypeId} {s n : Nat} {cs : Array Value} (h : Blk w g e cs) (hB : B ≤ g) (hn : cs.size = n * s) (hm : n ≤ maxLen) : w.ownsRow B e s (.slice (some ⟨g, 0, none⟩) n n) n cs.toList := by
  refine ⟨by simp [hn], .inr ⟨g, n, cs, rfl, hB, h, Nat.le_refl _, hm, by simp [hn], ?_⟩⟩
  rw [List.take_of_length_le (by simp [hn])]
/-- a cell of a row of the call's own: it reads, may be written, and what the row is then -/
theorem own_at {w : World} {B : Nat} {e : TypeId} {n b : Nat} {v : Value} {xs : List Value} (h : w.ownsRow B e 1 v n xs) (hb : b < n) :
    ∃ g c, v = .slice (some ⟨g, 0, none⟩) n c ∧ B ≤ g ∧ g < w.heap.size ∧ n ≤ c ∧ w.cell? ⟨g, b, none⟩ = xs[b]? ∧ w.frozen? ⟨g, b, none⟩ = false ∧ ∀ u, (w.setCell ⟨g, b, none⟩ u).ownsRow B e 1 v n (xs.set b u) := by
  obtain ⟨hl, h⟩ := h
  rcases h with ⟨_, rfl⟩ | ⟨g, cap, cur, rfl, hB, hh, hnc, hc, hs, ht⟩
  · simp at hl; omega
  · have hb' : Blk w g e cur := hh
    refine ⟨g, cap, rfl, hB, hb'.lt, hnc, ?_, hb'.frozen b, fun u => ⟨by simpa using hl, .inr ⟨g, cap, cur.setIfInBounds b u, rfl, hB, hb'.set_ b u, hnc, hc, by simpa using hs, ?_⟩⟩⟩
    · rw [hb'.cell, ← ht]
      rw [List.getElem?_take_of_lt (by omega)]
      simp
    · rw [← ht, Array.toList_setIfInBounds, List.take_set]
/-- a block that has just been laid reads as its cells, s an element -/
theorem reads_newS (w : World) (t : TypeId) (cs : Array Value) (s n g B : Nat) (hn : cs.size = n * s) (hg : g = w.heap.size) (hB : B = w.heap.size + 1) : Reads (w.alloc (.cells cs t)) B s (some ⟨g, 0, none⟩) n cs.toList := by
  subst hg
  subst hB
  refine ⟨by simp [hn], fun _ => ⟨_, rfl, by simp, fun j u hu => ?_⟩⟩
  rw [show (⟨w.heap.size, 0, none⟩ : Addr).add j = ⟨w.heap.size, j, none⟩ by unfold Addr.add; split <;> simp_all]
  rw [World.cell?_alloc_mark]
  simpa using hu
theorem wpList_append_oneG {P : Program} {s : Nat} {w : World} {ops : Array Oper} {rest : List Oper} {o : Oper} {a : Act} {Q : Exit → Act → World → Prop} {t e e' : TypeId} {z : Value} {bytes : Nat} (hT : ElemS P t e z s bytes) (hs0 : 0 < s)
    (hgd : o.guard = none) (sl x : Operand) (ho : o.op = .call { callee := .builtin .append, args := #[sl, x], argTypes := #[t, t] })
    {v : Value} {n B g : Nat} {xs : List Value} (hs : a.eval sl = v) (hm : w.ownsRow B e s v n xs) (hB : B ≤ w.heap.size) (hg : g = w.heap.size) {cs : Array Value} (hx : a.eval x = .slice (some ⟨g, 0, none⟩) 1 1) (hcs : cs.size = s) (h1 : ∀ u ∈ cs.toList, u.oneCell' = true)
    (hlen : (n + 1) * bytes ≤ 140737488355328) (hle : n + 1 ≤ maxLen)
    (h : ∀ v' w', w'.ownsRow B e s v' (n + 1) (xs ++ cs.toList) → w.grownBy w' v.ownBlock → wpList P ops Q rest (a.put o.dst v') w') :
    wpList P ops Q (o :: rest) a (w.alloc (.cells cs e')) := by
  subst hg
  obtain ⟨i, hi, hz, hsz, hby⟩ := info_parts hT.info
  refine wpList_append_own (w.alloc (.cells cs e')) hgd sl x t ho B e i z s bytes hT.under hi hz hsz hby hT.cells hs0 v n xs hs (hm.alloc _) ⟨w.heap.size, 0, none⟩ 1 1 cs.toList hx (by simpa using hcs)
    (fun j u hu => ?_) h1 hle hlen (by simp; omega) fun v' w' h2 h3 _ => ?_
  · rw [show (⟨w.heap.size, 0, none⟩ : Addr).add j = ⟨w.heap.size, j, none⟩ by unfold Addr.add; split <;> simp_all]
    rw [World.cell?_alloc_mark]
    simpa using hu
  · have hg : w.grownBy w' v.ownBlock := ⟨h3.os, h3.tape, h3.output, Nat.le_trans (by simp) h3.size, fun k hk hne => (h3.block k (by simp; omega) hne).trans (Below.heap_alloc w _ k hk)⟩
    exact h v' w' h2 hg
theorem wp_append_oneG {P : Program} {s : Nat} {w : World} {o : Oper} {a : Act} {K : Act → World → Prop} {Q : Exit → Act → World → Prop} {t e e' : TypeId} {z : Value} {bytes : Nat} (hT : ElemS P t e z s bytes) (hs0 : 0 < s)
    (sl x : Operand) (ho : o.op = .call { callee := .builtin .append, args := #[sl, x], argTypes := #[t, t] })
    {v : Value} {n B g : Nat} {xs : List Value} (hs : a.eval sl = v) (hm : w.ownsRow B e s v n xs) (hB : B ≤ w.heap.size) (hg : g = w.heap.size) {cs : Array Value} (hx : a.eval x = .slice (some ⟨g, 0, none⟩) 1 1) (hcs : cs.size = s) (h1 : ∀ u ∈ cs.toList, u.oneCell' = true)
    (hlen : (n + 1) * bytes ≤ 140737488355328) (hle : n + 1 ≤ maxLen)
    (h : ∀ v' w', w'.ownsRow B e s v' (n + 1) (xs ++ cs.toList) → w.grownBy w' v.ownBlock → K (a.put o.dst v') w') :
    o.wp P a (w.alloc (.cells cs e')) K Q := by
  obtain ⟨i, hi, hz, hsz, hby⟩ := info_parts hT.info
  refine wp_append_any (w.alloc (.cells cs e')) sl x t ho B e i z s bytes hT.under hi hz hsz hby hT.cells hs0 v n xs hs (hm.alloc _) _ _ 1 1 cs.toList hx (reads_newS w e' cs s 1 g _ (by omega) hg rfl) h1 hle hlen (by simp; omega) fun v' w' h2 h3 _ => ?_
  have hg : w.grownBy w' v.ownBlock := ⟨h3.os, h3.tape, h3.output, Nat.le_trans (by simp) h3.size, fun k hk hne => (h3.block k (by simp; omega) hne).trans (Below.heap_alloc w _ k hk)⟩
  exact h v' w' h2 hg
theorem MineS.alloc {s : Nat} {w0 w : World} {e : TypeId} {v : Value} {n : Nat} {xs : List Value} (h : MineS s w0 w e v n xs) (o : Obj) : MineS s w0 (w.alloc o) e v n xs := ⟨h.own.alloc o, sub_alloc h.below o⟩
theorem MineS.lower {s : Nat} {w w1 w2 : World} {e : TypeId} {v : Value} {n : Nat} {xs : List Value} (h : MineS s w1 w2 e v n xs) (hb : Below w.heap.size w w1) : MineS s w w2 e v n xs := ⟨own_lower h.own hb.size, sub_trans hb h.below⟩
theorem MineS.set_ {s : Nat} {w0 w : World} {e : TypeId} {v : Value} {n : Nat} {xs : List Value} (h : MineS s w0 w e v n xs) {p : Addr} (hp : w0.heap.size ≤ p.block) (hne : v.ownBlock ≠ some p.block) (u : Value) : MineS s w0 (w.setCell p u) e v n xs := by
  refine ⟨h.own.kept (row := some p.block) ⟨rfl, rfl, rfl, by simp [World.setCell], fun k _ hk => Below.heap_setCell w p u k (fun e => hk (by rw [e]))⟩ (.inr hne), h.below.setCell hp u⟩
/-- what a row of the call's own becomes by an append -/
theorem MineS.app {s : Nat} {w0 w w' : World} {e : TypeId} {v v' : Value} {n n' : Nat} {xs xs' : List Value} (h : MineS s w0 w e v n xs) (hg : w.grownBy w' v.ownBlock) (h' : w'.ownsRow w0.heap.size e s v' n' xs') : MineS s w0 w' e v' n' xs' :=
  ⟨h', h.below.grown hg h.le fun k hk => (h.own.lt k hk).1⟩
theorem quiet_l {P : Program} {f : FuncId} {args : Array Value} {w : World} {n : Nat} {v : Value}
    (h : Calls P f args (w.drewN n) fun e w' => e = .returned v ∧ w.drewN n = w') : Calls P f args (w.drewN n) fun e w'' => e = .returned v ∧ ∃ m, w'' = w.drewN m :=
  h.mono fun _ _ ⟨he, hm⟩ => ⟨he, n, hm.symm⟩
theorem dropEq {α : Type} [DecidableEq α] {xs ys : List α} (hl : xs.length = ys.length) (k : Nat) (hk : k < xs.length) : decide (xs.drop k = ys.drop k) = (decide (xs[k] = ys[k]) && decide (xs.drop (k + 1) = ys.drop (k + 1))) := by
  rw [List.drop_eq_getElem_cons hk, List.drop_eq_getElem_cons (show k < ys.length by omega), Bool.eq_iff_iff]
  simp only [decide_eq_true_eq, Bool.and_eq_true, List.cons.injEq]

/-- numbers in a block -/
def iarr (l : List Int) : Array Value := (i64s l).toArray
theorem iarr_size (l : List Int) : (iarr l).size = l.length := by simp [iarr, i64s]
theorem iarr_get {l : List Int} {k : Nat} (h : k < l.length) : (iarr l)[k]? = some (.int .i64 l[k]) := by simp [iarr, i64s, h]
theorem iarr_set (l : List Int) (k : Nat) (x : Int) : (iarr l).setIfInBounds k (.int .i64 x) = iarr (l.set k x) := by
  simp [iarr, i64s, List.map_set]
theorem iarr_list (l : List Int) : (iarr l).toList = i64s l := by simp [iarr]
/-- a new array of zeros -/
theorem made_zeros (n : Nat) : madeCells (Value.int .i64 0).cells n = iarr (List.replicate n 0) := by
  have h := toList_madeCells_one (.int .i64 0) n
  unfold iarr i64s
  rw [List.map_replicate, ← h]
  rfl
end Go.Fw
/-
  Which configs may be: route.Right, node.Right and the references', walked (chapters 5, 17). Condition: none.
-/
namespace Go.Fw
open Go.RowKit
set_option linter.unusedVariables false
set_option linter.unusedSimpArgs false
/-- a number of stripes that may be -/
def pow2N (n : Int) : Bool := n == 1 || (n == 2 || (n == 4 || (n == 8 || (n == 16 || (n == 32 || n == 64)))))
theorem bits_pow : ∀ n : Fin 65, 1 ≤ n.val → (bits BinOp.and IntKind.i64 (n.val : Int) ((n.val : Int) - 1) == 0) = pow2N (n.val : Int) := by decide +kernel
theorem pow2N_in {n : Int} (h : pow2N n = true) : 1 ≤ n ∧ n ≤ 64 := by
  unfold pow2N at h
  simp at h
  omega
theorem pow2N_out {n : Int} (h : n < 1 ∨ 64 < n) : pow2N n = false := by
  cases h2 : pow2N n
  · rfl
  · have := pow2N_in h2; omega
/-- a config that may be -/
def cfgOk (st sa lo hi : Int) : Bool := pow2N st && (decide (1 ≤ sa ∧ sa ≤ 256) && (decide (1 ≤ lo ∧ lo ≤ 256) && decide (1 ≤ hi ∧ hi ≤ 64)))
def cfgE (st sa lo hi : Int) : Int := if cfgOk st sa lo hi = true then 0 else 1
/-- the first thing that is wrong -/
theorem cfg_cases (st sa lo hi : Int) : (pow2N st = false ∧ cfgOk st sa lo hi = false) ∨ (pow2N st = true ∧ sa < 1 ∧ cfgOk st sa lo hi = false) ∨ (pow2N st = true ∧ ¬ sa < 1 ∧ 256 < sa ∧ cfgOk st sa lo hi = false) ∨
    (pow2N st = true ∧ ¬ sa < 1 ∧ ¬ 256 < sa ∧ lo < 1 ∧ cfgOk st sa lo hi = false) ∨ (pow2N st = true ∧ ¬ sa < 1 ∧ ¬ 256 < sa ∧ ¬ lo < 1 ∧ 256 < lo ∧ cfgOk st sa lo hi = false) ∨
    (pow2N st = true ∧ ¬ sa < 1 ∧ ¬ 256 < sa ∧ ¬ lo < 1 ∧ ¬ 256 < lo ∧ hi < 1 ∧ cfgOk st sa lo hi = false) ∨ (pow2N st = true ∧ ¬ sa < 1 ∧ ¬ 256 < sa ∧ ¬ lo < 1 ∧ ¬ 256 < lo ∧ ¬ hi < 1 ∧ 64 < hi ∧ cfgOk st sa lo hi = false) ∨
    (pow2N st = true ∧ ¬ sa < 1 ∧ ¬ 256 < sa ∧ ¬ lo < 1 ∧ ¬ 256 < lo ∧ ¬ hi < 1 ∧ ¬ 64 < hi ∧ cfgOk st sa lo hi = true) := by
  cases h0 : pow2N st with
  | false => exact .inl ⟨rfl, by unfold cfgOk; rw [h0]; rfl⟩
  | true =>
    refine .inr ?_
    have hf : ¬ ((1 ≤ sa ∧ sa ≤ 256) ∧ (1 ≤ lo ∧ lo ≤ 256) ∧ (1 ≤ hi ∧ hi ≤ 64)) → cfgOk st sa lo hi = false := fun h => by
      unfold cfgOk
      rw [h0, Bool.true_and]
      by_cases h1 : 1 ≤ sa ∧ sa ≤ 256
      · by_cases h2 : 1 ≤ lo ∧ lo ≤ 256
        · rw [decide_eq_true h1, decide_eq_true h2, decide_eq_false fun h3 => h ⟨h1, h2, h3⟩]; rfl
        · rw [decide_eq_true h1, decide_eq_false h2]; rfl
      · rw [decide_eq_false h1]; rfl
    have ht : ((1 ≤ sa ∧ sa ≤ 256) ∧ (1 ≤ lo ∧ lo ≤ 256) ∧ (1 ≤ hi ∧ hi ≤ 64)) → cfgOk st sa lo hi = true := fun h => by
      unfold cfgOk
      rw [h0, decide_eq_true h.1, decide_eq_true h.2.1, decide_eq_true h.2.2]
      rfl
    by_cases h1 : sa < 1
    · exact .inl ⟨rfl, h1, hf (by omega)⟩
    refine .inr ?_
    by_cases h2 : 256 < sa
    · exact .inl ⟨rfl, h1, h2, hf (by omega)⟩
    refine .inr ?_
    by_cases h3 : lo < 1
    · exact .inl ⟨rfl, h1, h2, h3, hf (by omega)⟩
    refine .inr ?_
    by_cases h4 : 256 < lo
    · exact .inl ⟨rfl, h1, h2, h3, h4, hf (by omega)⟩
    refine .inr ?_
    by_cases h5 : hi < 1
    · exact .inl ⟨rfl, h1, h2, h3, h4, h5, hf (by omega)⟩
    refine .inr ?_
    by_cases h6 : 64 < hi
    · exact .inl ⟨rfl, h1, h2, h3, h4, h5, h6, hf (by omega)⟩
    · exact .inr ⟨rfl, h1, h2, h3, h4, h5, h6, ht (by omega)⟩
/-- the power of two that a number is, or -1 -/
def bitsN (n : Int) : Int := if n = 1 then 0 else if n = 2 then 1 else if n = 4 then 2 else if n = 8 then 3 else if n = 16 then 4 else if n = 32 then 5 else if n = 64 then 6 else -1
theorem bitsN_pow (n : Int) : (pow2N n = true → 0 ≤ bitsN n) ∧ (pow2N n = false → bitsN n = -1) := by
  unfold pow2N bitsN
  constructor
  · intro h
    simp at h
    rcases h with rfl | rfl | rfl | rfl | rfl | rfl | rfl <;> decide
  · intro h
    simp at h
    simp [h]
end Go.Fw
namespace Go.Proofs.YteljecehppeamaaGreatDoor
open Go.RowKit Go.Fw
set_option maxHeartbeats 1000000
set_option maxRecDepth 4000
set_option linter.unusedVariables false
set_option linter.unusedSimpArgs false
theorem rright_any (n : Int) (w : World) : Calls Tryz.prog 60 #[.int .i64 n] w fun x w' => x = .returned (.bool (pow2N n)) ∧ w = w' := by
  by_cases h1 : n < 1
  · have hI : ¬ 1 ≤ n := by omega
    have HF := Lib.hid (pow2N_out (.inl h1))
    clear h1
    go_enter Tryz.func60, Tryz.ntmps60
    go_wp2
    go_ret
    exact ⟨ret_b HF.out.symm, rfl⟩
  by_cases h2 : 64 < n
  · have hI : 1 ≤ n := by omega
    have hI2 : ¬ n ≤ 64 := by omega
    have HF := Lib.hid (pow2N_out (.inr h2))
    clear h1 h2
    go_enter Tryz.func60, Tryz.ntmps60
    go_wp2
    go_ret
    exact ⟨ret_b HF.out.symm, rfl⟩
  obtain ⟨k, rfl⟩ : ∃ k : Nat, n = k := ⟨n.toNat, by omega⟩
  have HF : Hid ((bits BinOp.and IntKind.i64 (k : Int) ((k : Int) - 1) == 0) = pow2N (k : Int)) := Lib.hid (bits_pow ⟨k, by omega⟩ (by simp; omega))
  have hI : 1 ≤ (k : Int) := by omega
  have hI2 : (k : Int) ≤ 64 := by omega
  clear h1 h2
  go_enter Tryz.func60, Tryz.ntmps60
  go_wp2
  go_ret
  exact ⟨ret_b HF.out, rfl⟩
theorem nright_any (st sa lo hi : Int) (w : World) : Calls Tryz.prog 43 #[.agg #[.int .i64 st, .int .i64 sa, .int .i64 lo, .int .i64 hi]] w fun x w' => x = .returned (.int .i64 (cfgE st sa lo hi)) ∧ Below w.heap.size w w' := by
  have HR := Lib.hid (fun W => rright_any st W)
  have HC := cfg_cases st sa lo hi
  have HB := Lib.hid (fun o => sub_alloc (Below.refl _ w) o)
  unfold cfgE
  rcases HC with ⟨h0, hF⟩ | ⟨h0, h1, hF⟩ | ⟨h0, h1, h2, hF⟩ | ⟨h0, h1, h2, h3, hF⟩ | ⟨h0, h1, h2, h3, h4, hF⟩ | ⟨h0, h1, h2, h3, h4, h5, hF⟩ | ⟨h0, h1, h2, h3, h4, h5, h6, hF⟩ | ⟨h0, h1, h2, h3, h4, h5, h6, hF⟩
  all_goals
    rw [h0] at HR
    rw [hF]
    clear h0 hF
    go_enter Tryz.func43, Tryz.ntmps43
    go_wp2_with fail
    refine (HR.out _).mono ?_
    rintro y w1 ⟨rfl, rfl⟩
    go_wp2
    go_ret
    exact ⟨rfl, HB.out _⟩
theorem rbits_any (n : Int) (w : World) : Calls Tryz.prog 61 #[.int .i64 n] w fun x w' => x = .returned (.int .i64 (bitsN n)) ∧ w = w' := by
  go_enter Tryz.func61, Tryz.ntmps61
  go_wp2
  go_loop [3, 4] (fun p i => ∃ (k : Nat), k ≤ 7 ∧ i = .int .i64 k ∧ p = .int .i64 ((2 ^ k : Nat) : Int) ∧ Hid (∀ j, j < k → n ≠ ((2 ^ j : Nat) : Int))) (fun _ i => 8 - (intOf i).toNat)
  case atStart => exact ⟨0, by omega, rfl, rfl, Lib.hid (fun j h => by omega)⟩
  case round =>
    obtain ⟨k, hk, rfl, rfl, HN⟩ := hrel
    by_cases hlt : k ≤ 6
    · have hp : ((2 ^ (k + 1) : Nat) : Int) = ((2 ^ k : Nat) : Int) * 2 := by rw [Nat.pow_succ]; omega
      have hpb : ((2 ^ k : Nat) : Int) ≤ 64 := by
        have := Nat.pow_le_pow_right (n := 2) (by decide) hlt
        omega
      have hp0 : 0 ≤ ((2 ^ k : Nat) : Int) := Int.natCast_nonneg _
      have HP := Lib.hid hp
      clear hp
      by_cases he : n = ((2 ^ k : Nat) : Int)
      · have HF : Hid ((k : Int) = bitsN n) := Lib.hid (by
          have hor : k = 0 ∨ k = 1 ∨ k = 2 ∨ k = 3 ∨ k = 4 ∨ k = 5 ∨ k = 6 := by omega
          rcases hor with rfl | rfl | rfl | rfl | rfl | rfl | rfl <;> (rw [he]; decide))
        have hI : (n == ((2 ^ k : Nat) : Int)) = true := by simpa using he
        clear he HP
        generalize ((2 ^ k : Nat) : Int) = p at *
        go_wp2
        go_ret
        exact ⟨ret_i HF.out, rfl⟩
      · have hI : (n == ((2 ^ k : Nat) : Int)) = false := by simpa using he
        have HE := Lib.hid he
        clear he
        have HPE : Hid (((2 ^ k : Nat) : Int) = ((2 ^ k : Nat) : Int)) := Lib.hid rfl
        generalize hpp : ((2 ^ k : Nat) : Int) = p at *
        have HPP := Lib.hid hpp
        clear hpp HPE
        go_wp2
        go_round
        case rel =>
          refine ⟨k + 1, by omega, by go_num, by rw [HP.out], Lib.hid fun j hj => ?_⟩
          by_cases hjk : j = k
          · subst hjk
            rw [HPP.out]
            exact HE.out
          · exact HN.out j (by omega)
        case measure => simp [intOf]; omega
    · have HF : Hid ((-1 : Int) = bitsN n) := Lib.hid (by
        have h := HN.out
        have g0 := h 0 (by omega)
        have g1 := h 1 (by omega)
        have g2 := h 2 (by omega)
        have g3 := h 3 (by omega)
        have g4 := h 4 (by omega)
        have g5 := h 5 (by omega)
        have g6 := h 6 (by omega)
        simp at g0 g1 g2 g3 g4 g5 g6
        unfold bitsN
        simp [g0, g1, g2, g3, g4, g5, g6])
      generalize ((2 ^ k : Nat) : Int) = p at *
      go_wp2
      go_ret
      exact ⟨ret_i HF.out, rfl⟩
theorem cright_any (st sa lo hi : Int) (w : World) : Calls Tryz.prog 44 #[.agg #[.int .i64 st, .int .i64 sa, .int .i64 lo, .int .i64 hi]] w fun x w' => x = .returned (.bool (cfgOk st sa lo hi)) ∧ Below w.heap.size w w' := by
  have HR := Lib.hid (fun W => rbits_any st W)
  have HC := cfg_cases st sa lo hi
  have HB := Lib.hid (fun o => sub_alloc (Below.refl _ w) o)
  have hbp := bitsN_pow st
  rcases HC with ⟨h0, hF⟩ | ⟨h0, h1, hF⟩ | ⟨h0, h1, h2, hF⟩ | ⟨h0, h1, h2, h3, hF⟩ | ⟨h0, h1, h2, h3, h4, hF⟩ | ⟨h0, h1, h2, h3, h4, h5, hF⟩ | ⟨h0, h1, h2, h3, h4, h5, h6, hF⟩ | ⟨h0, h1, h2, h3, h4, h5, h6, hF⟩
  all_goals
    rw [hF]
    first | (have hb := hbp.1 h0) | (have hb := hbp.2 h0)
    clear h0 hF hbp
    generalize bitsN st = bn at *
    try subst hb
    go_enter Tryz.func44, Tryz.ntmps44
    go_wp2_with fail
    refine (HR.out _).mono ?_
    rintro y w1 ⟨rfl, rfl⟩
    go_wp2
    go_ret
    exact ⟨by first | rfl | (simp; done) | (simp; omega), HB.out _⟩
end Go.Proofs.YteljecehppeamaaGreatDoor
/-
  A text's words, between blanks, in plain Lean. Condition: none.
-/
namespace Go.Fw
open Go.RowKit
set_option linter.unusedVariables false
set_option linter.unusedSimpArgs false
/-- a text's words, by a sign that parts them -/
def cutW (c : UInt8) : List UInt8 → List (List UInt8)
  | [] => [[]]
  | b :: l => if b = c then [] :: cutW c l else
    match cutW c l with
    | [] => [[b]]
    | w :: ws => (b :: w) :: ws
theorem cutW_ne (c : UInt8) : ∀ l, cutW c l ≠ []
  | [] => by simp [cutW]
  | b :: l => by
    unfold cutW
    split
    · simp
    · split <;> simp
theorem cutW_len (c : UInt8) : ∀ l, (cutW c l).length ≤ l.length + 1
  | [] => by simp [cutW]
  | b :: l => by
    have h := cutW_len c l
    have hne := cutW_ne c l
    unfold cutW
    split
    · simp; omega
    · split
      · rename_i e; exact absurd e hne
      · rename_i e; rw [e] at h; simp at h ⊢; omega
theorem indexByte_cases (c : UInt8) : ∀ l : List UInt8, (Lib.indexByte l c = -1 ∧ cutW c l = [l]) ∨ ∃ i : Nat, Lib.indexByte l c = (i : Int) ∧ i < l.length ∧ cutW c l = l.take i :: cutW c (l.drop (i + 1))
  | [] => .inl ⟨rfl, rfl⟩
  | b :: l => by
    by_cases h : b = c
    · exact .inr ⟨0, by simp [Lib.indexByte, h], by simp, by simp [cutW, h]⟩
    · have hb : (b == c) = false := by simpa using h
      rcases indexByte_cases c l with ⟨h1, h2⟩ | ⟨i, h1, h2, h3⟩
      · exact .inl ⟨by simp [Lib.indexByte, hb, h1], by simp [cutW, h, h2]⟩
      · have hn : ((i : Int) == -1) = false := by rw [beq_eq_false_iff_ne]; omega
        exact .inr ⟨i + 1, by simp [Lib.indexByte, hb, h1, hn], by simpa using h2, by simp [cutW, h, h3]⟩
/-- the words as texts -/
def wordsB (c : UInt8) (s : ByteArray) : List ByteArray := (cutW c s.data.toList).map fun l => ⟨l.toArray⟩
theorem bytes_ext {a b : ByteArray} (h : a.data.toList = b.data.toList) : a = b := by
  cases a; cases b
  congr
  exact Array.toList_inj.mp h
theorem wordsB_miss {c : UInt8} {s : ByteArray} (h : Lib.indexByte s.data.toList c = -1) : wordsB c s = [s] := by
  rcases indexByte_cases c s.data.toList with ⟨_, h2⟩ | ⟨i, h1, _, _⟩
  · unfold wordsB
    rw [h2]
    simp
  · rw [h] at h1
    omega
theorem extract_list (s : ByteArray) (a b : Nat) : (s.extract a b).data.toList = (s.data.toList.take b).drop a := by
  rw [ByteArray.data_extract]
  simp [Array.toList_extract, List.extract, List.drop_take]
theorem wordsB_hit {c : UInt8} {s : ByteArray} {i : Nat} (h : Lib.indexByte s.data.toList c = (i : Int)) : i < s.size ∧ wordsB c s = s.extract 0 i :: wordsB c (s.extract (i + 1) s.size) := by
  rcases indexByte_cases c s.data.toList with ⟨h1, _⟩ | ⟨j, h1, h2, h3⟩
  · rw [h] at h1
    omega
  · obtain rfl : j = i := by rw [h] at h1; omega
    refine ⟨by simpa using h2, ?_⟩
    unfold wordsB
    rw [h3, extract_list, List.map_cons]
    congr 1
    · refine bytes_ext ?_
      rw [extract_list]
      simp
    · congr 2
      rw [List.take_of_length_le (by simp)]
theorem wordsB_ne (c : UInt8) (s : ByteArray) : wordsB c s ≠ [] := by
  unfold wordsB
  intro h
  exact cutW_ne c _ (List.map_eq_nil_iff.1 h)
theorem wordsB_len (c : UInt8) (s : ByteArray) : (wordsB c s).length ≤ s.size + 1 := by
  have := cutW_len c s.data.toList
  unfold wordsB
  simpa using this
theorem cutW_sizes (c : UInt8) : ∀ l, ∀ w ∈ cutW c l, w.length ≤ l.length
  | [], w, h => by simp [cutW] at h; simp [h]
  | b :: l, w, h => by
    have ih := cutW_sizes c l
    unfold cutW at h
    split at h
    · rcases List.mem_cons.1 h with h | h
      · simp [h]
      · have := ih w h; simp; omega
    · split at h
      · simp at h; simp [h]
      · rename_i w0 ws e
        rw [e] at ih
        rcases List.mem_cons.1 h with h | h
        · have := ih w0 (by simp); rw [h]; simp; omega
        · have := ih w (by simp [h]); simp; omega
theorem wordsB_sizes {c : UInt8} {s x : ByteArray} (h : x ∈ wordsB c s) : x.size ≤ s.size := by
  obtain ⟨w, hw, rfl⟩ := List.mem_map.1 h
  have := cutW_sizes c _ w hw
  show w.toArray.size ≤ s.data.size
  simpa using this
end Go.Fw
/-
  Decimal numerals in plain Lean: a number's numeral is read as the number. Condition: none.
-/
namespace Go.Fw
open Go.RowKit
set_option linter.unusedVariables false
set_option linter.unusedSimpArgs false
/-- digits alone -/
def Digs (l : List UInt8) : Prop := ∀ b ∈ l, 48 ≤ b.toNat ∧ b.toNat ≤ 57
theorem digits_all : ∀ u : Nat, Digs (Lib.decDigits u) := by
  intro u
  induction u using Nat.strongRecOn with
  | _ u ih =>
    intro b hb
    rw [Lib.decDigits] at hb
    split at hb
    · rename_i h
      rw [List.mem_singleton.1 hb]
      simp only [UInt8.toNat_ofNat']
      omega
    · rename_i h
      rcases List.mem_append.1 hb with h1 | h1
      · exact ih (u / 10) (by omega) b h1
      · rw [List.mem_singleton.1 h1]
        simp only [UInt8.toNat_ofNat']
        omega
theorem digits_ne (u : Nat) : Lib.decDigits u ≠ [] := by
  intro h
  have := Lib.decDigits_length u
  rw [h] at this
  have := Lib.nDigits_pos u
  simp at *
  omega
theorem parse_snoc : ∀ (l : List UInt8) (acc m : Nat) (d : Nat), Lib.parseUint10 acc l = .ok m → d < 10 → m * 10 + d < 18446744073709551616 → Lib.parseUint10 acc (l ++ [UInt8.ofNat (48 + d)]) = .ok (m * 10 + d)
  | [], acc, m, d, h, hd, hm => by
    simp only [Lib.parseUint10] at h
    injection h with h
    subst h
    have e : (UInt8.ofNat (48 + d)).toNat = 48 + d := by simp only [UInt8.toNat_ofNat']; omega
    simp only [List.nil_append, Lib.parseUint10, e]
    rw [if_pos (by omega), if_neg (by omega), if_neg (by omega)]
    congr 2
    omega
  | c :: r, acc, m, d, h, hd, hm => by
    simp only [Lib.parseUint10, List.cons_append] at h ⊢
    split at h
    · split at h
      · cases h
      · split at h
        · cases h
        · rename_i h1 h2 h3
          rw [if_pos h1, if_neg h2, if_neg h3]
          exact parse_snoc r _ m d h hd hm
    · cases h
theorem parse_digits : ∀ u : Nat, u < 18446744073709551616 → Lib.parseUint10 0 (Lib.decDigits u) = .ok u := by
  intro u
  induction u using Nat.strongRecOn with
  | _ u ih =>
    intro hu
    rw [Lib.decDigits]
    split
    · rename_i h
      have := parse_snoc [] 0 0 u rfl h (by omega)
      simpa using this
    · rename_i h
      have h1 := ih (u / 10) (by omega) (by omega)
      have h2 := parse_snoc _ _ _ (u % 10) h1 (by omega) (by omega)
      rw [show u / 10 * 10 + u % 10 = u by omega] at h2
      exact h2
theorem mag_digits {u : Nat} (hu : u < 18446744073709551616) : Lib.parseMag (Lib.decDigits u) = .ok u := by
  unfold Lib.parseMag
  rw [if_neg (digits_ne u)]
  exact parse_digits u hu
/-- a number's numeral is read as the number -/
theorem atoi_itoa {n : Int} (h0 : -9223372036854775808 ≤ n) (h1 : n ≤ 9223372036854775807) : Lib.atoiAll (Lib.itoa n) = .ok n := by
  unfold Lib.itoa
  split
  · rename_i h
    rw [Lib.atoiAll_minus, mag_digits (by omega)]
    unfold Lib.signed
    have : n.natAbs ≤ 9223372036854775808 := by omega
    simp only
    rw [if_neg (by omega)]
    congr 1
    omega
  · rename_i h
    have hne := digits_ne n.toNat
    have hall := digits_all n.toNat
    have hm := mag_digits (u := n.toNat) (by omega)
    cases hd : Lib.decDigits n.toNat with
    | nil => exact absurd hd hne
    | cons c r =>
      rw [hd] at hall hm
      have hc := hall c (by simp)
      rw [Lib.atoiAll_plain c r (by omega) (by omega), hm]
      unfold Lib.signless
      simp only
      rw [if_neg (by omega)]
      congr 1
      omega
/-- a number's numeral as a text -/
def decB (n : Int) : ByteArray := ⟨(Lib.itoa n).toArray⟩
theorem decB_list (n : Int) : (decB n).data.toList = Lib.itoa n := by simp [decB]
theorem decB_size {n : Int} (h0 : -9223372036854775808 ≤ n) (h1 : n ≤ 9223372036854775807) : (decB n).size ≤ 21 := by
  have := Lib.itoa_length_le n h0 h1
  show (decB n).data.size ≤ 21
  unfold decB
  simpa using this
/-- no numeral holds a sign that is neither a digit nor the minus -/
theorem itoa_signs (n : Int) : ∀ b ∈ Lib.itoa n, (48 ≤ b.toNat ∧ b.toNat ≤ 57) ∨ b = 45 := by
  intro b hb
  unfold Lib.itoa at hb
  split at hb
  · rcases List.mem_cons.1 hb with h | h
    · exact .inr h
    · exact .inl (digits_all _ b h)
  · exact .inl (digits_all _ b hb)
theorem itoa_ne (n : Int) : Lib.itoa n ≠ [] := by
  unfold Lib.itoa
  split
  · simp
  · exact digits_ne _
theorem itoa_inj {m n : Int} (h0 : -9223372036854775808 ≤ m) (h1 : m ≤ 9223372036854775807) (k0 : -9223372036854775808 ≤ n) (k1 : n ≤ 9223372036854775807) (h : Lib.itoa m = Lib.itoa n) : m = n := by
  have e1 := atoi_itoa h0 h1
  rw [h, atoi_itoa k0 k1] at e1
  injection e1 with e1
  exact e1.symm
end Go.Fw
/-
  What picks' text is read as, in plain Lean. Condition: none.
-/
namespace Go.Fw
open Go.RowKit
set_option linter.unusedVariables false
set_option linter.unusedSimpArgs false
/-- the number of a word that is a number's numeral -/
def readW (x : ByteArray) : Option Int := match Lib.atoiAll x.data.toList with
  | .ok n => if decB n = x then some n else none
  | _ => none
theorem readW_some {x : ByteArray} {n : Int} (h : readW x = some n) : -9223372036854775808 ≤ n ∧ n ≤ 9223372036854775807 ∧ decB n = x := by
  unfold readW at h
  split at h
  · rename_i m hm
    split at h
    · injection h with h
      subst h
      have := Lib.atoiAll_bounds hm
      exact ⟨this.1, this.2, by assumption⟩
    · cases h
  · cases h
theorem readW_ok {x : ByteArray} {n : Int} (h : Lib.atoiAll x.data.toList = .ok n) (he : decB n = x) : readW x = some n := by
  unfold readW
  rw [h]
  simp only
  rw [if_pos he]
theorem readW_other {x : ByteArray} {n : Int} (h : Lib.atoiAll x.data.toList = .ok n) (he : decB n ≠ x) : readW x = none := by
  unfold readW
  rw [h]
  simp only
  rw [if_neg he]
theorem readW_bad {x : ByteArray} (h : ∀ v, Lib.atoiAll x.data.toList ≠ .ok v) : readW x = none := by
  unfold readW
  split
  · rename_i n hn
    exact absurd hn (h n)
  · rfl
theorem readW_dec {n : Int} (h0 : -9223372036854775808 ≤ n) (h1 : n ≤ 9223372036854775807) : readW (decB n) = some n :=
  readW_ok (by rw [decB_list]; exact atoi_itoa h0 h1) rfl
/-- the numbers of words -/
def numsW (l : List ByteArray) : List Int := l.filterMap readW
/-- all words are numbers' numerals -/
def GoodW (l : List ByteArray) : Prop := ∀ x ∈ l, readW x ≠ none
theorem numsW_snoc {l : List ByteArray} {x : ByteArray} {n : Int} (h : readW x = some n) : numsW (l ++ [x]) = numsW l ++ [n] := by
  unfold numsW
  rw [List.filterMap_append]
  simp [h]
theorem GoodW.snoc {l : List ByteArray} {x : ByteArray} {n : Int} (hl : GoodW l) (h : readW x = some n) : GoodW (l ++ [x]) := by
  intro y hy
  rcases List.mem_append.1 hy with h1 | h1
  · exact hl y h1
  · rw [List.mem_singleton.1 h1, h]
    simp
theorem numsW_len (l : List ByteArray) : (numsW l).length ≤ l.length := List.length_filterMap_le _ _
theorem numsW_in {l : List ByteArray} : ∀ n ∈ numsW l, -9223372036854775808 ≤ n ∧ n ≤ 9223372036854775807 := by
  intro n hn
  obtain ⟨x, _, hx⟩ := List.mem_filterMap.1 hn
  have := readW_some hx
  exact ⟨this.1, this.2.1⟩
/-- the words of what was read are the numbers' numerals -/
theorem goodW_back {l : List ByteArray} (h : GoodW l) : (numsW l).map decB = l := by
  induction l with
  | nil => rfl
  | cons x r ih =>
    have hr : GoodW r := fun y hy => h y (List.mem_cons_of_mem _ hy)
    have hx := h x (List.mem_cons_self)
    cases hw : readW x with
    | none => exact absurd hw hx
    | some n =>
      have h2 := (readW_some hw).2.2
      have h3 := ih hr
      unfold numsW at *
      rw [List.filterMap_cons_some hw, List.map_cons, h2, h3]
theorem goodW_of {ns : List Int} (h : ∀ n ∈ ns, -9223372036854775808 ≤ n ∧ n ≤ 9223372036854775807) : GoodW (ns.map decB) ∧ numsW (ns.map decB) = ns := by
  induction ns with
  | nil => exact ⟨(fun x hx => by cases hx), rfl⟩
  | cons n r ih =>
    have hr := ih fun m hm => h m (List.mem_cons_of_mem _ hm)
    have hn := h n (List.mem_cons_self)
    have hd := readW_dec hn.1 hn.2
    refine ⟨fun x hx => ?_, ?_⟩
    · rcases List.mem_cons.1 hx with h1 | h1
      · rw [h1, hd]; simp
      · exact hr.1 x h1
    · have h2 := hr.2
      unfold numsW at *
      rw [List.map_cons, List.filterMap_cons_some hd, h2]
end Go.Fw
/-
  Words joined by a sign, in plain Lean; the text of numbers. Condition: none.
-/
namespace Go.Fw
open Go.RowKit
set_option linter.unusedVariables false
set_option linter.unusedSimpArgs false
/-- words joined by a sign -/
def joinS (c : UInt8) : List (List UInt8) → List UInt8
  | [] => []
  | w :: r => w ++ r.flatMap fun x => c :: x
theorem joinS_snoc (c : UInt8) : ∀ (l : List (List UInt8)) (x : List UInt8), l ≠ [] → joinS c (l ++ [x]) = joinS c l ++ (c :: x)
  | [], x, h => absurd rfl h
  | w :: r, x, _ => by simp [joinS, List.flatMap_append]
theorem joinS_flat (c : UInt8) : ∀ l : List (List UInt8), l ≠ [] → (l.flatMap fun x => c :: x) = c :: joinS c l
  | [], h => absurd rfl h
  | w :: r, _ => by simp [joinS]
theorem join_cut (c : UInt8) : ∀ l, joinS c (cutW c l) = l
  | [] => by simp [cutW, joinS]
  | b :: l => by
    have ih := join_cut c l
    have hne := cutW_ne c l
    unfold cutW
    split
    · rename_i h
      simp only [joinS, List.nil_append]
      rw [joinS_flat c _ hne, ih, h]
    · split
      · rename_i e; exact absurd e hne
      · rename_i w ws e
        rw [e] at ih
        simp only [joinS, List.cons_append] at ih ⊢
        rw [ih]
theorem cut_word (c : UInt8) : ∀ w : List UInt8, c ∉ w → cutW c w = [w]
  | [], _ => rfl
  | b :: w, h => by
    have hb : b ≠ c := fun e => h (by simp [e])
    rw [cutW, if_neg hb, cut_word c w fun e => h (by simp [e])]
theorem cut_app (c : UInt8) : ∀ (w r : List UInt8), c ∉ w → cutW c (w ++ c :: r) = w :: cutW c r
  | [], r, _ => by simp [cutW]
  | b :: w, r, h => by
    have hb : b ≠ c := fun e => h (by simp [e])
    rw [List.cons_append, cutW, if_neg hb, cut_app c w r fun e => h (by simp [e])]
theorem cut_join (c : UInt8) : ∀ l : List (List UInt8), l ≠ [] → (∀ w ∈ l, c ∉ w) → cutW c (joinS c l) = l
  | [], h, _ => absurd rfl h
  | [w], _, h => by simp only [joinS, List.flatMap_nil, List.append_nil]; exact cut_word c w (h w (by simp))
  | w :: v :: r, _, h => by
    have e : joinS c (w :: v :: r) = w ++ (c :: joinS c (v :: r)) := by
      rw [← joinS_flat c (v :: r) (by simp)]
      rfl
    rw [e, cut_app c _ _ (h w (by simp)), cut_join c (v :: r) (by simp) fun x hx => h x (by simp [hx])]
theorem joinS_len (c : UInt8) (m : Nat) : ∀ l : List (List UInt8), (∀ w ∈ l, w.length ≤ m) → (joinS c l).length ≤ l.length * (m + 1)
  | [], _ => by simp [joinS]
  | w :: r, h => by
    have hw := h w (by simp)
    have hr : (r.flatMap fun x => c :: x).length ≤ r.length * (m + 1) := by
      have h2 : ∀ x ∈ r, x.length ≤ m := fun x hx => h x (by simp [hx])
      clear h hw
      induction r with
      | nil => simp
      | cons x r ih =>
        have h3 := ih fun y hy => h2 y (by simp [hy])
        have h4 := h2 x (by simp)
        rw [List.flatMap_cons, List.length_append, List.length_cons, List.length_cons, Nat.succ_mul]
        omega
    simp only [joinS, List.length_append, List.length_cons, Nat.succ_mul]
    omega
/-- the text of numbers -/
def textN (l : List Int) : List UInt8 := joinS 32 (l.map Lib.itoa)
def textB (l : List Int) : ByteArray := ⟨(textN l).toArray⟩
theorem textB_list (l : List Int) : (textB l).data.toList = textN l := by simp [textB]
/-- the text as it stands ahead of one more number -/
def preN (l : List Int) (k : Nat) : List UInt8 := if k = 0 then [] else textN (l.take k) ++ [32]
theorem textN_zero (l : List Int) : textN (l.take 0) = [] := by simp [textN, joinS]
theorem textN_succ {l : List Int} {k : Nat} (h : k < l.length) : textN (l.take (k + 1)) = preN l k ++ Lib.itoa l[k] := by
  rw [List.take_succ_eq_append_getElem h]
  unfold preN
  split
  · rename_i h0
    subst h0
    simp [textN, joinS]
  · rename_i h0
    unfold textN
    rw [List.map_append, List.map_cons, List.map_nil, joinS_snoc]
    · simp
    · intro e
      have := congrArg List.length e
      rw [List.length_map, List.length_take, List.length_nil] at this
      omega
theorem textN_len {l : List Int} (h : ∀ x ∈ l, -9223372036854775808 ≤ x ∧ x ≤ 9223372036854775807) : (textN l).length ≤ l.length * 22 := by
  have := joinS_len 32 21 (l.map Lib.itoa) fun w hw => by
    obtain ⟨x, hx, rfl⟩ := List.mem_map.1 hw
    have := Lib.itoa_length_le x (h x hx).1 (h x hx).2
    omega
  simpa [textN] using this
theorem itoa_no {n : Int} {c : UInt8} (h : c.toNat < 45) : c ∉ Lib.itoa n := fun hc => by
  rcases itoa_signs n c hc with h1 | h1
  · omega
  · subst h1
    exact absurd h (by decide)
theorem words_text {l : List Int} (h : l ≠ []) : wordsB 32 (textB l) = l.map decB := by
  unfold wordsB
  rw [textB_list, textN, cut_join 32 _ (by simpa using h) (by
    intro w hw
    obtain ⟨x, _, rfl⟩ := List.mem_map.1 hw
    exact itoa_no (by decide)), List.map_map]
  rfl
theorem text_ne {l : List Int} (h : l ≠ []) : (textB l).size ≠ 0 := by
  cases l with
  | nil => exact absurd rfl h
  | cons x r =>
    intro e
    have e2 : (textN (x :: r)).length = 0 := by
      have h3 : (textB (x :: r)).size = (textN (x :: r)).length := by
        show (textB (x :: r)).data.size = _
        simp [textB]
      omega
    have h2 := itoa_ne x
    simp [textN, joinS] at e2
    exact h2 e2.1
theorem text_nil : textB [] = ByteArray.empty := rfl
theorem text_words {s : ByteArray} (h : GoodW (wordsB 32 s)) : textB (numsW (wordsB 32 s)) = s := by
  have h1 := goodW_back h
  generalize hn : numsW (wordsB 32 s) = ns at *
  have h2 : ns.map Lib.itoa = cutW 32 s.data.toList := by
    have h3 := congrArg (List.map fun x : ByteArray => x.data.toList) h1
    unfold wordsB at h3
    rw [List.map_map, List.map_map] at h3
    have e1 : ((fun x : ByteArray => x.data.toList) ∘ decB) = Lib.itoa := by funext n; exact decB_list n
    have e2 : ((fun x : ByteArray => x.data.toList) ∘ fun l : List UInt8 => (⟨l.toArray⟩ : ByteArray)) = id := by funext n; simp
    rw [e1, e2, List.map_id] at h3
    exact h3
  refine bytes_ext ?_
  rw [textB_list, textN, h2, join_cut]
end Go.Fw
