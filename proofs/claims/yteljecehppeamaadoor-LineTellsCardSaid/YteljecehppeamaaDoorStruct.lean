/-
  Slices whose elements have several cells, and those of decisions (api.Advice). Condition: none.
-/
import Derived.Test.YteljecehppeamaaDoorBase
namespace Go.Fw
open Go.RowKit Go.WideShapes Go.ChangeShapes
set_option linter.unusedVariables false
set_option linter.unusedSimpArgs false

theorem flat_get {α : Type} (f : α → List Value) (s : Nat) (hf : ∀ x, (f x).length = s) : ∀ (l : List α) (k j : Nat) (hk : k < l.length), j < s → (l.flatMap f)[k * s + j]? = (f l[k])[j]? := by
  intro l
  induction l with
  | nil => intro k j hk; simp at hk
  | cons x l ih =>
    intro k j hk hj
    rw [List.flatMap_cons]
    obtain _ | k := k
    · rw [Nat.zero_mul, Nat.zero_add, List.getElem?_append_left (by rw [hf]; exact hj)]
      rfl
    · rw [List.getElem?_append_right (by rw [hf, Nat.succ_mul]; omega), hf, show (k + 1) * s + j - s = k * s + j by rw [Nat.succ_mul]; omega]
      exact ih k j (by simpa using hk) hj
theorem flat_length {α : Type} (f : α → List Value) (s : Nat) (hf : ∀ x, (f x).length = s) (l : List α) : (l.flatMap f).length = l.length * s := by
  induction l with
  | nil => simp
  | cons x l ih => rw [List.flatMap_cons, List.length_append, hf, ih, List.length_cons, Nat.succ_mul]; omega

/-- where there is an element the address has no spot -/
theorem Reads.base_ {w : World} {B size n k : Nat} {A : Option Addr} {xs : List Value} (h : Reads w B size A n xs) (hs : 0 < size) (hk : k < n) :
    ∃ b o, A = some ⟨b, o, none⟩ ∧ b < B ∧ ∀ j u, xs[j]? = some u → w.cell? ⟨b, o + j, none⟩ = some u := by
  obtain ⟨ad, rfl, hb, hc⟩ := h.2 (by omega)
  have hl : 0 < xs.length := by rw [h.1]; exact Nat.mul_pos (by omega) hs
  have h0 := hc 0 _ (List.getElem?_eq_getElem hl)
  obtain ⟨b, o, sp⟩ := ad
  obtain rfl : sp = none := by
    have e : (⟨b, o, sp⟩ : Addr).add 0 = ⟨b, o, sp⟩ := by simp [Addr.add]
    rw [e] at h0
    cases sp with
    | none => rfl
    | some s => simp [World.cell?] at h0; split at h0 <;> simp_all
  refine ⟨b, o, rfl, hb, fun j u hu => ?_⟩
  have := hc j u hu
  rwa [show (⟨b, o, none⟩ : Addr).add j = ⟨b, o + j, none⟩ by unfold Addr.add; split <;> simp_all] at this
theorem Reads.elem {α : Type} {f : α → List Value} {s : Nat} {w : World} {B n k : Nat} {A : Option Addr} {l : List α} (h : Reads w B s A n (l.flatMap f)) (hf : ∀ x, (f x).length = s) (hs : 0 < s) (hn : n = l.length) (hk : k < l.length) :
    ∃ b o, A = some ⟨b, o, none⟩ ∧ b < B ∧ ∀ j u, (f l[k])[j]? = some u → w.cell? ⟨b, o + (k * s + j), none⟩ = some u := by
  obtain ⟨b, o, rfl, hb, hc⟩ := h.base_ (k := k) hs (by omega)
  refine ⟨b, o, rfl, hb, fun j u hu => hc _ u ?_⟩
  have hj : j < s := by have := (List.getElem?_eq_some_iff.1 hu).1; rwa [hf] at this
  rw [flat_get f s hf l k j hk hj, hu]

/-- The facts on an element type of s cells that appending wants. -/
structure ElemS (P : Program) (t e : TypeId) (z : Value) (s bytes : Nat) : Prop where
  under : P.underlying t = some (.slice e)
  info : (P.info? e).map (fun i => (i.zero, i.size, i.bytes)) = some (some z, s, bytes)
  cells : z.cells.size = s
/-- A row of n elements of s cells that the call made since world w0, and nothing of w0 has turned. -/
structure MineS (s : Nat) (w0 w : World) (e : TypeId) (v : Value) (n : Nat) (xs : List Value) : Prop where
  own : w.ownsRow w0.heap.size e s v n xs
  below : Below w0.heap.size w0 w
section
variable {s : Nat} {w0 w : World} {e : TypeId} {v : Value} {n : Nat} {xs : List Value}
theorem MineS.nil_ (s : Nat) (w : World) (e : TypeId) : MineS s w w e (.slice none 0 0) 0 [] := ⟨World.ownsRow_nil w _ e s, Below.refl _ _⟩
theorem MineS.nil_at (s : Nat) {w0 w : World} (h : Below w0.heap.size w0 w) (e : TypeId) : MineS s w0 w e (.slice none 0 0) 0 [] := ⟨World.ownsRow_nil w _ e s, h⟩
theorem MineS.le (h : MineS s w0 w e v n xs) : w0.heap.size ≤ w.heap.size := h.below.size
theorem MineS.form (h : MineS s w0 w e v n xs) : ∃ A c, v = .slice A n c ∧ n ≤ c ∧ c ≤ maxLen ∧ Reads w w.heap.size s A n xs := by
  obtain ⟨A, c, rfl, h1, h2⟩ := own_form h.own
  exact ⟨A, c, rfl, h1, h2, Reads.of_own h.own⟩
theorem MineS.later {w' : World} (h : MineS s w0 w e v n xs) (hb : Below w.heap.size w w') : MineS s w0 w' e v n xs := by
  refine ⟨h.own.kept (row := none) ⟨hb.os, hb.tape, hb.output, hb.size, fun k hk _ => hb.block k hk⟩ ?_, h.below.trans (hb.mono h.le)⟩
  cases v.ownBlock <;> simp
end
section
variable {P : Program}
theorem wpList_append_oneS {s : Nat} {w0 w : World} {ops : Array Oper} {rest : List Oper} {o : Oper} {a : Act} {Q : Exit → Act → World → Prop} {t e e' : TypeId} {z : Value} {bytes : Nat} (hT : ElemS P t e z s bytes) (hs0 : 0 < s)
    (hgd : o.guard = none) (sl x : Operand) (ho : o.op = .call { callee := .builtin .append, args := #[sl, x], argTypes := #[t, t] })
    {v : Value} {n : Nat} {xs : List Value} (hs : a.eval sl = v) (hm : MineS s w0 w e v n xs) {cs : Array Value} (hx : a.eval x = .slice (some ⟨w.heap.size, 0, none⟩) 1 1) (hcs : cs.size = s) (h1 : ∀ u ∈ cs.toList, u.oneCell' = true)
    (hlen : (n + 1) * bytes ≤ 140737488355328) (hle : n + 1 ≤ maxLen)
    (h : ∀ v' w', MineS s w0 w' e v' (n + 1) (xs ++ cs.toList) → w.grownBy w' v.ownBlock → wpList P ops Q rest (a.put o.dst v') w') :
    wpList P ops Q (o :: rest) a (w.alloc (.cells cs e')) := by
  obtain ⟨i, hi, hz, hsz, hby⟩ := info_parts hT.info
  refine wpList_append_own (w.alloc (.cells cs e')) hgd sl x t ho w0.heap.size e i z s bytes hT.under hi hz hsz hby hT.cells hs0 v n xs hs (hm.own.alloc _) ⟨w.heap.size, 0, none⟩ 1 1 cs.toList hx (by simpa using hcs)
    (fun j u hu => ?_) h1 hle hlen (by have := hm.le; simp; omega) fun v' w' h2 h3 _ => ?_
  · rw [show (⟨w.heap.size, 0, none⟩ : Addr).add j = ⟨w.heap.size, j, none⟩ by unfold Addr.add; split <;> simp_all]
    rw [World.cell?_alloc_mark]
    simpa using hu
  · have hg : w.grownBy w' v.ownBlock := ⟨h3.os, h3.tape, h3.output, Nat.le_trans (by simp) h3.size, fun k hk hne => (h3.block k (by simp; omega) hne).trans (Below.heap_alloc w _ k hk)⟩
    exact h v' w' ⟨h2, hm.below.grown hg hm.le fun k hk => (hm.own.lt k hk).1⟩ hg
end

/-! Decisions. -/
structure Adv where
  tick : Int
  load : Int
  want : Int
  reps : Int
  why : Int
  deriving DecidableEq
def Adv.cells (a : Adv) : List Value := [.int .i64 a.tick, .int .i64 a.load, .int .i64 a.want, .int .i64 a.reps, .int .i64 a.why]
def advs (l : List Adv) : List Value := l.flatMap Adv.cells
theorem Adv.cells_length (a : Adv) : a.cells.length = 5 := rfl
theorem advs_length (l : List Adv) : (advs l).length = l.length * 5 := flat_length _ 5 Adv.cells_length l
def In64 (n : Int) : Prop := -9223372036854775808 ≤ n ∧ n ≤ 9223372036854775807
structure Adv.ok (a : Adv) : Prop where
  tick : In64 a.tick
  load : In64 a.load
  want : In64 a.want
  reps : In64 a.reps
  why : In64 a.why
theorem adv_len {w : World} {B n : Nat} {A : Option Addr} {l : List Adv} (h : Reads w B 5 A n (advs l)) : n = l.length := by
  have := h.1
  rw [advs_length] at this
  omega
theorem adv_at {w : World} {B n k : Nat} {A : Option Addr} {l : List Adv} (h : Reads w B 5 A n (advs l)) (hk : k < l.length) :
    ∃ b o, A = some ⟨b, o, none⟩ ∧ b < B ∧ w.cell? ⟨b, o + k * 5, none⟩ = some (.int .i64 l[k].tick) ∧ w.cell? ⟨b, o + k * 5 + 1, none⟩ = some (.int .i64 l[k].load) ∧
      w.cell? ⟨b, o + k * 5 + 2, none⟩ = some (.int .i64 l[k].want) ∧ w.cell? ⟨b, o + k * 5 + 3, none⟩ = some (.int .i64 l[k].reps) ∧ w.cell? ⟨b, o + k * 5 + 4, none⟩ = some (.int .i64 l[k].why) := by
  obtain ⟨b, o, rfl, hb, hc⟩ := h.elem Adv.cells_length (by decide) (adv_len h) hk
  exact ⟨b, o, rfl, hb, hc 0 _ rfl, hc 1 _ rfl, hc 2 _ rfl, hc 3 _ rfl, hc 4 _ rfl⟩
theorem advs_snoc (l : List Adv) (a : Adv) : advs l ++ a.cells = advs (l ++ [a]) := by simp [advs]
end Go.Fw
