/-
  Chapter 27 in plain Lean: tasks that go on step by step; and how they lie in memory. Condition: none.
-/
import Derived.Test.YtenjhklkljeijaaArgs
import Derived.Test.YtenjhklkljeijaaOwn
import Derived.Test.YtenjhklkljeijaaRegion
namespace Go.Fw
open Go.RowKit
set_option linter.unusedVariables false
set_option linter.unusedSimpArgs false

structure Toy where
  left : Int
  gap : Int
  phase : Int
  deriving DecidableEq, Inhabited
def Toy.cells (a : Toy) : List Value := [.int .i64 a.left, .int .i64 a.gap, .int .i64 a.phase]
def toyV (l : List Toy) : List Value := l.flatMap Toy.cells
structure Toy.ok (a : Toy) : Prop where
  left : In64 a.left
  gap : In64 a.gap
  phase : In64 a.phase
theorem Toy.cells_length (a : Toy) : a.cells.length = 3 := rfl
theorem toyV_length (l : List Toy) : (toyV l).length = l.length * 3 := flat_length _ 3 Toy.cells_length l
theorem toy_len {w : World} {B n : Nat} {A : Option Addr} {l : List Toy} (h : Reads w B 3 A n (toyV l)) : n = l.length := by
  have := h.1
  rw [toyV_length] at this
  omega
theorem toy_at {w : World} {B n k : Nat} {A : Option Addr} {l : List Toy} (h : Reads w B 3 A n (toyV l)) (hk : k < l.length) :
    ∃ b o, A = some ⟨b, o, none⟩ ∧ b < B ∧ w.cell? ⟨b, o + k * 3, none⟩ = some (.int .i64 l[k].left) ∧ w.cell? ⟨b, o + k * 3 + 1, none⟩ = some (.int .i64 l[k].gap) ∧ w.cell? ⟨b, o + k * 3 + 2, none⟩ = some (.int .i64 l[k].phase) := by
  obtain ⟨b, o, rfl, hb, hc⟩ := h.elem Toy.cells_length (by decide) (toy_len h) hk
  exact ⟨b, o, rfl, hb, hc 0 _ rfl, hc 1 _ rfl, hc 2 _ rfl⟩

/-- may it do a step, behind so many steps of all? -/
def readyT (t : Toy) (u : Int) : Bool := if t.left < 1 then false else decide (t.gap < 2) || ((u + t.phase) % t.gap != 0)
/-- small enough to look at -/
structure Toy.few (a : Toy) : Prop where
  left : a.left ≤ 1000
  phase0 : 0 ≤ a.phase
  phase1 : a.phase ≤ 1000
def firstN (pick n : Int) : Int := if n < 1 then -1 else pick % n
def nextF (ts : List Toy) (u : Int) (a : Nat) : Nat → Nat → Int
  | 0, _ => -1
  | f + 1, i => if readyT (ts.getD ((a + i) % ts.length) default) u = true then (((a + i) % ts.length : Nat) : Int) else nextF ts u a f (i + 1)
def nextL (ts : List Toy) (u pick : Int) : Int := nextF ts u (firstN pick ts.length).toNat ts.length 0
def openL (ts : List Toy) : Nat := (ts.filter fun t => decide (1 ≤ t.left)).length
theorem openL_snoc (ts : List Toy) (t : Toy) : openL (ts ++ [t]) = openL ts + if 1 ≤ t.left then 1 else 0 := by
  unfold openL
  rw [List.filter_append]
  by_cases h : 1 ≤ t.left <;> simp [List.filter_cons, h]
theorem openL_take {ts : List Toy} {k : Nat} (hk : k < ts.length) : openL (ts.take (k + 1)) = openL (ts.take k) + if 1 ≤ ts[k].left then 1 else 0 := by
  rw [List.take_succ_eq_append_getElem hk, openL_snoc]
theorem openL_le (ts : List Toy) : openL ts ≤ ts.length := List.length_filter_le _ _
theorem nextF_cases (ts : List Toy) (u : Int) (a : Nat) (hn : 0 < ts.length) : ∀ (f i : Nat), nextF ts u a f i = -1 ∨ ∃ b : Nat, ∃ h : b < ts.length, nextF ts u a f i = b ∧ readyT ts[b] u = true := by
  intro f
  induction f with
  | zero => intro i; exact .inl rfl
  | succ f ih =>
    intro i
    rw [nextF]
    have hlt : (a + i) % ts.length < ts.length := Nat.mod_lt _ hn
    split
    · rename_i hr
      refine .inr ⟨_, hlt, rfl, ?_⟩
      rwa [List.getD_eq_getElem?_getD, List.getElem?_eq_getElem hlt] at hr
    · exact ih _
theorem nextL_cases (ts : List Toy) (u pick : Int) : nextL ts u pick = -1 ∨ ∃ b : Nat, ∃ h : b < ts.length, nextL ts u pick = b ∧ readyT ts[b] u = true := by
  rcases Nat.eq_zero_or_pos ts.length with h | h
  · left
    unfold nextL
    rw [h]
    rfl
  · exact nextF_cases ts u _ h _ _
def toyStep (t : Toy) : Toy := { t with left := t.left - 1 }
/-- how many picks were used, how many steps each did, and the toys behind it; 'go' says behind each step whether it goes on -/
def runW (go : Nat → Bool) : Int → List Toy → List Int → Nat → List Int → Nat × List Int × List Toy
  | u, ts, st, n, [] => (n, st, ts)
  | u, ts, st, n, p :: r => if nextL ts u p < 0 then (n, st, ts) else
    if go n = true then runW go (u + 1) (ts.set (nextL ts u p).toNat (toyStep (ts.getD (nextL ts u p).toNat default))) (st.set (nextL ts u p).toNat (st.getD (nextL ts u p).toNat 0 + 1)) (n + 1) r
    else (n + 1, st.set (nextL ts u p).toNat (st.getD (nextL ts u p).toNat 0 + 1), ts.set (nextL ts u p).toNat (toyStep (ts.getD (nextL ts u p).toNat default)))
theorem runW_end {go : Nat → Bool} {u : Int} {ts : List Toy} {st : List Int} {n : Nat} {ps : List Int} {k : Nat} (hk : k < ps.length) (h : nextL ts u ps[k] < 0) : runW go u ts st n (ps.drop k) = (n, st, ts) := by
  rw [List.drop_eq_getElem_cons hk, runW, if_pos h]
theorem runW_on {go : Nat → Bool} {u : Int} {ts : List Toy} {st : List Int} {n : Nat} {ps : List Int} {k b : Nat} (hk : k < ps.length) (h : nextL ts u ps[k] = b) (hb : b < ts.length) (hs : b < st.length) (hg : go n = true) :
    runW go u ts st n (ps.drop k) = runW go (u + 1) (ts.set b (toyStep ts[b])) (st.set b (st[b] + 1)) (n + 1) (ps.drop (k + 1)) := by
  rw [List.drop_eq_getElem_cons hk, runW, h, if_neg (by omega), if_pos hg]
  simp [hb, hs]
theorem runW_stop {go : Nat → Bool} {u : Int} {ts : List Toy} {st : List Int} {n : Nat} {ps : List Int} {k b : Nat} (hk : k < ps.length) (h : nextL ts u ps[k] = b) (hb : b < ts.length) (hs : b < st.length) (hg : go n = false) :
    runW go u ts st n (ps.drop k) = (n + 1, st.set b (st[b] + 1), ts.set b (toyStep ts[b])) := by
  rw [List.drop_eq_getElem_cons hk, runW, h, if_neg (by omega), if_neg (by rw [hg]; simp)]
  simp [hb, hs]

/-! how tasks lie in memory: a toy that the law made, or nil -/
/-- the blocks that a step may write -/
def InT (es : List (Option Nat)) (cb : Nat) (k : Nat) : Prop := some k ∈ es ∨ k = cb
structure Keep (L : Nat → Prop) (w w' : World) : Prop where
  os : w'.os = w.os
  tape : w'.tape = w.tape
  output : w'.output = w.output
  size : w.heap.size ≤ w'.heap.size
  block : ∀ k, k < w.heap.size → ¬ L k → w'.heap[k]? = w.heap[k]?
theorem Keep.refl (L : Nat → Prop) (w : World) : Keep L w w := ⟨rfl, rfl, rfl, Nat.le_refl _, fun _ _ _ => rfl⟩
theorem Keep.trans {L : Nat → Prop} {w w' w'' : World} (h : Keep L w w') (k : Keep L w' w'') : Keep L w w'' :=
  ⟨k.os.trans h.os, k.tape.trans h.tape, k.output.trans h.output, Nat.le_trans h.size k.size, fun j hj hl => (k.block j (Nat.lt_of_lt_of_le hj h.size) hl).trans (h.block j hj hl)⟩
theorem Keep.of_below {L : Nat → Prop} {w w' : World} (h : Below w.heap.size w w') : Keep L w w' := ⟨h.os, h.tape, h.output, h.size, fun k hk _ => h.block k hk⟩
theorem Keep.below {L : Nat → Prop} {B : Nat} {w w' : World} (h : Keep L w w') (hB : B ≤ w.heap.size) (hL : ∀ k, L k → B ≤ k) : Below B w w' :=
  ⟨h.os, h.tape, h.output, h.size, fun k hk => h.block k (by omega) (fun e => by have := hL k e; omega)⟩
theorem Keep.setCell {L : Nat → Prop} {w w' : World} (h : Keep L w w') {p : Addr} (hp : L p.block ∨ w.heap.size ≤ p.block) (u : Value) : Keep L w (w'.setCell p u) :=
  ⟨h.os, h.tape, h.output, by simpa [World.setCell] using h.size, fun k hk hl => (Below.heap_setCell w' p u k (fun e => by rcases hp with hp | hp; exact hl (e ▸ hp); omega)).trans (h.block k hk hl)⟩
theorem Keep.alloc {L : Nat → Prop} {w w' : World} (h : Keep L w w') (o : Obj) : Keep L w (w'.alloc o) :=
  ⟨h.os, h.tape, h.output, Nat.le_trans h.size (by simp), fun k hk hl => (Below.heap_alloc w' o k (Nat.lt_of_lt_of_le hk h.size)).trans (h.block k hk hl)⟩
theorem Keep.drew {L : Nat → Prop} {w w' : World} (h : Keep L w w') : Keep L w w'.drew := ⟨h.os, h.tape, h.output, h.size, h.block⟩
theorem Keep.drewN {L : Nat → Prop} {w w' : World} (h : Keep L w w') (n : Nat) : Keep L w (w'.drewN n) := ⟨h.os, h.tape, h.output, h.size, h.block⟩
theorem Keep.blk {L : Nat → Prop} {w w' : World} (h : Keep L w w') {g : Nat} {t : TypeId} {cs : Array Value} (hb : Blk w g t cs) (hg : ¬ L g) : Blk w' g t cs := (h.block g hb.lt hg).trans hb
theorem Keep.reads {L : Nat → Prop} {w w' : World} (h : Keep L w w') {B s n : Nat} {A : Option Addr} {xs : List Value} (hr : Reads w B s A n xs) (hB : B ≤ w.heap.size) (hL : ∀ ad, A = some ad → 0 < n → ¬ L ad.block) : Reads w' B s A n xs :=
  ⟨hr.1, fun hn => by
    obtain ⟨ad, e, hb, hc⟩ := hr.2 hn
    refine ⟨ad, e, hb, fun j u hu => (World.cell?_of_block (h.block _ (by rw [block_of_add]; omega) (by rw [block_of_add]; exact hL ad e hn))).trans (hc j u hu)⟩⟩

def toyC (t : Toy) (cb : Nat) : Array Value := #[.int .i64 t.left, .int .i64 t.gap, .int .i64 t.phase, .pointer (some ⟨cb, 0, none⟩)]
end Go.Fw
namespace Go.Proofs.Ytenjhklkljeijaa
open Go.RowKit Go.Fw
/-- a task's value -/
def tkV : Option Nat → Value
  | some p => .iface 52 (.pointer (some ⟨p, 0, none⟩))
  | none => .nilIface
def TkOk (w : World) (cb : Nat) (e : Option Nat) (t : Toy) : Prop := match e with
  | some p => Blk w p 54 (toyC t cb)
  | none => t.left < 1
/-- tasks in memory: each toy in a block of its own, the clock in its own -/
structure Tasks (w : World) (es : List (Option Nat)) (ts : List Toy) (cb : Nat) (u : Int) : Prop where
  len : es.length = ts.length
  toy : ∀ k (h : k < es.length) (h' : k < ts.length), TkOk w cb es[k] ts[k]
  clock : Blk w cb 51 #[.int .i64 u]
  apart : ∀ i j (hi : i < es.length) (hj : j < es.length) p, es[i] = some p → es[j] = some p → i = j
theorem Tasks.ne {w : World} {es : List (Option Nat)} {ts : List Toy} {cb : Nat} {u : Int} (h : Tasks w es ts cb u) {p k : Nat} (hk : k < es.length) (hp : es[k] = some p) : p ≠ cb := by
  have := h.toy k hk (by rw [← h.len]; exact hk)
  rw [hp] at this
  intro e
  subst e
  have h2 := h.clock
  unfold TkOk at this
  simp only at this
  unfold Blk at this h2
  rw [this] at h2
  injection h2 with h2
  injection h2 with _ h2
  exact absurd h2 (by decide)
theorem Tasks.keep {w w' : World} {es : List (Option Nat)} {ts : List Toy} {cb : Nat} {u : Int} (h : Tasks w es ts cb u) (hk : Below w.heap.size w w') : Tasks w' es ts cb u := by
  refine ⟨h.len, fun k h1 h2 => ?_, h.clock.later hk, h.apart⟩
  have := h.toy k h1 h2
  revert this
  cases es[k] with
  | none => exact id
  | some p => exact fun hb => Blk.later hb hk
theorem Tasks.in_lt {w : World} {es : List (Option Nat)} {ts : List Toy} {cb : Nat} {u : Int} (h : Tasks w es ts cb u) {k : Nat} (hk : InT es cb k) : k < w.heap.size := by
  rcases hk with hk | rfl
  · obtain ⟨i, hi, e⟩ := List.getElem_of_mem hk
    have := h.toy i hi (by rw [← h.len]; exact hi)
    rw [e] at this
    exact Blk.lt this
  · exact h.clock.lt
end Go.Proofs.Ytenjhklkljeijaa
