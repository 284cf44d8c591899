/-
  What a call may have written: some blocks, and nothing else. Condition: none.
-/
import Derived.Test.YteljecehppeamaaDoorOwn
namespace Go.Fw
open Go.RowKit
structure Keep (L : Nat → Prop) (w w' : World) : Prop where
  os : w'.os = w.os
  tape : w'.tape = w.tape
  output : w'.output = w.output
  size : w.heap.size ≤ w'.heap.size
  block : ∀ k, k < w.heap.size → ¬ L k → w'.heap[k]? = w.heap[k]?
theorem Keep.refl (L : Nat → Prop) (w : World) : Keep L w w := ⟨rfl, rfl, rfl, Nat.le_refl _, fun _ _ _ => rfl⟩
theorem Keep.trans {L : Nat → Prop} {w w' w'' : World} (h : Keep L w w') (k : Keep L w' w'') : Keep L w w'' :=
  ⟨k.os.trans h.os, k.tape.trans h.tape, k.output.trans h.output, Nat.le_trans h.size k.size, fun j hj hl => (k.block j (Nat.lt_of_lt_of_le hj h.size) hl).trans (h.block j hj hl)⟩
theorem Keep.of_below {L : Nat → Prop} {w w' : World} (h : Below w.heap.size w w') : Keep L w w' := ⟨h.os, h.tape, h.output, h.size, fun k hk _ => h.block k hk⟩
theorem Keep.below {L : Nat → Prop} {B : Nat} {w w' : World} (h : Keep L w w') (hB : B ≤ w.heap.size) (hL : ∀ k, L k → B ≤ k) : Below B w w' :=
  ⟨h.os, h.tape, h.output, h.size, fun k hk => h.block k (by omega) (fun e => by have := hL k e; omega)⟩
theorem Keep.setCell {L : Nat → Prop} {w w' : World} (h : Keep L w w') {p : Addr} (hp : L p.block ∨ w.heap.size ≤ p.block) (u : Value) : Keep L w (w'.setCell p u) :=
  ⟨h.os, h.tape, h.output, by simpa [World.setCell] using h.size, fun k hk hl => (Below.heap_setCell w' p u k (fun e => by rcases hp with hp | hp; exact hl (e ▸ hp); omega)).trans (h.block k hk hl)⟩
theorem Keep.alloc {L : Nat → Prop} {w w' : World} (h : Keep L w w') (o : Obj) : Keep L w (w'.alloc o) :=
  ⟨h.os, h.tape, h.output, Nat.le_trans h.size (by simp), fun k hk hl => (Below.heap_alloc w' o k (Nat.lt_of_lt_of_le hk h.size)).trans (h.block k hk hl)⟩
theorem Keep.drew {L : Nat → Prop} {w w' : World} (h : Keep L w w') : Keep L w w'.drew := ⟨h.os, h.tape, h.output, h.size, h.block⟩
theorem Keep.drewN {L : Nat → Prop} {w w' : World} (h : Keep L w w') (n : Nat) : Keep L w (w'.drewN n) := ⟨h.os, h.tape, h.output, h.size, h.block⟩
theorem Keep.blk {L : Nat → Prop} {w w' : World} (h : Keep L w w') {g : Nat} {t : TypeId} {cs : Array Value} (hb : Blk w g t cs) (hg : ¬ L g) : Blk w' g t cs := (h.block g hb.lt hg).trans hb
theorem Keep.reads {L : Nat → Prop} {w w' : World} (h : Keep L w w') {B s n : Nat} {A : Option Addr} {xs : List Value} (hr : Reads w B s A n xs) (hB : B ≤ w.heap.size) (hL : ∀ ad, A = some ad → 0 < n → ¬ L ad.block) : Reads w' B s A n xs :=
  ⟨hr.1, fun hn => by
    obtain ⟨ad, e, hb, hc⟩ := hr.2 hn
    refine ⟨ad, e, hb, fun j u hu => (World.cell?_of_block (h.block _ (by rw [block_of_add]; omega) (by rw [block_of_add]; exact hL ad e hn))).trans (hc j u hu)⟩⟩

theorem Keep.more2 {L L' : Nat → Prop} {w w' : World} (h : Keep L w w') (hl : ∀ k, L k → L' k) : Keep L' w w' := ⟨h.os, h.tape, h.output, h.size, fun k hk hn => h.block k hk fun e => hn (hl k e)⟩
theorem grownK {L L' : Nat → Prop} {w w1 w' : World} {row : Option Nat} (h : Keep L w w1) (g : w1.grownBy w' row) (hl : ∀ k, L k → L' k) (hr : ∀ k, row = some k → L' k) : Keep L' w w' :=
  ⟨g.os.trans h.os, g.tape.trans h.tape, g.output.trans h.output, Nat.le_trans h.size g.size, fun k hk hn => (g.block k (Nat.lt_of_lt_of_le hk h.size) fun e => hn (hr k e.symm)).trans (h.block k hk fun e => hn (hl k e))⟩
end Go.Fw
