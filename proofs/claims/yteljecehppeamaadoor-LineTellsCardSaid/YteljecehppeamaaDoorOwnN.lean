/-
  Appending, and where the new row lies. Condition: none.
-/
import Derived.Test.YteljecehppeamaaDoorOwn
namespace Go.Fw
open Go.RowKit
set_option linter.unusedVariables false
/-- one element more; the row's block is the elder one or a new one -/
theorem wpList_append_oneN {P : Program} {s : Nat} {w : World} {ops : Array Oper} {rest : List Oper} {o : Oper} {a : Act} {Q : Exit → Act → World → Prop} {t e e' : TypeId} {z : Value} {bytes : Nat} (hT : ElemS P t e z s bytes) (hs0 : 0 < s)
    (hgd : o.guard = none) (sl x : Operand) (ho : o.op = .call { callee := .builtin .append, args := #[sl, x], argTypes := #[t, t] })
    {v : Value} {n B g : Nat} {xs : List Value} (hs : a.eval sl = v) (hm : w.ownsRow B e s v n xs) (hB : B ≤ w.heap.size) (hg : g = w.heap.size) {cs : Array Value} (hx : a.eval x = .slice (some ⟨g, 0, none⟩) 1 1) (hcs : cs.size = s) (h1 : ∀ u ∈ cs.toList, u.oneCell' = true)
    (hlen : (n + 1) * bytes ≤ 140737488355328) (hle : n + 1 ≤ maxLen)
    (h : ∀ v' w', w'.ownsRow B e s v' (n + 1) (xs ++ cs.toList) → w.grownBy w' v.ownBlock → (v'.ownBlock = v.ownBlock ∨ ∀ k, v'.ownBlock = some k → w.heap.size ≤ k) → wpList P ops Q rest (a.put o.dst v') w') :
    wpList P ops Q (o :: rest) a (w.alloc (.cells cs e')) := by
  subst hg
  obtain ⟨i, hi, hz, hsz, hby⟩ := info_parts hT.info
  refine wpList_append_any (w.alloc (.cells cs e')) hgd sl x t ho B e i z s bytes hT.under hi hz hsz hby hT.cells hs0 v n xs hs (hm.alloc _) _ _ 1 1 cs.toList hx (reads_newS w e' cs s 1 w.heap.size _ (by omega) rfl rfl) h1 hle hlen (by simp; omega) fun v' w' h2 h3 h4 => ?_
  have hg : w.grownBy w' v.ownBlock := ⟨h3.os, h3.tape, h3.output, Nat.le_trans (by simp) h3.size, fun k hk hne => (h3.block k (by simp; omega) hne).trans (Below.heap_alloc w _ k hk)⟩
  refine h v' w' h2 hg ?_
  rcases h4 with h4 | h4
  · exact .inl h4
  · refine .inr fun k hk => ?_
    rw [h4] at hk
    injection hk with hk
    simp at hk
    omega
end Go.Fw
