/-
  A row that is only read, and cut: what a slice without one of its elements is. Condition: none.
-/
import Derived.Test.YtenjhklkljeijaaDoorPickWalk
import Derived.Test.YtenjhklkljeijaaDoorStill
import Derived.Test.YtenjhklkljeijaaDoorKeep
namespace Go.Fw
open Go.RowKit
set_option linter.unusedVariables false
set_option linter.unusedSimpArgs false
/-- a row that is read; it does not lie where the row vo lies -/
def LeftAt (w : World) (vo vl : Value) (xs : List Int) : Prop :=
  ∃ A c, vl = .slice A xs.length c ∧ xs.length ≤ c ∧ c ≤ maxLen ∧ Reads w w.heap.size 1 A xs.length (i64s xs) ∧ ∀ ad, A = some ad → 0 < xs.length → vo.ownBlock ≠ some ad.block
theorem LeftAt.nil_ (w : World) (vo : Value) : LeftAt w vo (.slice none 0 0) [] := ⟨none, 0, rfl, Nat.le_refl _, by simp [maxLen], Reads.none_, fun ad e => by cases e⟩
theorem LeftAt.up {w w' : World} {vo vl : Value} {xs : List Int} (h : LeftAt w vo vl xs) (hb : Below w.heap.size w w') : LeftAt w' vo vl xs := by
  obtain ⟨A, c, h1, h2, h3, h4, h5⟩ := h
  exact ⟨A, c, h1, h2, h3, h4.up hb, h5⟩
theorem left_new {w w' : World} {e : TypeId} {vo vl : Value} {xs : List Int} {n : Nat} (hn : n = xs.length) (h : MineS 1 w w' e vl n (i64s xs)) (ho : ∀ k, vo.ownBlock = some k → k < w.heap.size) : LeftAt w' vo vl xs := by
  subst hn
  obtain ⟨A, c, rfl, h1, h2⟩ := own_form h.own
  refine ⟨A, c, rfl, h1, h2, Reads.of_own h.own, fun ad e hp hk => ?_⟩
  subst e
  have := (h.own.lt ad.block rfl).1
  have := ho _ hk
  omega
/-- behind one more in the other row -/
theorem LeftAt.other {w w' : World} {vo vo' vl : Value} {xs : List Int} (h : LeftAt w vo vl xs) (hg : w.grownBy w' vo.ownBlock) (hv : vo'.ownBlock = vo.ownBlock ∨ ∀ k, vo'.ownBlock = some k → w.heap.size ≤ k) : LeftAt w' vo' vl xs := by
  obtain ⟨A, c, rfl, h2, h3, h4, h5⟩ := h
  have hK : Keep (fun k => vo.ownBlock = some k) w w' := grownK (w1 := w) (Keep.refl (fun _ => False) w) hg (fun _ h => h.elim) fun k e => e
  refine ⟨A, c, rfl, h2, h3, (hK.reads h4 (Nat.le_refl _) fun ad e hp hk => h5 ad e hp hk).more hg.size, fun ad e hp hk => ?_⟩
  rcases hv with hv | hv
  · exact h5 ad e hp (hv.symm.trans hk)
  · have h6 := hv _ hk
    obtain ⟨ad', e', hlt, _⟩ := h4.2 hp
    rw [e] at e'
    injection e' with e'
    subst e'
    omega
section
variable {P : Program} {w : World} {t e : TypeId} {z : Value} {bytes : Nat}
/-- append(l[:at:at], l[at+1:]...) -/
theorem run_append_cut (hT : ElemS P t e z 1 bytes) (ty : TypeId) {ad : Addr} {c k : Nat} {xs : List Int} {vo : Value} (hr : Reads w w.heap.size 1 (some ad) xs.length (i64s xs)) (hc : xs.length ≤ c) (hk : k < xs.length)
    (hne : vo.ownBlock ≠ some ad.block) (ho : ∀ g, vo.ownBlock = some g → g < w.heap.size) (hlen : xs.length * bytes ≤ 140737488355328) (hle : xs.length ≤ maxLen) (A2 : Option Addr) (hA2 : A2 = if c = k + 1 then some ad else some (ad.add (k + 1))) (c2 : Nat) :
    ∃ v' w', (Builtin.append_ #[t, t] ty #[.slice (some ad) k k, .slice A2 (xs.length - (k + 1)) c2]).run P w = .ok v' w' ∧ Below w.heap.size w w' ∧ LeftAt w' vo v' (xs.take k ++ xs.drop (k + 1)) := by
  obtain ⟨i, hi, hz, hsz, hby⟩ := info_parts hT.info
  have hlx : (xs.take k ++ xs.drop (k + 1)).length = k + (xs.length - (k + 1)) := by simp; omega
  have hcell : ∀ j u, (i64s xs)[j]? = some u → w.cell? (ad.add j) = some u := by
    obtain ⟨a, e1, _, h⟩ := hr.2 (by omega)
    injection e1 with e1
    subst e1
    exact h
  have hlt : ad.block < w.heap.size := by
    obtain ⟨a, e1, h, _⟩ := hr.2 (by omega)
    injection e1 with e1
    subst e1
    exact h
  have hcut := hr.cut (k := k + 1) (cap := c) hk hc
  rw [Nat.mul_one] at hcut
  have hd : (i64s xs).drop (k + 1) = i64s (xs.drop (k + 1)) := by simp [i64s]
  have htk : (i64s xs).take k = i64s (xs.take k) := by simp [i64s]
  rw [hd] at hcut
  by_cases hm : xs.length - (k + 1) = 0
  · refine ⟨.slice (some ad) k k, w, ?_, Below.refl _ _, ?_⟩
    · rw [hm]
      cases A2 <;> simp [Builtin.append_, run_underlying hT.under, sizeOf, typeInfo, hi, Builtin.lenOf, Builtin.firstCells, loadCells, loadCellsFrom, storeCells]
    · have e1 : xs.take k ++ xs.drop (k + 1) = xs.take k := by rw [List.drop_eq_nil_of_le (by omega), List.append_nil]
      rw [e1]
      have hl : (xs.take k).length = k := by simp; omega
      refine ⟨some ad, k, by rw [hl], by omega, by omega, ?_, fun ad' e' _ => by injection e' with e'; subst e'; exact hne⟩
      rw [hl]
      refine ⟨by simp [i64s]; omega, fun hp => ⟨ad, rfl, hlt, fun j u hu => ?_⟩⟩
      rw [← htk] at hu
      rw [List.getElem?_take] at hu
      split at hu
      · exact hcell j u hu
      · cases hu
  · have hA3 : ∃ ad2, A2 = some ad2 := by rw [hA2]; split <;> exact ⟨_, rfl⟩
    obtain ⟨ad2, rfl⟩ := hA3
    have hc3 : (if c = k + 1 then some ad else Option.map (fun x => x.add (k + 1)) (some ad)) = some ad2 := by rw [hA2]; rfl
    rw [hc3] at hcut
    have hnew : ∀ j u, (i64s (xs.drop (k + 1)))[j]? = some u → w.cell? (ad2.add j) = some u := by
      obtain ⟨a, e1, _, h⟩ := hcut.2 (by omega)
      injection e1 with e1
      subst e1
      exact h
    obtain ⟨v', w', hrun, hown, hg⟩ := run_append_arg_grows (P := P) w t ty e i z 1 bytes hT.under hi hz hsz hby hT.cells (by decide) ad k k (i64s (xs.take k)) (by simp [i64s]; omega)
      (fun j u hu => by
        rw [← htk, List.getElem?_take] at hu
        split at hu
        · exact hcell j u hu
        · cases hu) ad2 (xs.length - (k + 1)) c2 (i64s (xs.drop (k + 1))) (by simp [i64s]) hnew (by omega) (by omega) (Nat.le_trans (Nat.mul_le_mul_right _ (by omega)) hlen)
    have hb : Below w.heap.size w w' := ⟨hg.os, hg.tape, hg.output, hg.size, fun j hj => hg.block j hj (by simp)⟩
    refine ⟨v', w', hrun, hb, ?_⟩
    have hx : i64s (xs.take k) ++ i64s (xs.drop (k + 1)) = i64s (xs.take k ++ xs.drop (k + 1)) := by simp [i64s]
    rw [hx] at hown
    exact left_new hlx.symm ⟨hown, hb⟩ ho
theorem wpList_append_cut {ops : Array Oper} {rest : List Oper} {o : Oper} {a : Act} {Q : Exit → Act → World → Prop} (hT : ElemS P t e z 1 bytes) (hgd : o.guard = none) (sl x : Operand)
    (hop : o.op = .call { callee := .builtin .append, args := #[sl, x], argTypes := #[t, t] }) {ad : Addr} {c k m : Nat} {xs : List Int} {vo : Value} {A2 : Option Addr} {c2 : Nat} (hs : a.eval sl = .slice (some ad) k k) (hx : a.eval x = .slice A2 m c2) (hm : m = xs.length - (k + 1)) (hr : Reads w w.heap.size 1 (some ad) xs.length (i64s xs)) (hc : xs.length ≤ c) (hk : k < xs.length)
    (hne : vo.ownBlock ≠ some ad.block) (ho : ∀ g, vo.ownBlock = some g → g < w.heap.size) (hlen : xs.length * bytes ≤ 140737488355328) (hle : xs.length ≤ maxLen) (hA2 : A2 = if c = k + 1 then some ad else some (ad.add (k + 1)))
    (h : ∀ v' w', Below w.heap.size w w' → LeftAt w' vo v' (xs.take k ++ xs.drop (k + 1)) → wpList P ops Q rest (a.put o.dst v') w') : wpList P ops Q (o :: rest) a w := by
  subst hm
  refine wpList_plain hgd fun K hK' => ?_
  obtain ⟨v', w', hrun, r1, r2⟩ := run_append_cut (P := P) hT o.type hr hc hk hne ho hlen hle A2 hA2 c2
  unfold Oper.wp
  simp [execOp, hop, resolve, invoke, builtin, hs, hx, hrun, Result.andThen]
  exact hK' _ _ (h v' w' r1 r2)
end
end Go.Fw
