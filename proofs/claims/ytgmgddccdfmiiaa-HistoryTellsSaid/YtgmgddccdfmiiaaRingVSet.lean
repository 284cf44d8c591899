/-
  An element of five cells is written into a row of the call's own. Condition: none.
-/
import Derived.Test.YtgmgddccdfmiiaaRingIL
namespace Go.Fw
open Go.RowKit
set_option linter.unusedVariables false
theorem flat_set {α : Type} (f : α → List Value) (s : Nat) (hf : ∀ x, (f x).length = s) (l : List α) (k : Nat) (hk : k < l.length) (x : α) (i : Nat) :
    ((l.set k x).flatMap f)[i]? = if k * s ≤ i ∧ i < k * s + s then (f x)[i - k * s]? else (l.flatMap f)[i]? := by
  by_cases hs : s = 0
  · subst hs
    have h1 : ∀ (m : List α), m.flatMap f = [] := fun m => List.eq_nil_of_length_eq_zero (by rw [flat_length f 0 hf]; omega)
    rw [h1, h1, if_neg (by omega)]
  · have hs0 : 0 < s := by omega
    by_cases hi : i < l.length * s
    · have hq : i / s < l.length := Nat.div_lt_of_lt_mul (by rw [Nat.mul_comm]; exact hi)
      have hm := Nat.mod_lt i hs0
      have hd : i = i / s * s + i % s := by rw [Nat.mul_comm]; exact (Nat.div_add_mod i s).symm
      have e1 : ((l.set k x).flatMap f)[i]? = (f ((l.set k x)[i / s]'(by simpa using hq)))[i % s]? := by
        conv => lhs; rw [hd]
        exact flat_get f s hf (l.set k x) (i / s) (i % s) (by simpa using hq) hm
      have e2 : (l.flatMap f)[i]? = (f l[i / s])[i % s]? := by
        conv => lhs; rw [hd]
        exact flat_get f s hf l (i / s) (i % s) hq hm
      rw [e1, e2, List.getElem_set]
      by_cases hk2 : k = i / s
      · rw [if_pos hk2, if_pos (by subst hk2; omega)]
        congr 1
        subst hk2
        omega
      · rw [if_neg hk2, if_neg ?_]
        rintro ⟨h1, h2⟩
        apply hk2
        have : i / s = k := by
          apply Nat.div_eq_of_lt_le
          · exact h1
          · rw [Nat.succ_mul]; omega
        exact this.symm
    · have hk3 : k * s + s ≤ l.length * s := by rw [← Nat.succ_mul]; exact Nat.mul_le_mul_right s hk
      rw [List.getElem?_eq_none (by rw [flat_length f s hf]; simp; omega), if_neg (by omega), List.getElem?_eq_none (by rw [flat_length f s hf]; omega)]
theorem own_put5 {w : World} {B : Nat} {e : TypeId} {n k g : Nat} {v : Value} {l : List Adv} (h : w.ownsRow B e 5 v n (advs l)) (hn : n = l.length) (hk : k < l.length) (hg : v.ownBlock = some g) (a : Adv) :
    (((((w.setCell ⟨g, k * 5, none⟩ (.int .i64 a.tick)).setCell ⟨g, k * 5 + 1, none⟩ (.int .i64 a.load)).setCell ⟨g, k * 5 + 2, none⟩ (.int .i64 a.want)).setCell ⟨g, k * 5 + 3, none⟩ (.int .i64 a.reps)).setCell ⟨g, k * 5 + 4, none⟩ (.int .i64 a.why)).ownsRow B e 5 v n (advs (l.set k a)) := by
  obtain ⟨hl, h⟩ := h
  rcases h with ⟨rfl, rfl⟩ | ⟨g', cap, cur, rfl, hB, hh, hnc, hc, hs, ht⟩
  · simp [Value.ownBlock] at hg
  · obtain rfl : g' = g := by simpa [Value.ownBlock] using hg
    have hb' : Blk w g' e cur := hh
    have hb5 := ((((hb'.set_ (k * 5) (.int .i64 a.tick)).set_ (k * 5 + 1) (.int .i64 a.load)).set_ (k * 5 + 2) (.int .i64 a.want)).set_ (k * 5 + 3) (.int .i64 a.reps)).set_ (k * 5 + 4) (.int .i64 a.why)
    refine ⟨by rw [advs_length]; simp [hn], .inr ⟨g', cap, _, rfl, hB, hb5, hnc, hc, by simpa using hs, ?_⟩⟩
    have ht2 : ∀ i, i < n * 5 → cur.toList[i]? = (advs l)[i]? := by intro i hi; rw [← ht, List.getElem?_take_of_lt hi]
    have hcs : n * 5 ≤ cur.toList.length := by
      have h9 := congrArg List.length ht
      rw [List.length_take, advs_length] at h9
      omega
    apply List.ext_getElem?
    intro i
    show _ = ((l.set k a).flatMap Adv.cells)[i]?
    rw [flat_set Adv.cells 5 Adv.cells_length l k hk a i]
    by_cases hin : i < n * 5
    · rw [List.getElem?_take_of_lt hin]
      simp only [Array.toList_setIfInBounds]
      by_cases hr : k * 5 ≤ i ∧ i < k * 5 + 5
      · rw [if_pos hr]
        obtain ⟨j, rfl⟩ : ∃ j, i = k * 5 + j := ⟨i - k * 5, by omega⟩
        have hj : j = 0 ∨ j = 1 ∨ j = 2 ∨ j = 3 ∨ j = 4 := by omega
        have h5 : k * 5 + 5 ≤ cur.toList.length := by omega
        rw [show k * 5 + j - k * 5 = j by omega]
        rcases hj with rfl | rfl | rfl | rfl | rfl
        all_goals
          simp only [List.getElem?_set, List.length_set]
          repeat (first | rw [if_pos trivial] | rw [if_neg (by omega)] | rw [if_pos (by omega)])
          rfl
      · rw [if_neg hr]
        rw [List.getElem?_set_ne (by omega), List.getElem?_set_ne (by omega), List.getElem?_set_ne (by omega), List.getElem?_set_ne (by omega), List.getElem?_set_ne (by omega)]
        exact ht2 i hin
    · have hrow : k * 5 + 5 ≤ n * 5 := by omega
      rw [List.getElem?_eq_none (by simp; omega), if_neg (by omega), List.getElem?_eq_none (by show (advs l).length ≤ i; rw [advs_length]; omega)]
end Go.Fw
