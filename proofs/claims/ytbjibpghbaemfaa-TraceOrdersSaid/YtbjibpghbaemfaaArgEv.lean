/-
  A list of events that came in, as it reads. Condition: none.
-/
import Derived.Test.YtbjibpghbaemfaaEv
namespace Go.Proofs.Ytbjibpghbaemfaa
open Go.RowKit Go.Fw Go.WideShapes Go.ChangeShapes Go.Deep
set_option maxHeartbeats 1000000
set_option maxRecDepth 4000
set_option linter.unusedVariables false
set_option linter.unusedSimpArgs false
section
variable {H : Type} {enc : TypeId × Value → H} {W : World}
theorem ev_of {base : Nat} {sp : Nat → Bool} {held : Bool} {n : Nat} {cs : List Value} {x : DataW H × List MemPlace} (hl : cs.length = 34) (h : DataW.trod enc Try.prog W base sp held n 52 cs = some x) : ∃ e : Ev, e.cs.toList = cs ∧ EvOk e := by
  obtain ⟨z0, h0, w0⟩ := leaf_int (m := 5) (i := 0) (e := 3) (k := .i64) (by kernel_rfl) Try.underlying3 h
  obtain ⟨z1, h1, w1⟩ := leaf_int (m := 5) (i := 1) (e := 3) (k := .i64) (by kernel_rfl) Try.underlying3 h
  obtain ⟨z2, h2, w2⟩ := leaf_int (m := 5) (i := 2) (e := 3) (k := .i64) (by kernel_rfl) Try.underlying3 h
  obtain ⟨z3, h3, w3⟩ := leaf_int (m := 5) (i := 27) (e := 48) (k := .u64) (by kernel_rfl) Try.underlying48 h
  obtain ⟨z4, h4, w4⟩ := leaf_int (m := 5) (i := 28) (e := 48) (k := .u64) (by kernel_rfl) Try.underlying48 h
  have hone := ones_of (m := 5) (N := 34) (by kernel_rfl) hl h
  have hlits := (keyLits_of_trod 5 52 (by kernel_rfl) n cs x h).1
  obtain ⟨ys, n', _, _, _, hyl, hat⟩ := DataW.trod_struct Try.underlying52 h
  have h7 := hat 4 _ rfl
  have hC : Try.prog.cellsOf 43 = 13 := by kernel_rfl
  have hrl : ∃ y, DataW.trod enc Try.prog W base sp held n' 43 ((cs.drop 14).take 13) = some y := by
    have h8 : DataW.trod enc Try.prog W base sp held n' 43 ((cs.drop 14).take (Try.prog.cellsOf 43)) = ys[4]? := h7
    rw [hC, List.getElem?_eq_getElem (by rw [hyl]; decide)] at h8
    exact ⟨_, h8⟩
  obtain ⟨y, hy⟩ := hrl
  have hrlits := (keyLits_of_trod 4 43 (by kernel_rfl) n' _ y hy).1
  refine ⟨⟨cs.toArray, z0, z1, z2, z3, z4⟩, rfl, ⟨by simpa using hl, by simpa using h0, by simpa using h1, by simpa using h2, by simpa using h3, by simpa using h4, hone, ⟨_, hlits⟩, ⟨_, hrlits⟩, ?_, ?_, ?_, ?_, ?_⟩⟩
  · simpa [In64, Lit.wf, IntKind.min, IntKind.max, IntKind.signed, IntKind.bits] using w0
  · simpa [In64, Lit.wf, IntKind.min, IntKind.max, IntKind.signed, IntKind.bits] using w1
  · simpa [In64, Lit.wf, IntKind.min, IntKind.max, IntKind.signed, IntKind.bits] using w2
  · simpa [Lit.wf, IntKind.min, IntKind.max, IntKind.signed, IntKind.bits] using w3
  · simpa [Lit.wf, IntKind.min, IntKind.max, IntKind.signed, IntKind.bits] using w4
theorem arg_evs {base : Nat} {v : Value} {d : DataW H} {p : List MemPlace} (hv : Value.okWide Try.prog W .any base 22 v) (h : DataW.Trod enc Try.prog W 0 (fun _ => true) true 22 v d p) :
    ∃ (A : Option Addr) (c : Nat) (l : List Ev), v = .slice A l.length c ∧ (l.length ≤ maxLen ∧ l.length ≤ c) ∧ (∀ e ∈ l, EvOk e) ∧ Reads W W.heap.size 34 A l.length (evs l) := by
  obtain ⟨a0, len0, cap0, rfl⟩ := okWide_slice Try.underlying22 hv
  obtain ⟨fuel, hf⟩ := h
  have hC : Try.prog.cellsOf 52 = 34 := by kernel_rfl
  rcases open_slice Try.underlying22 hf with ⟨hcs, _⟩ | ⟨a, len, cap, m, n, D, Pl, hcs, hb, hl, hm, hmm, hx, hi⟩
  · simp [Value.cells] at hcs
    obtain ⟨rfl, rfl, rfl⟩ := hcs
    exact ⟨none, 0, [], rfl, by simp [maxLen], by simp, Reads.none_⟩
  · simp [Value.cells] at hcs
    obtain ⟨rfl, rfl, rfl⟩ := hcs
    have hmc : m = cap0 := by simpa using hmm
    rw [hC] at hi
    have each : ∀ i, i < len0 → ∃ e : Ev, EvOk e ∧ ∀ j u, e.cs.toList[j]? = some u → W.cell? (a.add (i * 34 + j)) = some u := by
      intro i hil
      obtain ⟨cs', hc, ht'⟩ := hi i (by omega)
      obtain ⟨_, hcl, hat⟩ := World.cells?_some hc
      obtain ⟨e, he, hok⟩ := ev_of hcl ht'
      refine ⟨e, hok, fun j u hu => ?_⟩
      rw [he] at hu
      have hj : j < 34 := by have := (List.getElem?_eq_some_iff.1 hu).1; omega
      rw [← add_of_add, hat j hj, hu]
    have hevs : ∀ k, k ≤ len0 → ∃ l : List Ev, l.length = k ∧ (∀ e ∈ l, EvOk e) ∧ ∀ i (hi : i < l.length) j u, l[i].cs.toList[j]? = some u → W.cell? (a.add (i * 34 + j)) = some u := by
      intro k
      induction k with
      | zero => intro _; exact ⟨[], rfl, by simp, fun i hi => by simp at hi⟩
      | succ k ih =>
        intro hk
        obtain ⟨l, h1, h2, h3⟩ := ih (by omega)
        obtain ⟨e, g1, g2⟩ := each k (by omega)
        refine ⟨l ++ [e], by simp [h1], fun e' he' => ?_, fun i hi j u hu => ?_⟩
        · rw [List.mem_append, List.mem_singleton] at he'
          rcases he' with he' | rfl
          · exact h2 e' he'
          · exact g1
        · by_cases hik : i < l.length
          · rw [List.getElem_append_left hik] at hu
            exact h3 i hik j u hu
          · obtain rfl : i = k := by simp at hi; omega
            rw [List.getElem_append_right (by omega)] at hu
            simp only [h1, Nat.sub_self, List.getElem_cons_zero] at hu
            exact g2 j u hu
    obtain ⟨l, h1, h2, h3⟩ := hevs len0 (Nat.le_refl _)
    subst h1
    refine ⟨some a, cap0, l, rfl, ⟨by omega, hl⟩, h2, evs_length l h2, fun hpos => ⟨a, rfl, ?_, fun q u hq => ?_⟩⟩
    · have h0 : 0 < l.length := hpos
      have hs := (h2 l[0] (List.getElem_mem h0)).size
      have hl0 : 0 < l[0].cs.toList.length := by simp [hs]
      have := World.block_lt_of_cell? W _ (h3 0 h0 0 _ (List.getElem?_eq_getElem hl0))
      rwa [block_of_add] at this
    · have hlt : q < l.length * 34 := by rw [← evs_length l h2]; exact (List.getElem?_eq_some_iff.1 hq).1
      have hi2 : q / 34 < l.length := Nat.div_lt_of_lt_mul (by omega)
      have hd : q = q / 34 * 34 + q % 34 := by omega
      have hg := evs_get l h2 (q / 34) (q % 34) hi2 (Nat.mod_lt _ (by decide))
      rw [← hd, hq] at hg
      have := h3 _ hi2 (q % 34) u (by simpa using hg.symm)
      rwa [← hd] at this
end
end Go.Proofs.Ytbjibpghbaemfaa
