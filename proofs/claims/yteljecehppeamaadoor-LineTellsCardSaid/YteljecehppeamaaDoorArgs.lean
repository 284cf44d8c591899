/-
  Arguments that are slices of structs of 64-bit numbers, or one such struct: as they read. Condition: none.
-/
import Derived.Test.YteljecehppeamaaDoorStruct
import Derived.Deep.Slices
import Derived.Deep.Fields
import Derived.Lib.SmallJoins
namespace Go.Fw
open Go.RowKit Go.WideShapes Go.ChangeShapes Go.Deep Go.Joins
set_option linter.unusedVariables false
set_option linter.unusedSimpArgs false

def i64v (n : Int) : Value := .int .i64 n
def isI64 : Option TypeDesc → Bool
  | some (.int .i64) => true
  | _ => false
theorem isI64_eq {o : Option TypeDesc} (h : isI64 o = true) : o = some (.int .i64) := by
  unfold isI64 at h
  split at h
  · rfl
  · cases h
theorem nums_of {fs : Array Field} {P : Program} (h : fs.all (fun f => isI64 (P.underlying f.type)) = true) : ∀ (j : Nat) (f : Field), fs[j]? = some f → P.underlying f.type = some (.int .i64) := by
  intro j f hj
  obtain ⟨hlt, rfl⟩ := Array.getElem?_eq_some_iff.1 hj
  exact isI64_eq (Array.all_eq_true.1 h j hlt)
theorem rows_length {s : Nat} (rs : List (List Int)) (h : ∀ r ∈ rs, r.length = s ∧ ∀ n ∈ r, In64 n) : (rs.flatMap fun r => r.map i64v).length = rs.length * s := by
  induction rs with
  | nil => simp
  | cons r rs ih =>
    rw [List.flatMap_cons, List.length_append, List.length_map, (h r (by simp)).1, ih (fun r' hr' => h r' (by simp [hr'])), List.length_cons, Nat.succ_mul]
    omega
theorem rows_get {s : Nat} (hs : 0 < s) (rs : List (List Int)) : (∀ r ∈ rs, r.length = s ∧ ∀ n ∈ r, In64 n) → ∀ q u, (rs.flatMap fun r => r.map i64v)[q]? = some u → ∃ (hi : q / s < rs.length), (rs[q / s].map i64v)[q % s]? = some u := by
  induction rs with
  | nil => intro _ q u hq; simp at hq
  | cons r rs ih =>
    intro hr q u hq
    have hrl : (r.map i64v).length = s := by rw [List.length_map]; exact (hr r (by simp)).1
    rw [List.flatMap_cons] at hq
    by_cases hlt : q < s
    · rw [List.getElem?_append_left (by omega)] at hq
      have e0 : q / s = 0 := Nat.div_eq_of_lt hlt
      have e1 : q % s = q := Nat.mod_eq_of_lt hlt
      refine ⟨by rw [e0]; simp, ?_⟩
      simp only [e0, e1, List.getElem_cons_zero]
      exact hq
    · rw [List.getElem?_append_right (by omega), hrl] at hq
      obtain ⟨hi, he⟩ := ih (fun r' hr' => hr r' (by simp [hr'])) _ u hq
      have e0 : q / s = (q - s) / s + 1 := by
        rw [← Nat.add_div_right _ hs]; congr 1; omega
      have e1 : q % s = (q - s) % s := by
        rw [← Nat.add_mod_right (q - s) s]; congr 1; omega
      refine ⟨by rw [e0, List.length_cons]; omega, ?_⟩
      simp only [e0, e1, List.getElem_cons_succ]
      exact he

section
variable {H : Type} {enc : TypeId × Value → H} {P : Program} {W : World}
/-- a struct's cells, each a number -/
theorem trod_nums {e : TypeId} {fs : Array Field} {base : Nat} {spare : Nat → Bool} {held : Bool} {fuel : Nat} {cs : List Value} {x : DataW H × List MemPlace} (he : P.underlying e = some (.struct fs)) (hone : oneCellFields P fs = true)
    (hlen : cs.length = fs.size) (hints : ∀ (j : Nat) (f : Field), fs[j]? = some f → P.underlying f.type = some (.int .i64)) (h : DataW.trod enc P W base spare held fuel e cs = some x) :
    ∃ r : List Int, r.length = fs.size ∧ cs = r.map i64v ∧ ∀ n ∈ r, In64 n := by
  obtain ⟨ys, n', hn', hy, hlen', hyl, hf⟩ := DataW.trod_struct he h
  have each : ∀ j (hj : j < cs.length), ∃ n : Int, cs[j] = .int .i64 n ∧ In64 n := by
    intro j hj
    have hjs : j < fs.size := by omega
    have hfj : fs[j]? = some fs[j] := Array.getElem?_eq_getElem hjs
    obtain ⟨ho, hk⟩ := hone_of hone j fs[j] hfj
    have h1 := hf j fs[j] hfj
    rw [ho, hk] at h1
    have hone' : (cs.drop j).take 1 = [cs[j]] := by
      rw [List.drop_eq_getElem_cons hj]
      rfl
    rw [hone', List.getElem?_eq_getElem (by omega)] at h1
    obtain ⟨n, hc, _, hw⟩ := DataW.trod_int (hints j _ hfj) h1
    refine ⟨n, by simpa using hc, ?_⟩
    simpa [In64, Lit.wf, IntKind.min, IntKind.max, IntKind.signed, IntKind.bits] using hw
  refine ⟨cs.map intOf, by simpa using hlen, ?_, ?_⟩
  · apply List.ext_getElem (by simp)
    intro j h1 h2
    obtain ⟨n, hn, _⟩ := each j h1
    simp [hn, intOf, i64v]
  · intro n hn
    obtain ⟨v, hv, rfl⟩ := List.mem_map.1 hn
    obtain ⟨j, hj, rfl⟩ := List.getElem_of_mem hv
    obtain ⟨n, hn, hw⟩ := each j hj
    rw [hn]
    exact hw

theorem arg_rows {base : Nat} {t e : TypeId} {fs : Array Field} {v : Value} {d : DataW H} {p : List MemPlace} (ht : P.underlying t = some (.slice e)) (he : P.underlying e = some (.struct fs)) (hone : oneCellFields P fs = true) (hC : P.cellsOf e = fs.size)
    (hints : ∀ (j : Nat) (f : Field), fs[j]? = some f → P.underlying f.type = some (.int .i64)) (hs : 0 < fs.size)
    (hv : Value.okWide P W .any base t v) (h : DataW.Trod enc P W 0 (fun _ => true) true t v d p) :
    ∃ (A : Option Addr) (c : Nat) (rows : List (List Int)), v = .slice A rows.length c ∧ (rows.length ≤ maxLen ∧ rows.length ≤ c) ∧ (∀ r ∈ rows, r.length = fs.size ∧ ∀ n ∈ r, In64 n) ∧
      Reads W W.heap.size fs.size A rows.length (rows.flatMap fun r => r.map i64v) := by
  obtain ⟨a0, len0, cap0, rfl⟩ := okWide_slice ht hv
  obtain ⟨fuel, hf⟩ := h
  rcases open_slice ht hf with ⟨hcs, _⟩ | ⟨a, len, cap, m, n, D, Pl, hcs, hb, hl, hm, hmm, hx, hi⟩
  · simp [Value.cells] at hcs
    obtain ⟨rfl, rfl, rfl⟩ := hcs
    exact ⟨none, 0, [], rfl, by simp [maxLen], by simp, Reads.none_⟩
  · simp [Value.cells] at hcs
    obtain ⟨rfl, rfl, rfl⟩ := hcs
    have hmc : m = cap0 := by simpa using hmm
    rw [hC] at hi
    have each : ∀ i, i < len0 → ∃ r : List Int, r.length = fs.size ∧ (∀ n ∈ r, In64 n) ∧ ∀ j u, (r.map i64v)[j]? = some u → W.cell? (a.add (i * fs.size + j)) = some u := by
      intro i hil
      obtain ⟨cs', hc, ht'⟩ := hi i (by omega)
      obtain ⟨_, hcl, hat⟩ := World.cells?_some hc
      obtain ⟨r, hr1, hr2, hr3⟩ := trod_nums he hone hcl hints ht'
      refine ⟨r, hr1, hr3, fun j u hu => ?_⟩
      rw [← hr2] at hu
      have hj : j < fs.size := by have := (List.getElem?_eq_some_iff.1 hu).1; omega
      rw [← add_of_add, hat j hj, hu]
    have hrows : ∀ k, k ≤ len0 → ∃ rows : List (List Int), rows.length = k ∧ (∀ r ∈ rows, r.length = fs.size ∧ ∀ n ∈ r, In64 n) ∧
        ∀ i (hi : i < rows.length) j u, (rows[i].map i64v)[j]? = some u → W.cell? (a.add (i * fs.size + j)) = some u := by
      intro k
      induction k with
      | zero => intro _; exact ⟨[], rfl, by simp, fun i hi => by simp at hi⟩
      | succ k ih =>
        intro hk
        obtain ⟨rows, h1, h2, h3⟩ := ih (by omega)
        obtain ⟨r, g1, g2, g3⟩ := each k (by omega)
        refine ⟨rows ++ [r], by simp [h1], fun r' hr' => ?_, fun i hi j u hu => ?_⟩
        · rw [List.mem_append, List.mem_singleton] at hr'
          rcases hr' with hr' | rfl
          · exact h2 r' hr'
          · exact ⟨g1, g2⟩
        · by_cases hik : i < rows.length
          · rw [List.getElem_append_left hik] at hu
            exact h3 i hik j u hu
          · obtain rfl : i = k := by simp at hi; omega
            rw [List.getElem_append_right (by omega)] at hu
            simp only [h1, Nat.sub_self, List.getElem_cons_zero] at hu
            exact g3 j u hu
    obtain ⟨rows, h1, h2, h3⟩ := hrows len0 (Nat.le_refl _)
    subst h1
    refine ⟨some a, cap0, rows, rfl, ⟨by omega, hl⟩, h2, rows_length rows h2, fun hpos => ⟨a, rfl, ?_, fun q u hq => ?_⟩⟩
    · have h0 : 0 < rows.length := hpos
      have hr0 := h2 rows[0] (List.getElem_mem h0)
      have hl0 : 0 < (rows[0].map i64v).length := by rw [List.length_map, hr0.1]; exact hs
      have := World.block_lt_of_cell? W _ (h3 0 h0 0 _ (List.getElem?_eq_getElem hl0))
      rwa [block_of_add] at this
    · obtain ⟨hi, he⟩ := rows_get hs rows h2 q u hq
      have := h3 _ hi _ u he
      rwa [Nat.mul_comm, Nat.div_add_mod] at this

theorem arg_agg {base : Nat} {t : TypeId} {fs : Array Field} {v : Value} {d : DataW H} {p : List MemPlace} (ht : P.underlying t = some (.struct fs)) (hone : oneCellFields P fs = true) (hC : P.cellsOf t = fs.size)
    (hints : ∀ (j : Nat) (f : Field), fs[j]? = some f → P.underlying f.type = some (.int .i64))
    (hv : Value.okWide P W .any base t v) (h : DataW.Trod enc P W 0 (fun _ => true) true t v d p) :
    ∃ r : List Int, r.length = fs.size ∧ v = .agg (r.map i64v).toArray ∧ ∀ n ∈ r, In64 n := by
  obtain ⟨cs, rfl, hsz⟩ := okWide_struct ht hv
  obtain ⟨fuel, hf⟩ := h
  obtain ⟨l⟩ := cs
  have hl : l.length = fs.size := by rw [← hC]; exact hsz
  obtain ⟨r, h1, h2, h3⟩ := trod_nums ht hone hl hints (cs := l) (by simpa [Value.cells] using hf)
  exact ⟨r, h1, by rw [h2], h3⟩
end

/-! a list of decisions, and a policy, that came in -/
def toAdv (r : List Int) : Adv := ⟨r.getD 0 0, r.getD 1 0, r.getD 2 0, r.getD 3 0, r.getD 4 0⟩
theorem toAdv_cells {r : List Int} (h : r.length = 5) : r.map i64v = (toAdv r).cells := by
  match r, h with
  | [a, b, c, d, e], _ => rfl
theorem toAdv_ok {r : List Int} (h : r.length = 5) (hn : ∀ n ∈ r, In64 n) : (toAdv r).ok := by
  match r, h with
  | [a, b, c, d, e], _ => exact ⟨hn a (by simp), hn b (by simp), hn c (by simp), hn d (by simp), hn e (by simp)⟩
section
variable {H : Type} {enc : TypeId × Value → H} {P : Program} {W : World}
theorem arg_advs {base : Nat} {t e : TypeId} {fs : Array Field} {v : Value} {d : DataW H} {p : List MemPlace} (ht : P.underlying t = some (.slice e)) (he : P.underlying e = some (.struct fs)) (hone : oneCellFields P fs = true) (hC : P.cellsOf e = 5) (hsz : fs.size = 5)
    (hints : fs.all (fun f => isI64 (P.underlying f.type)) = true)
    (hv : Value.okWide P W .any base t v) (h : DataW.Trod enc P W 0 (fun _ => true) true t v d p) :
    ∃ (A : Option Addr) (c : Nat) (l : List Adv), v = .slice A l.length c ∧ (l.length ≤ maxLen ∧ l.length ≤ c) ∧ (∀ a ∈ l, a.ok) ∧ Reads W W.heap.size 5 A l.length (advs l) := by
  obtain ⟨A, c, rows, rfl, hl, hr, hR⟩ := arg_rows ht he hone (by rw [hC, hsz]) (nums_of hints) (by omega) hv h
  refine ⟨A, c, rows.map toAdv, by simp, by simpa using hl, fun a ha => ?_, ?_⟩
  · obtain ⟨r, hr', rfl⟩ := List.mem_map.1 ha
    exact toAdv_ok ((hr r hr').1.trans hsz) (hr r hr').2
  · have e1 : (rows.flatMap fun r => r.map i64v) = advs (rows.map toAdv) := by
      unfold advs
      rw [List.flatMap_map]
      have : ∀ rs : List (List Int), (∀ r ∈ rs, r.length = 5) → (rs.flatMap fun r => r.map i64v) = rs.flatMap fun r => (toAdv r).cells := by
        intro rs
        induction rs with
        | nil => intro _; rfl
        | cons r rs ih =>
          intro hrs
          rw [List.flatMap_cons, List.flatMap_cons, toAdv_cells (hrs r (by simp)), ih (fun r' hr' => hrs r' (by simp [hr']))]
      exact this rows fun r hr' => (hr r hr').1.trans hsz
    rw [e1, hsz] at hR
    simpa using hR
theorem arg_pol {base : Nat} {t : TypeId} {fs : Array Field} {v : Value} {d : DataW H} {p : List MemPlace} (ht : P.underlying t = some (.struct fs)) (hone : oneCellFields P fs = true) (hC : P.cellsOf t = 6) (hsz : fs.size = 6)
    (hints : fs.all (fun f => isI64 (P.underlying f.type)) = true)
    (hv : Value.okWide P W .any base t v) (h : DataW.Trod enc P W 0 (fun _ => true) true t v d p) :
    ∃ (q0 q1 q2 q3 q4 q5 : Int), v = .agg #[.int .i64 q0, .int .i64 q1, .int .i64 q2, .int .i64 q3, .int .i64 q4, .int .i64 q5] ∧ In64 q0 ∧ In64 q1 ∧ In64 q2 ∧ In64 q3 ∧ In64 q4 ∧ In64 q5 := by
  obtain ⟨r, h1, rfl, h3⟩ := arg_agg ht hone (by rw [hC, hsz]) (nums_of hints) hv h
  rw [hsz] at h1
  match r, h1 with
  | [a, b, c, d, e, f], _ => exact ⟨a, b, c, d, e, f, rfl, h3 a (by simp), h3 b (by simp), h3 c (by simp), h3 d (by simp), h3 e (by simp), h3 f (by simp)⟩
end
end Go.Fw
