/-
  3 texts of this claim, joined; each says itself what it proves. Condition: as each text says.
-/
import Derived.Test.YteljecehppeamaaGreatDoorJ01
import Derived.Deep.Slices
import Derived.Deep.Fields
import Derived.Lib.SmallJoins
import Derived.Test.YteljecehppeamaaGreatDoorJ02
import Derived.Lib.OthersKept
import Derived.Laws.RangeAny
/-
  Arguments that are slices of structs of 64-bit numbers, or one such struct: as they read. Condition: none.
-/
namespace Go.Fw
open Go.RowKit Go.WideShapes Go.ChangeShapes Go.Deep Go.Joins
set_option linter.unusedVariables false
set_option linter.unusedSimpArgs false

def i64v (n : Int) : Value := .int .i64 n
def isI64 : Option TypeDesc → Bool
  | some (.int .i64) => true
  | _ => false
theorem isI64_eq {o : Option TypeDesc} (h : isI64 o = true) : o = some (.int .i64) := by
  unfold isI64 at h
  split at h
  · rfl
  · cases h
theorem nums_of {fs : Array Field} {P : Program} (h : fs.all (fun f => isI64 (P.underlying f.type)) = true) : ∀ (j : Nat) (f : Field), fs[j]? = some f → P.underlying f.type = some (.int .i64) := by
  intro j f hj
  obtain ⟨hlt, rfl⟩ := Array.getElem?_eq_some_iff.1 hj
  exact isI64_eq (Array.all_eq_true.1 h j hlt)
theorem rows_length {s : Nat} (rs : List (List Int)) (h : ∀ r ∈ rs, r.length = s ∧ ∀ n ∈ r, In64 n) : (rs.flatMap fun r => r.map i64v).length = rs.length * s := by
  induction rs with
  | nil => simp
  | cons r rs ih =>
    rw [List.flatMap_cons, List.length_append, List.length_map, (h r (by simp)).1, ih (fun r' hr' => h r' (by simp [hr'])), List.length_cons, Nat.succ_mul]
    omega
theorem rows_get {s : Nat} (hs : 0 < s) (rs : List (List Int)) : (∀ r ∈ rs, r.length = s ∧ ∀ n ∈ r, In64 n) → ∀ q u, (rs.flatMap fun r => r.map i64v)[q]? = some u → ∃ (hi : q / s < rs.length), (rs[q / s].map i64v)[q % s]? = some u := by
  induction rs with
  | nil => intro _ q u hq; simp at hq
  | cons r rs ih =>
    intro hr q u hq
    have hrl : (r.map i64v).length = s := by rw [List.length_map]; exact (hr r (by simp)).1
    rw [List.flatMap_cons] at hq
    by_cases hlt : q < s
    · rw [List.getElem?_append_left (by omega)] at hq
      have e0 : q / s = 0 := Nat.div_eq_of_lt hlt
      have e1 : q % s = q := Nat.mod_eq_of_lt hlt
      refine ⟨by rw [e0]; simp, ?_⟩
      simp only [e0, e1, List.getElem_cons_zero]
      exact hq
    · rw [List.getElem?_append_right (by omega), hrl] at hq
      obtain ⟨hi, he⟩ := ih (fun r' hr' => hr r' (by simp [hr'])) _ u hq
      have e0 : q / s = (q - s) / s + 1 := by
        rw [← Nat.add_div_right _ hs]; congr 1; omega
      have e1 : q % s = (q - s) % s := by
        rw [← Nat.add_mod_right (q - s) s]; congr 1; omega
      refine ⟨by rw [e0, List.length_cons]; omega, ?_⟩
      simp only [e0, e1, List.getElem_cons_succ]
      exact he

section
variable {H : Type} {enc : TypeId × Value → H} {P : Program} {W : World}
/-- a struct's cells, each a number -/
theorem trod_nums {e : TypeId} {fs : Array Field} {base : Nat} {spare : Nat → Bool} {held : Bool} {fuel : Nat} {cs : List Value} {x : DataW H × List MemPlace} (he : P.underlying e = some (.struct fs)) (hone : oneCellFields P fs = true)
    (hlen : cs.length = fs.size) (hints : ∀ (j : Nat) (f : Field), fs[j]? = some f → P.underlying f.type = some (.int .i64)) (h : DataW.trod enc P W base spare held fuel e cs = some x) :
    ∃ r : List Int, r.length = fs.size ∧ cs = r.map i64v ∧ ∀ n ∈ r, In64 n := by
  obtain ⟨ys, n', hn', hy, hlen', hyl, hf⟩ := DataW.trod_struct he h
  have each : ∀ j (hj : j < cs.length), ∃ n : Int, cs[j] = .int .i64 n ∧ In64 n := by
    intro j hj
    have hjs : j < fs.size := by omega
    have hfj : fs[j]? = some fs[j] := Array.getElem?_eq_getElem hjs
    obtain ⟨ho, hk⟩ := hone_of hone j fs[j] hfj
    have h1 := hf j fs[j] hfj
    rw [ho, hk] at h1
    have hone' : (cs.drop j).take 1 = [cs[j]] := by
      rw [List.drop_eq_getElem_cons hj]
      rfl
    rw [hone', List.getElem?_eq_getElem (by omega)] at h1
    obtain ⟨n, hc, _, hw⟩ := DataW.trod_int (hints j _ hfj) h1
    refine ⟨n, by simpa using hc, ?_⟩
    simpa [In64, Lit.wf, IntKind.min, IntKind.max, IntKind.signed, IntKind.bits] using hw
  refine ⟨cs.map intOf, by simpa using hlen, ?_, ?_⟩
  · apply List.ext_getElem (by simp)
    intro j h1 h2
    obtain ⟨n, hn, _⟩ := each j h1
    simp [hn, intOf, i64v]
  · intro n hn
    obtain ⟨v, hv, rfl⟩ := List.mem_map.1 hn
    obtain ⟨j, hj, rfl⟩ := List.getElem_of_mem hv
    obtain ⟨n, hn, hw⟩ := each j hj
    rw [hn]
    exact hw

theorem arg_rows {base : Nat} {t e : TypeId} {fs : Array Field} {v : Value} {d : DataW H} {p : List MemPlace} (ht : P.underlying t = some (.slice e)) (he : P.underlying e = some (.struct fs)) (hone : oneCellFields P fs = true) (hC : P.cellsOf e = fs.size)
    (hints : ∀ (j : Nat) (f : Field), fs[j]? = some f → P.underlying f.type = some (.int .i64)) (hs : 0 < fs.size)
    (hv : Value.okWide P W .any base t v) (h : DataW.Trod enc P W 0 (fun _ => true) true t v d p) :
    ∃ (A : Option Addr) (c : Nat) (rows : List (List Int)), v = .slice A rows.length c ∧ (rows.length ≤ maxLen ∧ rows.length ≤ c) ∧ (∀ r ∈ rows, r.length = fs.size ∧ ∀ n ∈ r, In64 n) ∧
      Reads W W.heap.size fs.size A rows.length (rows.flatMap fun r => r.map i64v) := by
  obtain ⟨a0, len0, cap0, rfl⟩ := okWide_slice ht hv
  obtain ⟨fuel, hf⟩ := h
  rcases open_slice ht hf with ⟨hcs, _⟩ | ⟨a, len, cap, m, n, D, Pl, hcs, hb, hl, hm, hmm, hx, hi⟩
  · simp [Value.cells] at hcs
    obtain ⟨rfl, rfl, rfl⟩ := hcs
    exact ⟨none, 0, [], rfl, by simp [maxLen], by simp, Reads.none_⟩
  · simp [Value.cells] at hcs
    obtain ⟨rfl, rfl, rfl⟩ := hcs
    have hmc : m = cap0 := by simpa using hmm
    rw [hC] at hi
    have each : ∀ i, i < len0 → ∃ r : List Int, r.length = fs.size ∧ (∀ n ∈ r, In64 n) ∧ ∀ j u, (r.map i64v)[j]? = some u → W.cell? (a.add (i * fs.size + j)) = some u := by
      intro i hil
      obtain ⟨cs', hc, ht'⟩ := hi i (by omega)
      obtain ⟨_, hcl, hat⟩ := World.cells?_some hc
      obtain ⟨r, hr1, hr2, hr3⟩ := trod_nums he hone hcl hints ht'
      refine ⟨r, hr1, hr3, fun j u hu => ?_⟩
      rw [← hr2] at hu
      have hj : j < fs.size := by have := (List.getElem?_eq_some_iff.1 hu).1; omega
      rw [← add_of_add, hat j hj, hu]
    have hrows : ∀ k, k ≤ len0 → ∃ rows : List (List Int), rows.length = k ∧ (∀ r ∈ rows, r.length = fs.size ∧ ∀ n ∈ r, In64 n) ∧
        ∀ i (hi : i < rows.length) j u, (rows[i].map i64v)[j]? = some u → W.cell? (a.add (i * fs.size + j)) = some u := by
      intro k
      induction k with
      | zero => intro _; exact ⟨[], rfl, by simp, fun i hi => by simp at hi⟩
      | succ k ih =>
        intro hk
        obtain ⟨rows, h1, h2, h3⟩ := ih (by omega)
        obtain ⟨r, g1, g2, g3⟩ := each k (by omega)
        refine ⟨rows ++ [r], by simp [h1], fun r' hr' => ?_, fun i hi j u hu => ?_⟩
        · rw [List.mem_append, List.mem_singleton] at hr'
          rcases hr' with hr' | rfl
          · exact h2 r' hr'
          · exact ⟨g1, g2⟩
        · by_cases hik : i < rows.length
          · rw [List.getElem_append_left hik] at hu
            exact h3 i hik j u hu
          · obtain rfl : i = k := by simp at hi; omega
            rw [List.getElem_append_right (by omega)] at hu
            simp only [h1, Nat.sub_self, List.getElem_cons_zero] at hu
            exact g3 j u hu
    obtain ⟨rows, h1, h2, h3⟩ := hrows len0 (Nat.le_refl _)
    subst h1
    refine ⟨some a, cap0, rows, rfl, ⟨by omega, hl⟩, h2, rows_length rows h2, fun hpos => ⟨a, rfl, ?_, fun q u hq => ?_⟩⟩
    · have h0 : 0 < rows.length := hpos
      have hr0 := h2 rows[0] (List.getElem_mem h0)
      have hl0 : 0 < (rows[0].map i64v).length := by rw [List.length_map, hr0.1]; exact hs
      have := World.block_lt_of_cell? W _ (h3 0 h0 0 _ (List.getElem?_eq_getElem hl0))
      rwa [block_of_add] at this
    · obtain ⟨hi, he⟩ := rows_get hs rows h2 q u hq
      have := h3 _ hi _ u he
      rwa [Nat.mul_comm, Nat.div_add_mod] at this

theorem arg_agg {base : Nat} {t : TypeId} {fs : Array Field} {v : Value} {d : DataW H} {p : List MemPlace} (ht : P.underlying t = some (.struct fs)) (hone : oneCellFields P fs = true) (hC : P.cellsOf t = fs.size)
    (hints : ∀ (j : Nat) (f : Field), fs[j]? = some f → P.underlying f.type = some (.int .i64))
    (hv : Value.okWide P W .any base t v) (h : DataW.Trod enc P W 0 (fun _ => true) true t v d p) :
    ∃ r : List Int, r.length = fs.size ∧ v = .agg (r.map i64v).toArray ∧ ∀ n ∈ r, In64 n := by
  obtain ⟨cs, rfl, hsz⟩ := okWide_struct ht hv
  obtain ⟨fuel, hf⟩ := h
  obtain ⟨l⟩ := cs
  have hl : l.length = fs.size := by rw [← hC]; exact hsz
  obtain ⟨r, h1, h2, h3⟩ := trod_nums ht hone hl hints (cs := l) (by simpa [Value.cells] using hf)
  exact ⟨r, h1, by rw [h2], h3⟩
end

/-! a list of decisions, and a policy, that came in -/
def toAdv (r : List Int) : Adv := ⟨r.getD 0 0, r.getD 1 0, r.getD 2 0, r.getD 3 0, r.getD 4 0⟩
theorem toAdv_cells {r : List Int} (h : r.length = 5) : r.map i64v = (toAdv r).cells := by
  match r, h with
  | [a, b, c, d, e], _ => rfl
theorem toAdv_ok {r : List Int} (h : r.length = 5) (hn : ∀ n ∈ r, In64 n) : (toAdv r).ok := by
  match r, h with
  | [a, b, c, d, e], _ => exact ⟨hn a (by simp), hn b (by simp), hn c (by simp), hn d (by simp), hn e (by simp)⟩
section
variable {H : Type} {enc : TypeId × Value → H} {P : Program} {W : World}
theorem arg_advs {base : Nat} {t e : TypeId} {fs : Array Field} {v : Value} {d : DataW H} {p : List MemPlace} (ht : P.underlying t = some (.slice e)) (he : P.underlying e = some (.struct fs)) (hone : oneCellFields P fs = true) (hC : P.cellsOf e = 5) (hsz : fs.size = 5)
    (hints : fs.all (fun f => isI64 (P.underlying f.type)) = true)
    (hv : Value.okWide P W .any base t v) (h : DataW.Trod enc P W 0 (fun _ => true) true t v d p) :
    ∃ (A : Option Addr) (c : Nat) (l : List Adv), v = .slice A l.length c ∧ (l.length ≤ maxLen ∧ l.length ≤ c) ∧ (∀ a ∈ l, a.ok) ∧ Reads W W.heap.size 5 A l.length (advs l) := by
  obtain ⟨A, c, rows, rfl, hl, hr, hR⟩ := arg_rows ht he hone (by rw [hC, hsz]) (nums_of hints) (by omega) hv h
  refine ⟨A, c, rows.map toAdv, by simp, by simpa using hl, fun a ha => ?_, ?_⟩
  · obtain ⟨r, hr', rfl⟩ := List.mem_map.1 ha
    exact toAdv_ok ((hr r hr').1.trans hsz) (hr r hr').2
  · have e1 : (rows.flatMap fun r => r.map i64v) = advs (rows.map toAdv) := by
      unfold advs
      rw [List.flatMap_map]
      have : ∀ rs : List (List Int), (∀ r ∈ rs, r.length = 5) → (rs.flatMap fun r => r.map i64v) = rs.flatMap fun r => (toAdv r).cells := by
        intro rs
        induction rs with
        | nil => intro _; rfl
        | cons r rs ih =>
          intro hrs
          rw [List.flatMap_cons, List.flatMap_cons, toAdv_cells (hrs r (by simp)), ih (fun r' hr' => hrs r' (by simp [hr']))]
      exact this rows fun r hr' => (hr r hr').1.trans hsz
    rw [e1, hsz] at hR
    simpa using hR
theorem arg_pol {base : Nat} {t : TypeId} {fs : Array Field} {v : Value} {d : DataW H} {p : List MemPlace} (ht : P.underlying t = some (.struct fs)) (hone : oneCellFields P fs = true) (hC : P.cellsOf t = 6) (hsz : fs.size = 6)
    (hints : fs.all (fun f => isI64 (P.underlying f.type)) = true)
    (hv : Value.okWide P W .any base t v) (h : DataW.Trod enc P W 0 (fun _ => true) true t v d p) :
    ∃ (q0 q1 q2 q3 q4 q5 : Int), v = .agg #[.int .i64 q0, .int .i64 q1, .int .i64 q2, .int .i64 q3, .int .i64 q4, .int .i64 q5] ∧ In64 q0 ∧ In64 q1 ∧ In64 q2 ∧ In64 q3 ∧ In64 q4 ∧ In64 q5 := by
  obtain ⟨r, h1, rfl, h3⟩ := arg_agg ht hone (by rw [hC, hsz]) (nums_of hints) hv h
  rw [hsz] at h1
  match r, h1 with
  | [a, b, c, d, e, f], _ => exact ⟨a, b, c, d, e, f, rfl, h3 a (by simp), h3 b (by simp), h3 c (by simp), h3 d (by simp), h3 e (by simp), h3 f (by simp)⟩
end
end Go.Fw
/-
  A policy's text, in plain Lean (chapter 12). Condition: none.
-/
namespace Go.Fw
open Go.RowKit
set_option linter.unusedVariables false
set_option linter.unusedSimpArgs false
theorem itoa_one {n : Nat} (h : n < 10) : Lib.itoa (n : Int) = [UInt8.ofNat (48 + n)] := by
  unfold Lib.itoa
  rw [if_neg (by omega), Int.toNat_natCast, Lib.decDigits_one h]
/-- the words of a text, in order -/
def nmP : Nat → List UInt8
  | 0 => [109, 105, 110]
  | 1 => [109, 97, 120]
  | 2 => [116, 97, 114, 103, 101, 116]
  | 3 => [116, 111, 108, 101, 114, 97, 110, 99, 101]
  | 4 => [119, 105, 110, 100, 111, 119]
  | _ => [104, 111, 108, 100]
def polWords (a b c d e f : Int) : List (List UInt8) :=
  [nmP 0, Lib.itoa a, nmP 1, Lib.itoa b, nmP 2, Lib.itoa c, nmP 3, Lib.itoa d, nmP 4, Lib.itoa e, nmP 5, Lib.itoa f]
/-- the text of the first k numbers -/
def polK (a b c d e f : Int) (k : Nat) : List UInt8 := joinS 32 ((polWords a b c d e f).take (2 * k))
def polT (a b c d e f : Int) : List UInt8 := joinS 32 (polWords a b c d e f)
def polB (a b c d e f : Int) : ByteArray := ⟨(polT a b c d e f).toArray⟩
theorem polB_list (a b c d e f : Int) : (polB a b c d e f).data.toList = polT a b c d e f := by simp [polB]
theorem polK_0 (a b c d e f : Int) : polK a b c d e f 0 = [] := rfl
theorem polK_1 (a b c d e f : Int) : polK a b c d e f 1 = ([109, 105, 110] ++ [32]) ++ Lib.itoa a := by simp [polK, polWords, joinS, nmP]
theorem polK_2 (a b c d e f : Int) : polK a b c d e f 2 = (((polK a b c d e f 1 ++ [32]) ++ [109, 97, 120]) ++ [32]) ++ Lib.itoa b := by simp [polK, polWords, joinS, nmP]
theorem polK_3 (a b c d e f : Int) : polK a b c d e f 3 = (((polK a b c d e f 2 ++ [32]) ++ [116, 97, 114, 103, 101, 116]) ++ [32]) ++ Lib.itoa c := by simp [polK, polWords, joinS, nmP]
theorem polK_4 (a b c d e f : Int) : polK a b c d e f 4 = (((polK a b c d e f 3 ++ [32]) ++ [116, 111, 108, 101, 114, 97, 110, 99, 101]) ++ [32]) ++ Lib.itoa d := by simp [polK, polWords, joinS, nmP]
theorem polK_5 (a b c d e f : Int) : polK a b c d e f 5 = (((polK a b c d e f 4 ++ [32]) ++ [119, 105, 110, 100, 111, 119]) ++ [32]) ++ Lib.itoa e := by simp [polK, polWords, joinS, nmP]
theorem polK_6 (a b c d e f : Int) : polT a b c d e f = (((polK a b c d e f 5 ++ [32]) ++ [104, 111, 108, 100]) ++ [32]) ++ Lib.itoa f := by simp [polK, polT, polWords, joinS, nmP]
theorem polK_all (a b c d e f : Int) : polK a b c d e f 6 = polT a b c d e f := rfl
/-- the six numbers are 64-bit numbers -/
def In6 (a b c d e f : Int) : Prop := In64 a ∧ In64 b ∧ In64 c ∧ In64 d ∧ In64 e ∧ In64 f
theorem polWords_len {a b c d e f : Int} (h : In6 a b c d e f) : ∀ w ∈ polWords a b c d e f, w.length ≤ 21 := by
  obtain ⟨h1, h2, h3, h4, h5, h6⟩ := h
  have g : ∀ {n : Int}, In64 n → (Lib.itoa n).length ≤ 21 := fun {n} h => by
    have := Lib.itoa_length_le n h.1 h.2
    omega
  intro w hw
  simp only [polWords, List.mem_cons, List.mem_nil_iff, or_false] at hw
  rcases hw with rfl | rfl | rfl | rfl | rfl | rfl | rfl | rfl | rfl | rfl | rfl | rfl
  all_goals first | decide | exact g (by assumption)
theorem polK_len {a b c d e f : Int} (h : In6 a b c d e f) (k : Nat) : (polK a b c d e f k).length ≤ 300 := by
  have h1 := joinS_len 32 21 ((polWords a b c d e f).take (2 * k)) fun w hw => polWords_len h w (List.mem_of_mem_take hw)
  have h2 : ((polWords a b c d e f).take (2 * k)).length ≤ 12 := by
    rw [List.length_take]
    have : (polWords a b c d e f).length = 12 := rfl
    omega
  unfold polK
  omega
theorem polB_size {a b c d e f : Int} (h : In6 a b c d e f) : (polB a b c d e f).size ≤ 300 := by
  have h1 := polK_len h 6
  rw [polK_all, ← polB_list] at h1
  exact h1
theorem polB_of {a b c d e f : Int} {s : ByteArray} (h : s.data.toList = polT a b c d e f) : s = polB a b c d e f := bytes_ext (by rw [h, polB_list])
theorem polWords_signs (a b c d e f : Int) : ∀ w ∈ polWords a b c d e f, (32 : UInt8) ∉ w := by
  intro w hw
  simp only [polWords, List.mem_cons, List.mem_nil_iff, or_false] at hw
  rcases hw with rfl | rfl | rfl | rfl | rfl | rfl | rfl | rfl | rfl | rfl | rfl | rfl
  all_goals first | (exact itoa_no (by decide)) | decide
/-- the words of a policy's text -/
theorem cut_polT (a b c d e f : Int) : cutW 32 (polT a b c d e f) = polWords a b c d e f := cut_join 32 _ (by simp [polWords]) (polWords_signs a b c d e f)
/-- unlike policies have unlike texts -/
theorem polT_inj {a b c d e f a' b' c' d' e' f' : Int} (h : In6 a b c d e f) (h' : In6 a' b' c' d' e' f') (he : polT a b c d e f = polT a' b' c' d' e' f') :
    a = a' ∧ b = b' ∧ c = c' ∧ d = d' ∧ e = e' ∧ f = f' := by
  have h1 := congrArg (cutW 32) he
  rw [cut_polT, cut_polT] at h1
  obtain ⟨g1, g2, g3, g4, g5, g6⟩ := h
  obtain ⟨k1, k2, k3, k4, k5, k6⟩ := h'
  simp only [polWords, List.cons.injEq, true_and, and_true] at h1
  obtain ⟨e1, e2, e3, e4, e5, e6⟩ := h1
  exact ⟨itoa_inj g1.1 g1.2 k1.1 k1.2 e1, itoa_inj g2.1 g2.2 k2.1 k2.2 e2, itoa_inj g3.1 g3.2 k3.1 k3.2 e3, itoa_inj g4.1 g4.2 k4.1 k4.2 e4, itoa_inj g5.1 g5.2 k5.1 k5.2 e5, itoa_inj g6.1 g6.2 k6.1 k6.2 e6⟩
end Go.Fw
/-
  ident.Check and the reference's Id walked: which texts are ids (chapter 3). Condition: none.
-/
namespace Go.Fw
open Go.RowKit
set_option linter.unusedVariables false
set_option linter.unusedSimpArgs false
/-- a letter's number; 0: it is none -/
def codeN (c : Int) : Int := if c = 45 then 1 else if c = 46 then 2 else if 48 ≤ c ∧ c ≤ 57 then c - 45 else if c = 95 then 13 else if 97 ≤ c ∧ c ≤ 122 then c - 83 else 0
theorem codeN_in (c : Int) : 0 ≤ codeN c ∧ codeN c ≤ 39 := by unfold codeN; repeat' split <;> omega
theorem codeN_far {c : Int} (h : 122 < c) : codeN c = 0 := by unfold codeN; repeat' split <;> omega
def letterB (b : UInt8) : Bool := codeN (b.toNat : Int) != 0
def idOk (s : ByteArray) : Bool := decide (1 ≤ s.size) && (decide (s.size ≤ 20) && s.data.toList.all letterB)
theorem letterB_iff {b : UInt8} : letterB b = true ↔ codeN (b.toNat : Int) ≠ 0 := by unfold letterB; simp
theorem idOk_of {s : ByteArray} (h1 : 1 ≤ s.size) (h2 : s.size ≤ 20) (h3 : ∀ (k : Nat) (h : k < s.size), codeN (s[k].toNat : Int) ≠ 0) : idOk s = true := by
  unfold idOk
  simp only [Bool.and_eq_true, decide_eq_true_eq, List.all_eq_true]
  refine ⟨h1, h2, fun b hb => ?_⟩
  obtain ⟨k, hk, rfl⟩ := List.getElem_of_mem hb
  exact letterB_iff.2 (h3 k (by simpa using hk))
theorem idOk_at {s : ByteArray} (h : idOk s = true) : 1 ≤ s.size ∧ s.size ≤ 20 ∧ ∀ (k : Nat) (h : k < s.size), codeN (s[k].toNat : Int) ≠ 0 := by
  unfold idOk at h
  simp only [Bool.and_eq_true, decide_eq_true_eq, List.all_eq_true] at h
  refine ⟨h.1, h.2.1, fun k hk => letterB_iff.1 (h.2.2 _ ?_)⟩
  have : s[k] = s.data.toList[k]'(by simpa using hk) := rfl
  rw [this]
  exact List.getElem_mem _
theorem idOk_no {s : ByteArray} {k : Nat} (hk : k < s.size) (h : codeN (s[k].toNat : Int) = 0) : idOk s = false := by
  cases h2 : idOk s
  · rfl
  · exact absurd h ((idOk_at h2).2.2 k hk)
theorem idOk_short {s : ByteArray} (h : s.size < 1) : idOk s = false := by
  cases h2 : idOk s
  · rfl
  · have := (idOk_at h2).1; omega
theorem idOk_long {s : ByteArray} (h : 20 < s.size) : idOk s = false := by
  cases h2 : idOk s
  · rfl
  · have := (idOk_at h2).2.1; omega
theorem decode_far (s : ByteArray) (pos : Nat) (h : pos < s.size) (ha : ¬ (s[pos]'h).toNat < 128) : 128 ≤ (Utf8.decode s pos).1 := (decode_high s pos h (by omega)).1
/-- the reference's letters, in order -/
def letS : List UInt8 := [45, 46, 48, 49, 50, 51, 52, 53, 54, 55, 56, 57, 95, 97, 98, 99, 100, 101, 102, 103, 104, 105, 106, 107, 108, 109, 110, 111, 112, 113, 114, 115, 116, 117, 118, 119, 120, 121, 122]
def letA : ByteArray := ⟨letS.toArray⟩
theorem letA_size : letA.size = 39 := rfl
theorem let_code : ∀ k : Fin 39, codeN ((letA[k.val]'(by have := k.isLt; rw [letA_size]; exact this)).toNat : Int) = (k.val : Int) + 1 := by decide
theorem let_none (b : UInt8) (h : ∀ (k : Nat) (h : k < 39), letA[k]'(by rw [letA_size]; exact h) ≠ b) : codeN (b.toNat : Int) = 0 := by
  have h2 : b ∉ letS := by
    intro hb
    obtain ⟨k, hk, he⟩ := List.getElem_of_mem hb
    exact h k hk he
  have all : ∀ b : Fin 256, UInt8.ofNat b.val ∉ letS → codeN ((UInt8.ofNat b.val).toNat : Int) = 0 := by decide +kernel
  have := all ⟨b.toNat, b.toNat_lt⟩
  simp only [UInt8.ofNat_toNat] at this
  exact this h2
theorem iterPos_of {w : World} {k : Nat} {s : ByteArray} {p : Nat} (h : w.heap[k]? = some (.stringIter s p)) : w.iterPos k = p := by simp [World.iterPos, h]
theorem idOk_noteq {s : ByteArray} {t : Nat} (h : idOk s = true) (hb : (48 : Nat) ≤ t) : True := trivial
/-- what is wrong with an id -/
def idE (s : ByteArray) : Int := if idOk s = true then 0 else 2
theorem idE_no {s : ByteArray} (h : idOk s = false) : idE s = 2 := by unfold idE; rw [h]; rfl
theorem idE_yes {s : ByteArray} (h : idOk s = true) : idE s = 0 := by unfold idE; rw [h]; rfl
end Go.Fw
namespace Go.Proofs.YteljecehppeamaaGreatDoor
open Go.RowKit Go.Fw
set_option maxHeartbeats 1000000
set_option maxRecDepth 4000
set_option linter.unusedVariables false
set_option linter.unusedSimpArgs false
theorem code_any (c : Int) (w : World) (h0 : 0 ≤ c) (h1 : c ≤ 2147483647) :
    Calls Tryz.prog 55 #[.int .i32 c] w fun x w' => x = .returned (.int .u64 (codeN c)) ∧ w = w' := by
  by_cases e1 : c = 45
  · subst e1
    go_enter Tryz.func55, Tryz.ntmps55
    go_wp2
    go_ret
    exact ⟨rfl, rfl⟩
  by_cases e2 : c = 46
  · subst e2
    go_enter Tryz.func55, Tryz.ntmps55
    go_wp2
    go_ret
    exact ⟨rfl, rfl⟩
  by_cases e5 : c = 95
  · subst e5
    go_enter Tryz.func55, Tryz.ntmps55
    go_wp2
    go_ret
    exact ⟨rfl, rfl⟩
  have b1 : (c == 45) = false := by simpa using e1
  have b2 : (c == 46) = false := by simpa using e2
  have b5 : (c == 95) = false := by simpa using e5
  by_cases e3 : 48 ≤ c ∧ c ≤ 57
  · have HF : Hid (codeN c = c - 45) := Lib.hid (by unfold codeN; rw [if_neg e1, if_neg e2, if_pos e3])
    obtain ⟨e31, e32⟩ := e3
    have w1 : IntKind.i32.wrap (c - 48) = c - 48 := IntWalk.i32_in _ (by omega)
    have w2 : IntKind.u64.wrap (c - 48) = c - 48 := IntWalk.u64_in _ (by omega)
    have w3 : IntKind.u64.wrap (3 + (c - 48)) = 3 + (c - 48) := IntWalk.u64_in _ (by omega)
    clear e1 e2 e5
    go_enter Tryz.func55, Tryz.ntmps55
    go_wp2
    go_ret
    exact ⟨ret_i (by rw [HF.out]; omega), rfl⟩
  have hn3 : ¬ 48 ≤ c ∨ (48 ≤ c ∧ ¬ c ≤ 57) := by omega
  by_cases e4 : 97 ≤ c ∧ c ≤ 122
  · have HF : Hid (codeN c = c - 83) := Lib.hid (by unfold codeN; rw [if_neg e1, if_neg e2, if_neg e3, if_neg e5, if_pos e4])
    obtain ⟨e41, e42⟩ := e4
    have w1 : IntKind.i32.wrap (c - 97) = c - 97 := IntWalk.i32_in _ (by omega)
    have w2 : IntKind.u64.wrap (c - 97) = c - 97 := IntWalk.u64_in _ (by omega)
    have w3 : IntKind.u64.wrap (14 + (c - 97)) = 14 + (c - 97) := IntWalk.u64_in _ (by omega)
    have e6 : 48 ≤ c := by omega
    have e7 : ¬ c ≤ 57 := by omega
    clear e1 e2 e5 e3 hn3
    go_enter Tryz.func55, Tryz.ntmps55
    go_wp2
    go_ret
    exact ⟨ret_i (by rw [HF.out]; omega), rfl⟩
  have hn4 : ¬ 97 ≤ c ∨ (97 ≤ c ∧ ¬ c ≤ 122) := by omega
  have HF : Hid (codeN c = 0) := Lib.hid (by unfold codeN; rw [if_neg e1, if_neg e2, if_neg e3, if_neg e5, if_neg e4])
  clear e1 e2 e5 e3 e4
  rcases hn3 with e31 | ⟨e31, e32⟩ <;> rcases hn4 with e41 | ⟨e41, e42⟩
  all_goals
    first
    | omega
    | (go_enter Tryz.func55, Tryz.ntmps55
       go_wp2
       go_ret
       exact ⟨ret_i HF.out.symm, rfl⟩)
theorem idcheck_any (s : ByteArray) (hs : s.size ≤ maxLen) (w : World) :
    Calls Tryz.prog 38 #[.string s] w fun x w' => x = .returned (.int .i64 (idE s)) ∧ Below w.heap.size w w' := by
  unfold maxLen at hs
  by_cases h1 : s.size < 1
  · have HF := Lib.hid (idE_no (idOk_short h1))
    have h1I : (s.size : Int) < 1 := by omega
    go_enter Tryz.func38, Tryz.ntmps38
    go_wp2
    go_ret
    exact ⟨ret_i HF.out.symm, Below.refl _ _⟩
  by_cases h2 : 20 < s.size
  · have HF := Lib.hid (idE_no (idOk_long h2))
    have h1I : ¬ (s.size : Int) < 1 := by omega
    have h2I : (20 : Int) < s.size := by omega
    go_enter Tryz.func38, Tryz.ntmps38
    go_wp2
    go_ret
    exact ⟨ret_i HF.out.symm, Below.refl _ _⟩
  have h1I : ¬ (s.size : Int) < 1 := by omega
  have h2I : ¬ (20 : Int) < s.size := by omega
  go_enter Tryz.func38, Tryz.ntmps38
  go_wp2
  go_loopw [] (fun wr => ∃ (pos : Nat), pos ≤ s.size ∧ wr.heap[w.heap.size]? = some (.stringIter s pos) ∧ Below w.heap.size w wr ∧ Hid (∀ (k : Nat) (h : k < s.size), k < pos → codeN (s[k].toNat : Int) ≠ 0)) (fun wr => s.size - wr.iterPos w.heap.size)
  case atStart => exact ⟨0, by omega, World.iter_heap w s 0, sub_alloc (Below.refl _ w) _, Lib.hid (fun k _ h => by omega)⟩
  case round =>
    obtain ⟨pos, hp, hit, hb, HK⟩ := hrel
    have hpos0 := iterPos_of hit
    have HP := Lib.hid hpos0
    clear hpos0
    by_cases hlt : pos < s.size
    · by_cases ha : (s[pos]'hlt).toNat < 128
      · have hnx : ∀ ty, (Instr.next (.pointer (some ⟨w.heap.size, 0, none⟩)) true ty).run Tryz.prog wr = _ := fun ty => Lib.run_next_ascii_at wr w.heap.size s pos ty hit hlt ha
        have hit2 := Lib.iterAt_heap wr w.heap.size s pos (pos + 1) hit
        have hb2 := Lib.below_iterAt hb (k := w.heap.size) (Nat.le_refl _) s (pos + 1)
        have HI := Lib.hid hit2
        clear hit hit2
        by_cases hz : codeN ((s[pos]'hlt).toNat : Int) = 0
        · have HF := Lib.hid (idE_no (idOk_no hlt hz))
          have HZ := Lib.hid hz
          have HC := Lib.hid (fun W => code_any ((s[pos]'hlt).toNat : Int) W (by omega) (by omega))
          clear hz
          generalize codeN ((s[pos]'hlt).toNat : Int) = cc at *
          go_wp2_with fail
          refine (HC.out _).mono ?_
          rintro x w1 ⟨rfl, rfl⟩
          rw [HZ.out]
          go_wp2
          go_ret
          exact ⟨ret_i HF.out.symm, hb2⟩
        · have hz2 : (codeN ((s[pos]'hlt).toNat : Int) == 0) = false := by simpa using hz
          have HZ := Lib.hid hz
          have HC := Lib.hid (fun W => code_any ((s[pos]'hlt).toNat : Int) W (by omega) (by omega))
          clear hz
          generalize hcc : codeN ((s[pos]'hlt).toNat : Int) = cc at *
          have HE := Lib.hid hcc
          clear hcc
          go_wp2_with fail
          refine (HC.out _).mono ?_
          rintro x w1 ⟨rfl, rfl⟩
          go_wp2
          go_roundw
          case rel =>
            refine ⟨pos + 1, by omega, HI.out, hb2, Lib.hid fun k hk hlk => ?_⟩
            by_cases hkp : k = pos
            · subst hkp
              rw [HE.out]
              exact HZ.out
            · exact HK.out k hk (by omega)
          case measure => rw [iterPos_of HI.out, HP.out]; omega
      · have hd := decode_far s pos hlt ha
        have hnx : ∀ ty, (Instr.next (.pointer (some ⟨w.heap.size, 0, none⟩)) true ty).run Tryz.prog wr = _ := fun ty => Lib.run_next_any_at wr w.heap.size s pos ty hit hlt
        have hb2 := Lib.below_iterAt hb (k := w.heap.size) (Nat.le_refl _) s (pos + (Utf8.decode s pos).2)
        have hz : codeN ((s[pos]'hlt).toNat : Int) = 0 := codeN_far (by omega)
        have HF := Lib.hid (idE_no (idOk_no hlt hz))
        have hdl : (Utf8.decode s pos).1 ≤ 2147483647 := decode_le s pos
        have hz2 : codeN ((Utf8.decode s pos).1 : Int) = 0 := codeN_far (by omega)
        have HC := Lib.hid (fun W => code_any ((Utf8.decode s pos).1 : Int) W (by omega) (by omega))
        rw [hz2] at HC
        clear hz hz2 hit
        generalize Utf8.decode s pos = dd at *
        go_wp2_with fail
        refine (HC.out _).mono ?_
        rintro x w1 ⟨rfl, rfl⟩
        go_wp2
        go_ret
        exact ⟨ret_i HF.out.symm, hb2⟩
    · have hnx : ∀ ty, (Instr.next (.pointer (some ⟨w.heap.size, 0, none⟩)) true ty).run Tryz.prog wr = _ := fun ty => Lib.run_next_end_at wr w.heap.size s pos ty hit hlt
      have HF := Lib.hid (idE_yes (idOk_of (by omega) (by omega) fun k hk => HK.out k hk (by omega)))
      clear hit
      go_wp2
      go_ret
      exact ⟨ret_i HF.out.symm, hb⟩
theorem place_any (b : UInt8) (w : World) :
    Calls Tryz.prog 62 #[.int .u8 (b.toNat : Int)] w fun x w' => x = .returned (.int .u64 (codeN (b.toNat : Int))) ∧ w = w' := by
  have hb := b.toNat_lt
  go_enter Tryz.func62, Tryz.ntmps62
  go_wp2
  go_loop [3] (fun i => ∃ (k : Nat), k ≤ 39 ∧ i = .int .i64 k ∧ Hid (∀ (j : Nat) (h : j < 39), j < k → letA[j]'(by rw [letA_size]; exact h) ≠ b)) (fun i => 39 - (intOf i).toNat)
  case atStart => exact ⟨0, by omega, rfl, Lib.hid (fun j _ h => by omega)⟩
  case round =>
    obtain ⟨k, hk, rfl, HK⟩ := hrel
    by_cases hlt : k < 39
    · have hsz : k < letA.size := hlt
      have HL := Lib.hid (let_code ⟨k, hlt⟩)
      go_wp2
      · rename_i h h'
        have he : ((letA[k]'hsz).toNat : Int) = (b.toNat : Int) := by first | exact beq_iff_eq.1 h | exact beq_iff_eq.1 h'
        have HE := Lib.hid he
        clear he h h'
        go_ret
        exact ⟨ret_i (by rw [← HE.out]; exact (HL.out.trans (by first | rfl | omega)).symm), rfl⟩
      · rename_i h h'
        have he : ¬ ((letA[k]'hsz).toNat : Int) = (b.toNat : Int) := by first | exact beq_eq_false_iff_ne.1 h | exact beq_eq_false_iff_ne.1 h'
        have HE := Lib.hid he
        clear he h h'
        go_round
        case rel =>
          refine ⟨k + 1, by omega, by go_num, Lib.hid fun j hj hlj => ?_⟩
          by_cases hjk : j = k
          · subst hjk
            intro e
            exact HE.out (by rw [e])
          · exact HK.out j hj (by omega)
        case measure => simp [intOf]; omega
    · have HF := Lib.hid (let_none b fun j hj => HK.out j hj (by omega))
      go_wp2
      go_ret
      exact ⟨ret_i HF.out.symm, rfl⟩
theorem id_any (s : ByteArray) (hs : s.size ≤ maxLen) (w : World) :
    Calls Tryz.prog 47 #[.string s] w fun x w' => x = .returned (.bool (idOk s)) ∧ w = w' := by
  unfold maxLen at hs
  by_cases h1 : s.size < 1
  · have HF := Lib.hid (idOk_short h1)
    have h1I : (s.size : Int) < 1 := by omega
    go_enter Tryz.func47, Tryz.ntmps47
    go_wp2
    go_ret
    exact ⟨ret_b HF.out.symm, rfl⟩
  by_cases h2 : 20 < s.size
  · have HF := Lib.hid (idOk_long h2)
    have h1I : ¬ (s.size : Int) < 1 := by omega
    have h2I : (20 : Int) < s.size := by omega
    go_enter Tryz.func47, Tryz.ntmps47
    go_wp2
    go_ret
    exact ⟨ret_b HF.out.symm, rfl⟩
  have h1I : ¬ (s.size : Int) < 1 := by omega
  have h2I : ¬ (20 : Int) < s.size := by omega
  go_enter Tryz.func47, Tryz.ntmps47
  go_wp2
  go_loop [3] (fun i => ∃ (pos : Nat), pos ≤ s.size ∧ i = .int .i64 pos ∧ Hid (∀ (k : Nat) (h : k < s.size), k < pos → codeN (s[k].toNat : Int) ≠ 0)) (fun i => s.size - (intOf i).toNat)
  case atStart => exact ⟨0, by omega, rfl, Lib.hid (fun k _ h => by omega)⟩
  case round =>
    obtain ⟨pos, hp, rfl, HK⟩ := hrel
    by_cases hlt : pos < s.size
    · have HC := Lib.hid (fun W => place_any (s[pos]'hlt) W)
      by_cases hz : codeN ((s[pos]'hlt).toNat : Int) = 0
      · have HF := Lib.hid (idOk_no hlt hz)
        have HZ := Lib.hid hz
        clear hz
        generalize codeN ((s[pos]'hlt).toNat : Int) = cc at *
        go_wp2_with fail
        refine (HC.out _).mono ?_
        rintro x w1 ⟨rfl, rfl⟩
        rw [HZ.out]
        go_wp2
        go_ret
        exact ⟨ret_b HF.out.symm, rfl⟩
      · have hz2 : (codeN ((s[pos]'hlt).toNat : Int) == 0) = false := by simpa using hz
        have HZ := Lib.hid hz
        clear hz
        generalize hcc : codeN ((s[pos]'hlt).toNat : Int) = cc at *
        have HE := Lib.hid hcc
        clear hcc
        go_wp2_with fail
        refine (HC.out _).mono ?_
        rintro x w1 ⟨rfl, rfl⟩
        go_wp2
        go_round
        case rel =>
          refine ⟨pos + 1, by omega, by go_num, Lib.hid fun k hk hlk => ?_⟩
          by_cases hkp : k = pos
          · subst hkp
            rw [HE.out]
            exact HZ.out
          · exact HK.out k hk (by omega)
        case measure => simp [intOf]; omega
    · have HF := Lib.hid (idOk_of (by omega) (by omega) fun k hk => HK.out k hk (by omega))
      go_wp2
      go_ret
      exact ⟨ret_b HF.out.symm, rfl⟩
end Go.Proofs.YteljecehppeamaaGreatDoor
