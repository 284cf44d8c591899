/-
  Values of many cells, the cells whatever they are: loaded, stored, laid into new blocks; the leaves of a struct that came in. Condition: none.
-/
import Derived.Test.YteljecehppeamaaDoorArgs
import Derived.Test.YteljecehppeamaaDoorOwn
import Derived.MapViews
import Derived.Laws.StructEq
import Derived.Laws.Tables
import Derived.Deep.WholeRow
import Derived.Great.BuildSlice
namespace Go.Fw
open Go.RowKit Go.WideShapes Go.ChangeShapes Go.Deep Go.Joins
set_option linter.unusedVariables false
set_option linter.unusedSimpArgs false
/-- a type of many cells -/
structure RowT (P : Program) (T : TypeId) (n : Nat) : Prop where
  agg : (match P.underlying T with | some (.struct _) | some (.array _ _) => true | _ => false) = true
  size : (P.info? T).map (·.size) = some n
  zero : (((P.info? T).bind (·.zero)).map fun z => z.cells.size) = some n
/-- the cells of a type's zero value -/
def zc (P : Program) (T : TypeId) : Array Value := (((P.info? T).bind (·.zero)).map Value.cells).getD #[]
section
variable {P : Program} {T : TypeId} {n : Nat}
theorem RowT.zc_size (h : RowT P T n) : (zc P T).size = n := by
  have := h.zero
  unfold zc
  cases hq : (P.info? T).bind (·.zero) with
  | none => simp [hq] at this
  | some z => simp [hq] at this ⊢; exact this
theorem run_loadVar_at (hT : RowT P T n) (w : World) (ad : Addr) (cs : Array Value) (hn : cs.size = n) (hc : ∀ j v, cs.toList[j]? = some v → w.cell? (ad.add j) = some v) :
    (loadVar T ad).run P w = .ok (.agg cs) w := by
  have hl : (loadCells ad cs.toList.length).run P w = .ok cs.toList.toArray w := run_loadCells_list (P := P) w ad cs.toList hc
  have hi := hT.size
  have ha := hT.agg
  cases hu : P.underlying T with
  | none => simp [hu] at ha
  | some d =>
    cases hq : P.info? T with
    | none => simp [hq] at hi
    | some i =>
      have hs : i.size = cs.size := by rw [hn]; simpa [hq] using hi
      have hagg : (isAgg T).run P w = .ok true w := by
        unfold isAgg
        rw [Sem.run_bind, run_underlying hu w]
        cases d <;> simp_all
      simp only [Array.length_toList, Array.toArray_toList] at hl
      simp [loadVar, Sem.run_bind, hagg, sizeOf, typeInfo, hq, hs, hl]
theorem wp_load_at {o : Oper} {a : Act} {w : World} {K : Act → World → Prop} {Q : Exit → Act → World → Prop} (hT : RowT P T n) (x : Operand) (ho : o.op = .load T x)
    (ad : Addr) (hx : a.eval x = .pointer (some ad)) (cs : Array Value) (hn : cs.size = n) (hc : ∀ j v, cs.toList[j]? = some v → w.cell? (ad.add j) = some v) (h : K (a.put o.dst (.agg cs)) w) : o.wp P a w K Q := by
  unfold Oper.wp execOp
  simp only [ho, hx, Instr.loadAt, Instr.sureAddr, Sem.run_bind, Sem.run_pure, Result.andThen_ok, run_loadVar_at hT w ad cs hn hc]
  exact h
theorem wpList_load_at {ops : Array Oper} {rest : List Oper} {o : Oper} {a : Act} {w : World} {Q : Exit → Act → World → Prop} (hT : RowT P T n) (hgd : o.guard = none) (x : Operand) (ho : o.op = .load T x)
    (ad : Addr) (hx : a.eval x = .pointer (some ad)) (cs : Array Value) (hn : cs.size = n) (hc : ∀ j v, cs.toList[j]? = some v → w.cell? (ad.add j) = some v) (h : wpList P ops Q rest (a.put o.dst (.agg cs)) w) : wpList P ops Q (o :: rest) a w :=
  wpList_plain hgd fun _ hK => wp_load_at hT x ho ad hx cs hn hc (hK _ _ h)
/-- .. under a guard that lets it be -/
theorem wpList_load_if {ops : Array Oper} {rest : List Oper} {o : Oper} {a : Act} {w : World} {Q : Exit → Act → World → Prop} (hT : RowT P T n) (hgd : Region.wanted o (yielded ops a.tmps) = true) (x : Operand) (ho : o.op = .load T x)
    (ad : Addr) (hx : a.eval x = .pointer (some ad)) (cs : Array Value) (hn : cs.size = n) (hc : ∀ j v, cs.toList[j]? = some v → w.cell? (ad.add j) = some v) (h : wpList P ops Q rest (a.put o.dst (.agg cs)) w) : wpList P ops Q (o :: rest) a w :=
  wpList_step fun K hK => by
    simp only [hgd, if_true]
    exact wp_load_at hT x ho ad hx cs hn hc (hK _ _ h)
/-- a copy of what guards it, and then the load -/
theorem wpList_move_load {ops : Array Oper} {rest : List Oper} {o1 o : Oper} {a : Act} {w : World} {Q : Exit → Act → World → Prop} (hT : RowT P T n) (hg1 : o1.guard = none) (x1 : Operand) (ho1 : o1.op = .move x1) (v1 : Value) (hv1 : a.eval x1 = v1)
    (hgd : Region.wanted o (yielded ops (a.put o1.dst v1).tmps) = true) (x : Operand) (ho : o.op = .load T x)
    (ad : Addr) (hx : (a.put o1.dst v1).eval x = .pointer (some ad)) (cs : Array Value) (hn : cs.size = n) (hc : ∀ j v, cs.toList[j]? = some v → w.cell? (ad.add j) = some v) (h : wpList P ops Q rest ((a.put o1.dst v1).put o.dst (.agg cs)) w) : wpList P ops Q (o1 :: o :: rest) a w :=
  wpList_plain hg1 fun K hK => by
    unfold Oper.wp execOp
    simp only [ho1, Sem.run_pure, hv1]
    exact hK _ _ (wpList_load_if hT hgd x ho ad hx cs hn hc h)
theorem exec_load_at {o : Oper} {ρ : Operand → Value} {w : World} (hT : RowT P T n) (x : Operand) (ho : o.op = .load T x) (ad : Addr) (hx : ρ x = .pointer (some ad)) (cs : Array Value) (hn : cs.size = n) (hc : ∀ j v, cs.toList[j]? = some v → w.cell? (ad.add j) = some v) :
    (execOp ρ o).run P w = .ok (.value (.agg cs)) w := by
  unfold execOp
  simp only [ho, hx, Instr.loadAt, Instr.sureAddr, Sem.run_bind, Sem.run_pure, Result.andThen_ok, run_loadVar_at hT w ad cs hn hc]
theorem exec_bin_agg {o : Oper} {ρ : Operand → Value} {w : World} (op : BinOp) (t t2 : TypeId) (x y : Operand) (ho : o.op = .binOp op t x y t2) (xs ys : Array Value) (hx : ρ x = .agg xs) (hy : ρ y = .agg ys) (hm : P.eqGuardType P.depth t = false) (v : Value) (hb : (binOp op t (.agg xs) (.agg ys)).run P w = .ok v w) :
    (execOp ρ o).run P w = .ok (.value v) w := by
  unfold execOp
  simp only [ho, hx, hy, Sem.run_bind, run_eqGuard_agg w op t x y xs ys hm, Result.andThen_ok, hb, Sem.run_pure]
/-- two values of one type of numbers, strings, and structs of such, are alike if their cells are -/
theorem neq_self {m D : Nat} (hm : m ≤ 10000) {t : TypeId} (hk : P.keyTypeAt m t = true) (hs : (match P.underlying t with | some (.struct _) => true | _ => false) = true) (cs : Array Value) (hC : cs.size = P.cellsOf t) {ls : List Lit} (hl : P.keyLits D t cs.toList = some ls) (w : World) :
    (binOp .neq t (.agg cs) (.agg cs)).run P w = .ok (.bool false) w := by
  have hf : (Value.agg cs).formed P t = true := by
    unfold Value.formed
    cases hu : P.underlying t with
    | none => simp [hu] at hs
    | some d => cases d <;> simp [hu] at hs ⊢; exact hC
  obtain ⟨r, hr, hiff⟩ := run_equalIn_deep (10000 - m) m t hk w D D (.agg cs) (.agg cs) ls ls hf hf hl hl
  have e : r = true := hiff.2 rfl
  subst e
  rw [run_neq_struct]
  rw [show 10000 - m + m = 10000 by omega] at hr
  rw [hr]
  rfl
theorem wp_alloc_row {o : Oper} {a : Act} {w : World} {K : Act → World → Prop} {Q : Exit → Act → World → Prop} (hT : RowT P T n) (ho : o.op = .alloc T)
    (h : K (a.put o.dst (.pointer (some ⟨w.heap.size, 0, none⟩))) (w.alloc (.cells (zc P T) T))) : o.wp P a w K Q := by
  have hz := hT.zero
  cases hi : P.info? T with
  | none => simp [hi] at hz
  | some i =>
    cases hzz : i.zero with
    | none => simp [hi, hzz] at hz
    | some z =>
      have e : zc P T = z.cells := by simp [zc, hi, hzz]
      rw [e] at h
      unfold Oper.wp execOp
      simp only [ho]
      simp [Instr.alloc, zeroValue, typeInfo, hi, hzz, newVar, newRow]
      exact h
theorem wpList_alloc_row {ops : Array Oper} {rest : List Oper} {o : Oper} {a : Act} {w : World} {Q : Exit → Act → World → Prop} (hT : RowT P T n) (hgd : o.guard = none) (ho : o.op = .alloc T)
    (h : wpList P ops Q rest (a.put o.dst (.pointer (some ⟨w.heap.size, 0, none⟩))) (w.alloc (.cells (zc P T) T))) : wpList P ops Q (o :: rest) a w :=
  wpList_plain hgd fun _ hK => wp_alloc_row hT ho (hK _ _ h)
/-- into a block of just so many cells that the call has just laid -/
theorem wpList_store_new {ops : Array Oper} {rest : List Oper} {o : Oper} {a : Act} {w : World} {Q : Exit → Act → World → Prop} (hT : RowT P T n) (hgd : o.guard = none) (x y : Operand) (ho : o.op = .store T x y)
    (g : Nat) (hg : g = w.heap.size) (hx : a.eval x = .pointer (some ⟨g, 0, none⟩)) (cs old : Array Value) (hy : a.eval y = .agg cs) (t : TypeId) (hn : cs.size = n) (hold : old.size = n) (h1 : cs.all (·.oneCell') = true)
    (h : wpList P ops Q rest (a.put o.dst undef) (w.alloc (.cells cs t))) : wpList P ops Q (o :: rest) a (w.alloc (.cells old t)) := by
  subst hg
  refine wpList_store_row hgd T x y ho w.heap.size cs hx hy t old (heap_alloc_last w _) (by rw [hT.size, hn]) (by omega) h1 ?_
  rw [World.setRow_alloc_new]
  exact h
end
section
variable {P : Program} {T : TypeId} {n : Nat}
/-- a slice literal of one element -/
theorem run_slice1 (hT : RowT P T n) (hn0 : 0 < n) (hn1 : n ≤ 16777216) (w : World) (t : TypeId) (hu : P.underlying t = some (.slice T)) (cs : Array Value) (hn : cs.size = n) :
    (Instr.buildSlice t 1 #[(0, .agg cs)]).run P w = .ok (.slice (some ⟨w.heap.size, 0, none⟩) 1 1) (w.alloc (.cells cs T)) := by
  have hz := hT.zero
  have hsz := hT.size
  cases hi : P.info? T with
  | none => simp [hi] at hz
  | some i =>
    cases hzz : i.zero with
    | none => simp [hi, hzz] at hz
    | some z =>
      have hsi : i.size = n := by simpa [hi] using hsz
      have hf := Great.fill_whole (s := n) hn0 [.agg cs] ((Array.range (1 * i.size)).map (z.cells[· % z.cells.size]!)) (by simp [Value.cells, hn]) (by simp [hsi])
      refine run_buildSlice w t T 1 _ cs i z hu hi hzz (by rw [hsi]; omega) (by rw [hsi]; omega) ?_
      rw [hsi] at hf ⊢
      simpa [Value.cells] using hf
theorem wp_slice1 {o : Oper} {a : Act} {w : World} {K : Act → World → Prop} {Q : Exit → Act → World → Prop} (hT : RowT P T n) (hn0 : 0 < n) (hn1 : n ≤ 16777216) (t : TypeId) (x : Operand) (ho : o.op = .buildSlice t 1 #[(0, x)]) (hu : P.underlying t = some (.slice T))
    (cs : Array Value) (hx : a.eval x = .agg cs) (hn : cs.size = n) (h : K (a.put o.dst (.slice (some ⟨w.heap.size, 0, none⟩) 1 1)) (w.alloc (.cells cs T))) : o.wp P a w K Q := by
  unfold Oper.wp execOp
  have hr := run_slice1 hT hn0 hn1 w t hu cs hn
  simp only [ho, List.map_toArray, List.map_cons, List.map_nil, hx, Sem.run_bind, hr, Result.andThen_ok]
  exact h
theorem wpList_slice1 {ops : Array Oper} {rest : List Oper} {o : Oper} {a : Act} {w : World} {Q : Exit → Act → World → Prop} (hT : RowT P T n) (hn0 : 0 < n) (hn1 : n ≤ 16777216) (hgd : o.guard = none) (t : TypeId) (x : Operand) (ho : o.op = .buildSlice t 1 #[(0, x)]) (hu : P.underlying t = some (.slice T))
    (cs : Array Value) (hx : a.eval x = .agg cs) (hn : cs.size = n) (h : wpList P ops Q rest (a.put o.dst (.slice (some ⟨w.heap.size, 0, none⟩) 1 1)) (w.alloc (.cells cs T))) : wpList P ops Q (o :: rest) a w :=
  wpList_plain hgd fun _ hK => wp_slice1 hT hn0 hn1 t x ho hu cs hx hn (hK _ _ h)
/-- the cells of a block that has just been laid -/
theorem new_cells (w : World) (t : TypeId) (cs : Array Value) : ∀ j v, cs.toList[j]? = some v → (w.alloc (.cells cs t)).cell? ((⟨w.heap.size, 0, none⟩ : Addr).add j) = some v := by
  intro j u hu
  rw [show (⟨w.heap.size, 0, none⟩ : Addr).add j = ⟨w.heap.size, j, none⟩ by unfold Addr.add; split <;> simp_all]
  rw [World.cell?_alloc_mark]
  simpa using hu
theorem blk_cells {w : World} {g : Nat} {t : TypeId} {cs : Array Value} (h : Blk w g t cs) : ∀ j v, cs.toList[j]? = some v → w.cell? ((⟨g, 0, none⟩ : Addr).add j) = some v := by
  intro j u hu
  rw [show (⟨g, 0, none⟩ : Addr).add j = ⟨g, j, none⟩ by unfold Addr.add; split <;> simp_all]
  rw [h.cell]
  simpa using hu
theorem at_cells {w : World} {b o : Nat} {cs : Array Value} (h : ∀ j u, cs.toList[j]? = some u → w.cell? ⟨b, o + j, none⟩ = some u) : ∀ j v, cs.toList[j]? = some v → w.cell? ((⟨b, o, none⟩ : Addr).add j) = some v := by
  intro j u hu
  rw [show (⟨b, o, none⟩ : Addr).add j = ⟨b, o + j, none⟩ by unfold Addr.add; split <;> simp_all]
  exact h j u hu
end
/-! the leaves of a struct -/
def leafT (P : Program) : Nat → TypeId → Nat → Option TypeId
  | 0, _, _ => none
  | m + 1, t, i => match P.underlying t with
    | some .bool | some (.int _) | some .string => if i = 0 then some t else none
    | some (.struct fs) => (fs.toList.find? fun f => decide (f.offset ≤ i) && decide (i < f.offset + P.cellsOf f.type)).bind fun f => leafT P m f.type (i - f.offset)
    | _ => none
section
variable {H : Type} {enc : TypeId × Value → H} {P : Program} {W : World} {base : Nat} {sp : Nat → Bool} {held : Bool}
theorem leaf_of : ∀ (m : Nat) (t : TypeId) (i : Nat) (e : TypeId), leafT P m t i = some e → ∀ (n : Nat) (cs : List Value) (x : DataW H × List MemPlace), DataW.trod enc P W base sp held n t cs = some x →
    ∃ (u : Value) (n' : Nat) (y : DataW H × List MemPlace), cs[i]? = some u ∧ DataW.trod enc P W base sp held n' e [u] = some y
  | 0, _, _, _, h => by simp [leafT] at h
  | m + 1, t, i, e, h => by
    intro n cs x hx
    unfold leafT at h
    cases hu : P.underlying t with
    | none => simp [hu] at h
    | some kd =>
      cases kd
      case bool =>
        simp only [hu] at h
        split at h
        · rename_i h0
          cases h
          obtain ⟨b, rfl, _⟩ := DataW.trod_bool hu hx
          exact ⟨_, n, x, by simp [h0], hx⟩
        · cases h
      case int q =>
        simp only [hu] at h
        split at h
        · rename_i h0
          cases h
          obtain ⟨b, rfl, _⟩ := DataW.trod_int hu hx
          exact ⟨_, n, x, by simp [h0], hx⟩
        · cases h
      case string =>
        simp only [hu] at h
        split at h
        · rename_i h0
          cases h
          obtain ⟨b, rfl, _⟩ := DataW.trod_string hu hx
          exact ⟨_, n, x, by simp [h0], hx⟩
        · cases h
      case struct fs =>
        simp only [hu, Option.bind_eq_some_iff] at h
        obtain ⟨f, hf, hl⟩ := h
        have hin := List.find?_some hf
        have hmem := List.mem_of_find?_eq_some hf
        simp only [Bool.and_eq_true, decide_eq_true_eq] at hin
        obtain ⟨ys, n', _, _, hlen, hyl, hat⟩ := DataW.trod_struct hu hx
        obtain ⟨j, hj, hfj⟩ := List.getElem_of_mem hmem
        have hj2 : j < fs.size := by simpa using hj
        have hfj2 : fs[j]? = some f := by rw [Array.getElem?_eq_getElem hj2]; simpa using hfj
        have h1 := hat j f hfj2
        rw [List.getElem?_eq_getElem (by omega)] at h1
        obtain ⟨u, n2, y, hu2, hy⟩ := leaf_of m f.type (i - f.offset) e hl n' _ _ h1
        refine ⟨u, n2, y, ?_, hy⟩
        rw [List.getElem?_take_of_lt (by omega), List.getElem?_drop] at hu2
        rwa [show f.offset + (i - f.offset) = i by omega] at hu2
      all_goals (simp [hu] at h)
/-- a leaf that is a number -/
theorem leaf_int {m : Nat} {t : TypeId} {i : Nat} {e : TypeId} {k : IntKind} (hl : leafT P m t i = some e) (he : P.underlying e = some (.int k)) {n : Nat} {cs : List Value} {x : DataW H × List MemPlace} (hx : DataW.trod enc P W base sp held n t cs = some x) :
    ∃ z : Int, cs[i]? = some (.int k z) ∧ (Lit.int k z).wf = true := by
  obtain ⟨u, n', y, hu, hy⟩ := leaf_of m t i e hl n cs x hx
  obtain ⟨z, hz, _, hw⟩ := DataW.trod_int he hy
  simp at hz
  subst hz
  exact ⟨z, hu, hw⟩
/-- all cells are leaves -/
def allLeaves (P : Program) (m : Nat) (t : TypeId) (n : Nat) : Bool := (List.range n).all fun i => match leafT P m t i with | some e => P.plainKey e | none => false
theorem one_of_leaf {e : TypeId} {u : Value} {n' : Nat} {y : DataW H × List MemPlace} (hp : P.plainKey e = true) (hy : DataW.trod enc P W base sp held n' e [u] = some y) : u.oneCell' = true := by
  unfold Program.plainKey at hp
  cases hu : P.underlying e with
  | none => simp [hu] at hp
  | some kd =>
    cases kd
    case bool => obtain ⟨b, hb, _⟩ := DataW.trod_bool hu hy; simp at hb; subst hb; rfl
    case int q => obtain ⟨b, hb, _⟩ := DataW.trod_int hu hy; simp at hb; subst hb; rfl
    case string => obtain ⟨b, hb, _⟩ := DataW.trod_string hu hy; simp at hb; subst hb; rfl
    all_goals (simp [hu] at hp)
theorem ones_of {m : Nat} {t : TypeId} {N : Nat} (ha : allLeaves P m t N = true) {n : Nat} {cs : List Value} {x : DataW H × List MemPlace} (hN : cs.length = N) (hx : DataW.trod enc P W base sp held n t cs = some x) : ∀ u ∈ cs, u.oneCell' = true := by
  intro u hu
  obtain ⟨i, hi, rfl⟩ := List.getElem_of_mem hu
  unfold allLeaves at ha
  rw [List.all_eq_true] at ha
  have h1 := ha i (by simp; omega)
  cases hl : leafT P m t i with
  | none => simp [hl] at h1
  | some e =>
    simp only [hl] at h1
    obtain ⟨u, n', y, hu2, hy⟩ := leaf_of m t i e hl n cs x hx
    rw [List.getElem?_eq_getElem hi] at hu2
    injection hu2 with hu2
    rw [hu2]
    exact one_of_leaf h1 hy
end
end Go.Fw
