/-
  Queues of numbers: First. Condition: none.
-/
import Derived.Test.YtnikpgngaoaiiaaFifoD
namespace Go.Proofs.Ytnikpgngaoaiiaa
open Go.RowKit Go.Shelf Go.Fw
set_option maxHeartbeats 2000000
set_option maxRecDepth 100000
set_option linter.unusedVariables false
set_option linter.unusedSimpArgs false
attribute [local go_sem] Oper.semAt_some
theorem boxed_own {β : Type} (B Bn : Nat) (t : TypeId) (f : β → Value) : OwnFrom B (fun (s : β) W => Boxed W Bn t (f s)) := fun s W W' row hs hg hr => hs.kept hg fun e => by
  obtain ⟨_, o, ho, hc⟩ := hr Bn e.symm
  have h2 := ho.symm.trans hs
  cases h2
  simp [Obj.isCells] at hc
def FstI (w WA : World) (S : Nat → Prop) (pre : List Int) (W : World) : Prop :=
  (((Boxed W w.heap.size 3 (.int .i64 0) ∧ pre = []) ∧ Boxed W (w.heap.size + 1) 4 (.bool false)) ∧ Below w.heap.size w W) ∧ (Same S WA W ∧ WA.heap.size ≤ W.heap.size)
def FstX (w : World) (c : Code) (pre : List Int) (W : World) : Prop :=
  c = .ret ∧ (((Boxed W w.heap.size 3 (.int .i64 (pre.headD 0)) ∧ pre.length = 1) ∧ Boxed W (w.heap.size + 1) 4 (.bool true)) ∧ Below w.heap.size w W)
theorem fstI_own {w WA : World} {S : Nat → Prop} (h1 : w.heap.size ≤ WA.heap.size) (hS : ∀ k, S k → k < WA.heap.size) : OwnFrom WA.heap.size (FstI w WA S) :=
  OwnFrom.and (OwnFrom.and (OwnFrom.and (OwnFrom.and (boxed_own _ _ _ fun _ => _) (ownFrom_pure _ _)) (boxed_own _ _ _ fun _ => _)) (ownFrom_below (Nat.le_refl _) h1)) (same_ownT WA hS)
theorem fstX_own {w WA : World} (h1 : w.heap.size ≤ WA.heap.size) (c : Code) : OwnFrom WA.heap.size (FstX w c) := fun s W W' row hs hg hr => by
  refine ⟨hs.1, ?_⟩
  exact OwnFrom.and (OwnFrom.and (OwnFrom.and (boxed_own WA.heap.size w.heap.size 3 fun (pre : List Int) => .int .i64 (pre.headD 0)) (ownFrom_pure _ fun (pre : List Int) => pre.length = 1)) (boxed_own _ (w.heap.size + 1) 4 fun _ => .bool true)) (ownFrom_below (w₀ := w) (Nat.le_refl _) h1) s W W' row hs.2 hg hr
theorem qifirst_of (pt : Option Addr) (S0 : Nat → Prop) (L : List Int) (w : World) (hS0 : ∀ k, S0 k → k < w.heap.size) (hL : L.length ≤ 100000)
    (hst : SeqStopsK Fence.wide 2 Try.prog 36 #[.pointer (some ⟨w.heap.size + 2, 0, none⟩)] (fun x : Int => #[Value.int .i64 x]) (Same (fun k => S0 k ∨ k = w.heap.size + 2)) (fun ys => ys = L) (fun pre => pre <+: L ∧ pre ≠ []) L.length
      (((w.alloc (.cells #[.int .i64 0] 3)).alloc (.cells #[.bool false] 4)).alloc (.cells #[.pointer pt] 50))) :
    Calls Try.prog 10 #[.pointer pt] w fun e w' => e = .returned (.tuple #[.int .i64 (L.headD 0), .bool (decide (0 < L.length))]) ∧ Below w.heap.size w w' := by
  refine (callsIn_wide (n := 3)).1 ?_
  refine callsIn_of_wp_marks Try.func10 rfl trivial ?_ rfl
  simp only [Try.ntmps10, List.size_toArray, List.length_cons, List.length_nil, Nat.reduceAdd, Nat.reduceSub, Array.replicate_succ, Array.replicate_zero, List.push_toArray, List.append_toArray, List.nil_append, List.cons_append]
  gi_wp2
  refine ⟨trivial, (callsIn_wide.2 (qiall_any _ _)).mono ?_⟩
  rintro e w' ⟨rfl, rfl⟩
  gi_wp2
  have bA : Boxed (((w.alloc (.cells #[.int .i64 0] 3)).alloc (.cells #[.bool false] 4)).alloc (.cells #[.pointer pt] 50)) w.heap.size 3 (.int .i64 0) := ((Boxed.new w 3 (.int .i64 0)).alloc _).alloc _
  have bB : Boxed (((w.alloc (.cells #[.int .i64 0] 3)).alloc (.cells #[.bool false] 4)).alloc (.cells #[.pointer pt] 50)) (w.heap.size + 1) 4 (.bool false) := by
    have h := (Boxed.new (w.alloc (.cells #[.int .i64 0] 3)) 4 (.bool false)).alloc (.cells #[.pointer pt] 50)
    simpa using h
  have hB0 : Below w.heap.size w (((w.alloc (.cells #[.int .i64 0] 3)).alloc (.cells #[.bool false] 4)).alloc (.cells #[.pointer pt] 50)) := sub_alloc (sub_alloc (sub_alloc (Below.refl _ w) _) _) _
  have hin : ∀ k, (S0 k ∨ k = w.heap.size + 2) → k < (((w.alloc (.cells #[.int .i64 0] 3)).alloc (.cells #[.bool false] 4)).alloc (.cells #[.pointer pt] 50)).heap.size := by
    rintro k (hk | rfl)
    · have := hS0 k hk; simp; omega
    · simp
  have hneS : ∀ k, (S0 k ∨ k = w.heap.size + 2) → k ≠ w.heap.size ∧ k ≠ w.heap.size + 1 := by
    rintro k (hk | rfl)
    · have := hS0 k hk; omega
    · omega
  have hsz : w.heap.size + 3 = (((w.alloc (.cells #[.int .i64 0] 3)).alloc (.cells #[.bool false] 4)).alloc (.cells #[.pointer pt] 50)).heap.size := by simp
  have HSZ := Lib.hid hsz
  clear hsz
  generalize hWA : (((w.alloc (.cells #[.int .i64 0] 3)).alloc (.cells #[.bool false] 4)).alloc (.cells #[.pointer pt] 50)) = WA at *
  have hwa : w.heap.size ≤ WA.heap.size := by have := HSZ.out; omega
  refine wpIn_rangeFunc_ownG rfl (by decide) (gf := 36) (lb := #[.pointer (some ⟨w.heap.size + 2, 0, none⟩)]) rfl trivial (enters_of Try.func36 (by kernel_rfl) rfl)
    hst (fun h k => h.trans k) (fun W l o o' hl h1 h2 h3 => Same.put hin W l o o' hl h1 h2 h3) (Below.refl _ _) (fun _ => rfl)
    (FstI w WA (fun k => S0 k ∨ k = w.heap.size + 2)) (FstX w) (fstI_own hwa hin) (fun c => fstX_own hwa c)
    ⟨⟨⟨⟨bA, rfl⟩, bB⟩, hB0⟩, Same.refl _ _, Nat.le_refl _⟩ ?a1 ?assign ?body ?done ?stop
  case assign =>
    intro l x W K hK
    gi_wp2
    exact hK
  case body =>
    rintro l pre x W ⟨⟨⟨⟨hbx, rfl⟩, hbb⟩, hBl⟩, hSm, hszW⟩ hlt
    have cA := hbx.cell
    have fA := hbx.frozen
    have cB := hbb.cell
    have fB := hbb.frozen
    have hx1 := hbx.set (.int .i64 x)
    have hneAB : w.heap.size ≠ w.heap.size + 1 := by omega
    have hxA : Blk (W.setCell ⟨w.heap.size, 0, none⟩ (.int .i64 x)) w.heap.size 3 #[.int .i64 x] := hx1
    have hxB : Blk W (w.heap.size + 1) 4 #[.bool false] := hbb
    have hA2 := hxA.far (p := ⟨w.heap.size + 1, 0, none⟩) hneAB (.bool true)
    have hB2 := (hxB.far (p := ⟨w.heap.size, 0, none⟩) (Ne.symm hneAB) (.int .i64 x)).set_ 0 (.bool true)
    have hbl2 := (hBl.setCell (p := ⟨w.heap.size, 0, none⟩) (Nat.le_refl _) (.int .i64 x)).setCell (p := ⟨w.heap.size + 1, 0, none⟩) (Nat.le_succ _) (.bool true)
    have HX := Lib.hid (And.intro hA2 (And.intro hB2 hbl2))
    clear hA2 hB2 hbl2 hx1 hxA hxB
    gi_wp2
    exact ⟨((KeepsOthers.setCell W _ _).from _).trans ((KeepsOthers.setCell _ _ _).from _), rfl, ⟨⟨by show Blk _ _ _ #[_]; simpa using HX.out.1, rfl⟩, by show Blk _ _ _ #[_]; simpa using HX.out.2.1⟩, HX.out.2.2⟩
  case done =>
    rintro D ys W hD rfl ⟨⟨⟨⟨hbx, rfl⟩, hbb⟩, hBl⟩, _, _⟩ hK
    have cA := hbx.cell
    have fA := hbx.frozen
    have cB := hbb.cell
    have fB := hbb.frozen
    have hDs := HSZ.out
    have hneAB : w.heap.size ≠ w.heap.size + 1 := by omega
    have hx1 := hbx.set (.int .i64 0)
    have hxA : Blk (W.setCell ⟨w.heap.size, 0, none⟩ (.int .i64 0)) w.heap.size 3 #[.int .i64 0] := hx1
    have hxB : Blk W (w.heap.size + 1) 4 #[.bool false] := hbb
    have hA2 := hxA.far (p := ⟨w.heap.size + 1, 0, none⟩) hneAB (.bool false)
    have hB2 := (hxB.far (p := ⟨w.heap.size, 0, none⟩) (Ne.symm hneAB) (.int .i64 0)).set_ 0 (.bool false)
    have hbl2 := (hBl.setCell (p := ⟨w.heap.size, 0, none⟩) (Nat.le_refl _) (.int .i64 0)).setCell (p := ⟨w.heap.size + 1, 0, none⟩) (Nat.le_succ _) (.bool false)
    have hK2 : ((W.setCell ⟨w.heap.size, 0, none⟩ (.int .i64 0)).setCell ⟨w.heap.size + 1, 0, none⟩ (.bool false)).heap[D]? = some (.deferred (some [])) := ((Below.heap_setCell _ ⟨w.heap.size + 1, 0, none⟩ _ D (by show D ≠ w.heap.size + 1; omega)).trans (Below.heap_setCell W ⟨w.heap.size, 0, none⟩ _ D (by show D ≠ w.heap.size; omega))).trans hK
    generalize hW2 : ((W.setCell ⟨w.heap.size, 0, none⟩ (.int .i64 0)).setCell ⟨w.heap.size + 1, 0, none⟩ (.bool false)) = W2 at *
    have hA3 : Blk (W2.putObj D (.deferred none)) w.heap.size 3 #[.int .i64 0] := (World.putObj_heap_other (by omega)).trans (show Blk W2 w.heap.size 3 #[.int .i64 0] from hA2)
    have hB3 : Blk (W2.putObj D (.deferred none)) (w.heap.size + 1) 4 #[.bool false] := (World.putObj_heap_other (by omega)).trans (show Blk W2 (w.heap.size + 1) 4 #[.bool false] by simpa using hB2)
    have z0 := hA3.cell 0
    have z1 := hB3.cell 0
    simp at z0 z1
    have hbw3 := hbl2.trans (belowK_b (w := w) (Nat.le_refl _) _ D _ (.deferred none) (by omega) hK2 rfl rfl)
    have HF := Lib.hid (And.intro hK2 (And.intro z0 (And.intro z1 (And.intro hbw3 hW2))))
    clear hA2 hB2 hA3 hB3 z0 z1 hbl2 hK2 hbw3 hDs hW2 hx1 hxA hxB
    gi_wp2
    rw [HF.out.2.2.2.2]
    refine ⟨by simp, .inl ⟨_, _, rfl, run_takeDeferred HF.out.1, ?_⟩⟩
    have z0 := HF.out.2.1
    have z1 := HF.out.2.2.1
    exact ⟨.tuple #[.int .i64 0, .bool false], by simp [results, Try.results10, go_sem, z0, z1], by simp, HF.out.2.2.2.1⟩
  case stop =>
    rintro D c pre W hD ⟨hS1, _⟩ ⟨rfl, ⟨⟨hbx, h1⟩, hbb⟩, hBl⟩ hK
    have hDs := HSZ.out
    have hA3 : Blk (W.putObj D (.deferred none)) w.heap.size 3 #[.int .i64 (pre.headD 0)] := (World.putObj_heap_other (by omega)).trans (show Blk W w.heap.size 3 #[.int .i64 (pre.headD 0)] from hbx)
    have hB3 : Blk (W.putObj D (.deferred none)) (w.heap.size + 1) 4 #[.bool true] := (World.putObj_heap_other (by omega)).trans (show Blk W (w.heap.size + 1) 4 #[.bool true] from hbb)
    have hbw3 := hBl.trans (belowK_b (w := w) (Nat.le_refl _) _ D _ (.deferred none) (by omega) hK rfl rfl)
    have hfin : pre.headD 0 = L.headD 0 ∧ 0 < L.length := by
      obtain ⟨r, rfl⟩ := hS1
      cases pre with
      | nil => simp at h1
      | cons y t => simp
    rw [hfin.1] at hA3
    have z0 := hA3.cell 0
    have z1 := hB3.cell 0
    simp at z0 z1
    clear hDs hA3 hB3
    gi_wp2
    refine ⟨by simp, .inl ⟨_, _, rfl, run_takeDeferred hK, ?_⟩⟩
    exact ⟨.tuple #[.int .i64 (L.headD 0), .bool true], by simp [results, Try.results10, go_sem, z0, z1], by simp [hfin.2], hbw3⟩
theorem qifirst_any (p B : Nat) (S : Nat → Prop) (L : List Int) (w : World) (h : QIHas w p B S L) (hl : L.length ≤ 100000) :
    Calls Try.prog 10 #[.pointer (some ⟨p, 0, none⟩)] w fun e w' => e = .returned (.tuple #[.int .i64 (L.headD 0), .bool (decide (0 < L.length))]) ∧ Below w.heap.size w w' := by
  obtain ⟨vf, vb, f, b, hq, rfl, rfl⟩ := h
  have hb := sub_alloc (sub_alloc (sub_alloc (Below.refl _ w) (.cells #[.int .i64 0] 3)) (.cells #[.bool false] 4)) (.cells #[.pointer (some ⟨p, 0, none⟩)] 50)
  exact qifirst_of _ (QBl p vf vb) _ w hq.lt hl (qistops 2 (by decide) (w.heap.size + 2) p B 50 vf vb f b _ (Blk.new_at _ _ _ (by simp)) (hq.up hb) hl)
theorem qifirst_nil (w : World) :
    Calls Try.prog 10 #[.pointer none] w fun e w' => e = .returned (.tuple #[.int .i64 0, .bool false]) ∧ Below w.heap.size w w' :=
  qifirst_of none (fun _ => False) [] w (fun _ h => h.elim) (by simp) (qistops_nil 2 (by decide) _ 50 _ _ (Blk.new_at _ _ _ (by simp)))
end Go.Proofs.Ytnikpgngaoaiiaa
