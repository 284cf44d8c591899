/-
  Queues of strings: First. Condition: none. (Printed by gen_fifos.py out of the queues of numbers.)
-/
import Derived.Test.YtnikpgngaoaiiaaFifoSD
import Derived.Test.YtnikpgngaoaiiaaFifoF
namespace Go.Proofs.Ytnikpgngaoaiiaa
open Go.RowKit Go.Fw Go.Shelf
set_option maxHeartbeats 2000000
set_option maxRecDepth 100000
set_option linter.unusedVariables false
set_option linter.unusedSimpArgs false
attribute [local go_sem] Oper.semAt_some
def FstS (w WA : World) (S : Nat → Prop) (pre : List ByteArray) (W : World) : Prop :=
  (((Boxed W w.heap.size 9 (.string ⟨#[]⟩) ∧ pre = []) ∧ Boxed W (w.heap.size + 1) 4 (.bool false)) ∧ Below w.heap.size w W) ∧ (Same S WA W ∧ WA.heap.size ≤ W.heap.size)
def FstXS (w : World) (c : Code) (pre : List ByteArray) (W : World) : Prop :=
  c = .ret ∧ (((Boxed W w.heap.size 9 (.string (pre.headD ⟨#[]⟩)) ∧ pre.length = 1) ∧ Boxed W (w.heap.size + 1) 4 (.bool true)) ∧ Below w.heap.size w W)
theorem fstS_own {w WA : World} {S : Nat → Prop} (h1 : w.heap.size ≤ WA.heap.size) (hS : ∀ k, S k → k < WA.heap.size) : OwnFrom WA.heap.size (FstS w WA S) :=
  OwnFrom.and (OwnFrom.and (OwnFrom.and (OwnFrom.and (boxed_own _ _ _ fun _ => _) (ownFrom_pure _ _)) (boxed_own _ _ _ fun _ => _)) (ownFrom_below (Nat.le_refl _) h1)) (same_ownT WA hS)
theorem fstXS_own {w WA : World} (h1 : w.heap.size ≤ WA.heap.size) (c : Code) : OwnFrom WA.heap.size (FstXS w c) := fun s W W' row hs hg hr => by
  refine ⟨hs.1, ?_⟩
  exact OwnFrom.and (OwnFrom.and (OwnFrom.and (boxed_own WA.heap.size w.heap.size 9 fun (pre : List ByteArray) => .string (pre.headD ⟨#[]⟩)) (ownFrom_pure _ fun (pre : List ByteArray) => pre.length = 1)) (boxed_own _ (w.heap.size + 1) 4 fun _ => .bool true)) (ownFrom_below (w₀ := w) (Nat.le_refl _) h1) s W W' row hs.2 hg hr
theorem qsfirst_of (pt : Option Addr) (S0 : Nat → Prop) (L : List ByteArray) (w : World) (hS0 : ∀ k, S0 k → k < w.heap.size) (hL : L.length ≤ 100000)
    (hst : SeqStopsK Fence.wide 2 Try.prog 32 #[.pointer (some ⟨w.heap.size + 2, 0, none⟩)] (fun x : ByteArray => #[Value.string x]) (Same (fun k => S0 k ∨ k = w.heap.size + 2)) (fun ys => ys = L) (fun pre => pre <+: L ∧ pre ≠ []) L.length
      (((w.alloc (.cells #[.string ⟨#[]⟩] 9)).alloc (.cells #[.bool false] 4)).alloc (.cells #[.pointer pt] 46))) :
    Calls Try.prog 21 #[.pointer pt] w fun e w' => e = .returned (.tuple #[.string (L.headD ⟨#[]⟩), .bool (decide (0 < L.length))]) ∧ Below w.heap.size w w' := by
  refine (callsIn_wide (n := 3)).1 ?_
  refine callsIn_of_wp_marks Try.func21 rfl trivial ?_ rfl
  simp only [Try.ntmps21, List.size_toArray, List.length_cons, List.length_nil, Nat.reduceAdd, Nat.reduceSub, Array.replicate_succ, Array.replicate_zero, List.push_toArray, List.append_toArray, List.nil_append, List.cons_append]
  gi_wp2
  refine ⟨trivial, (callsIn_wide.2 (qsall_any _ _)).mono ?_⟩
  rintro e w' ⟨rfl, rfl⟩
  gi_wp2
  have bA : Boxed (((w.alloc (.cells #[.string ⟨#[]⟩] 9)).alloc (.cells #[.bool false] 4)).alloc (.cells #[.pointer pt] 46)) w.heap.size 9 (.string ⟨#[]⟩) := ((Boxed.new w 9 (.string ⟨#[]⟩)).alloc _).alloc _
  have bB : Boxed (((w.alloc (.cells #[.string ⟨#[]⟩] 9)).alloc (.cells #[.bool false] 4)).alloc (.cells #[.pointer pt] 46)) (w.heap.size + 1) 4 (.bool false) := by
    have h := (Boxed.new (w.alloc (.cells #[.string ⟨#[]⟩] 9)) 4 (.bool false)).alloc (.cells #[.pointer pt] 46)
    simpa using h
  have hB0 : Below w.heap.size w (((w.alloc (.cells #[.string ⟨#[]⟩] 9)).alloc (.cells #[.bool false] 4)).alloc (.cells #[.pointer pt] 46)) := sub_alloc (sub_alloc (sub_alloc (Below.refl _ w) _) _) _
  have hin : ∀ k, (S0 k ∨ k = w.heap.size + 2) → k < (((w.alloc (.cells #[.string ⟨#[]⟩] 9)).alloc (.cells #[.bool false] 4)).alloc (.cells #[.pointer pt] 46)).heap.size := by
    rintro k (hk | rfl)
    · have := hS0 k hk; simp; omega
    · simp
  have hneS : ∀ k, (S0 k ∨ k = w.heap.size + 2) → k ≠ w.heap.size ∧ k ≠ w.heap.size + 1 := by
    rintro k (hk | rfl)
    · have := hS0 k hk; omega
    · omega
  have hsz : w.heap.size + 3 = (((w.alloc (.cells #[.string ⟨#[]⟩] 9)).alloc (.cells #[.bool false] 4)).alloc (.cells #[.pointer pt] 46)).heap.size := by simp
  have HSZ := Lib.hid hsz
  clear hsz
  generalize hWA : (((w.alloc (.cells #[.string ⟨#[]⟩] 9)).alloc (.cells #[.bool false] 4)).alloc (.cells #[.pointer pt] 46)) = WA at *
  have hwa : w.heap.size ≤ WA.heap.size := by have := HSZ.out; omega
  refine wpIn_rangeFunc_ownG rfl (by decide) (gf := 32) (lb := #[.pointer (some ⟨w.heap.size + 2, 0, none⟩)]) rfl trivial (enters_of Try.func32 (by kernel_rfl) rfl)
    hst (fun h k => h.trans k) (fun W l o o' hl h1 h2 h3 => Same.put hin W l o o' hl h1 h2 h3) (Below.refl _ _) (fun _ => rfl)
    (FstS w WA (fun k => S0 k ∨ k = w.heap.size + 2)) (FstXS w) (fstS_own hwa hin) (fun c => fstXS_own hwa c)
    ⟨⟨⟨⟨bA, rfl⟩, bB⟩, hB0⟩, Same.refl _ _, Nat.le_refl _⟩ ?a1 ?assign ?body ?done ?stop
  case assign =>
    intro l x W K hK
    gi_wp2
    exact hK
  case body =>
    rintro l pre x W ⟨⟨⟨⟨hbx, rfl⟩, hbb⟩, hBl⟩, hSm, hszW⟩ hlt
    have cA := hbx.cell
    have fA := hbx.frozen
    have cB := hbb.cell
    have fB := hbb.frozen
    have hx1 := hbx.set (.string x)
    have hneAB : w.heap.size ≠ w.heap.size + 1 := by omega
    have hxA : Blk (W.setCell ⟨w.heap.size, 0, none⟩ (.string x)) w.heap.size 9 #[.string x] := hx1
    have hxB : Blk W (w.heap.size + 1) 4 #[.bool false] := hbb
    have hA2 := hxA.far (p := ⟨w.heap.size + 1, 0, none⟩) hneAB (.bool true)
    have hB2 := (hxB.far (p := ⟨w.heap.size, 0, none⟩) (Ne.symm hneAB) (.string x)).set_ 0 (.bool true)
    have hbl2 := (hBl.setCell (p := ⟨w.heap.size, 0, none⟩) (Nat.le_refl _) (.string x)).setCell (p := ⟨w.heap.size + 1, 0, none⟩) (Nat.le_succ _) (.bool true)
    have HX := Lib.hid (And.intro hA2 (And.intro hB2 hbl2))
    clear hA2 hB2 hbl2 hx1 hxA hxB
    gi_wp2
    exact ⟨((KeepsOthers.setCell W _ _).from _).trans ((KeepsOthers.setCell _ _ _).from _), rfl, ⟨⟨by show Blk _ _ _ #[_]; simpa using HX.out.1, rfl⟩, by show Blk _ _ _ #[_]; simpa using HX.out.2.1⟩, HX.out.2.2⟩
  case done =>
    rintro D ys W hD rfl ⟨⟨⟨⟨hbx, rfl⟩, hbb⟩, hBl⟩, _, _⟩ hK
    have cA := hbx.cell
    have fA := hbx.frozen
    have cB := hbb.cell
    have fB := hbb.frozen
    have hDs := HSZ.out
    have hneAB : w.heap.size ≠ w.heap.size + 1 := by omega
    have hx1 := hbx.set (.string ⟨#[]⟩)
    have hxA : Blk (W.setCell ⟨w.heap.size, 0, none⟩ (.string ⟨#[]⟩)) w.heap.size 9 #[.string ⟨#[]⟩] := hx1
    have hxB : Blk W (w.heap.size + 1) 4 #[.bool false] := hbb
    have hA2 := hxA.far (p := ⟨w.heap.size + 1, 0, none⟩) hneAB (.bool false)
    have hB2 := (hxB.far (p := ⟨w.heap.size, 0, none⟩) (Ne.symm hneAB) (.string ⟨#[]⟩)).set_ 0 (.bool false)
    have hbl2 := (hBl.setCell (p := ⟨w.heap.size, 0, none⟩) (Nat.le_refl _) (.string ⟨#[]⟩)).setCell (p := ⟨w.heap.size + 1, 0, none⟩) (Nat.le_succ _) (.bool false)
    have hK2 : ((W.setCell ⟨w.heap.size, 0, none⟩ (.string ⟨#[]⟩)).setCell ⟨w.heap.size + 1, 0, none⟩ (.bool false)).heap[D]? = some (.deferred (some [])) := ((Below.heap_setCell _ ⟨w.heap.size + 1, 0, none⟩ _ D (by show D ≠ w.heap.size + 1; omega)).trans (Below.heap_setCell W ⟨w.heap.size, 0, none⟩ _ D (by show D ≠ w.heap.size; omega))).trans hK
    generalize hW2 : ((W.setCell ⟨w.heap.size, 0, none⟩ (.string ⟨#[]⟩)).setCell ⟨w.heap.size + 1, 0, none⟩ (.bool false)) = W2 at *
    have hA3 : Blk (W2.putObj D (.deferred none)) w.heap.size 9 #[.string ⟨#[]⟩] := (World.putObj_heap_other (by omega)).trans (show Blk W2 w.heap.size 9 #[.string ⟨#[]⟩] from hA2)
    have hB3 : Blk (W2.putObj D (.deferred none)) (w.heap.size + 1) 4 #[.bool false] := (World.putObj_heap_other (by omega)).trans (show Blk W2 (w.heap.size + 1) 4 #[.bool false] by simpa using hB2)
    have z0 := hA3.cell 0
    have z1 := hB3.cell 0
    simp at z0 z1
    have hbw3 := hbl2.trans (belowK_b (w := w) (Nat.le_refl _) _ D _ (.deferred none) (by omega) hK2 rfl rfl)
    have HF := Lib.hid (And.intro hK2 (And.intro z0 (And.intro z1 (And.intro hbw3 hW2))))
    clear hA2 hB2 hA3 hB3 z0 z1 hbl2 hK2 hbw3 hDs hW2 hx1 hxA hxB
    gi_wp2
    rw [HF.out.2.2.2.2]
    refine ⟨by simp, .inl ⟨_, _, rfl, run_takeDeferred HF.out.1, ?_⟩⟩
    have z0 := HF.out.2.1
    have z1 := HF.out.2.2.1
    exact ⟨.tuple #[.string ⟨#[]⟩, .bool false], by simp [results, Try.results21, go_sem, z0, z1], by simp, HF.out.2.2.2.1⟩
  case stop =>
    rintro D c pre W hD ⟨hS1, _⟩ ⟨rfl, ⟨⟨hbx, h1⟩, hbb⟩, hBl⟩ hK
    have hDs := HSZ.out
    have hA3 : Blk (W.putObj D (.deferred none)) w.heap.size 9 #[.string (pre.headD ⟨#[]⟩)] := (World.putObj_heap_other (by omega)).trans (show Blk W w.heap.size 9 #[.string (pre.headD ⟨#[]⟩)] from hbx)
    have hB3 : Blk (W.putObj D (.deferred none)) (w.heap.size + 1) 4 #[.bool true] := (World.putObj_heap_other (by omega)).trans (show Blk W (w.heap.size + 1) 4 #[.bool true] from hbb)
    have hbw3 := hBl.trans (belowK_b (w := w) (Nat.le_refl _) _ D _ (.deferred none) (by omega) hK rfl rfl)
    have hfin : pre.headD ⟨#[]⟩ = L.headD ⟨#[]⟩ ∧ 0 < L.length := by
      obtain ⟨r, rfl⟩ := hS1
      cases pre with
      | nil => simp at h1
      | cons y t => simp
    rw [hfin.1] at hA3
    have z0 := hA3.cell 0
    have z1 := hB3.cell 0
    simp at z0 z1
    clear hDs hA3 hB3
    gi_wp2
    refine ⟨by simp, .inl ⟨_, _, rfl, run_takeDeferred hK, ?_⟩⟩
    exact ⟨.tuple #[.string (L.headD ⟨#[]⟩), .bool true], by simp [results, Try.results21, go_sem, z0, z1], by simp [hfin.2], hbw3⟩
theorem qsfirst_any (p B : Nat) (S : Nat → Prop) (L : List ByteArray) (w : World) (h : QSHas w p B S L) (hl : L.length ≤ 100000) :
    Calls Try.prog 21 #[.pointer (some ⟨p, 0, none⟩)] w fun e w' => e = .returned (.tuple #[.string (L.headD ⟨#[]⟩), .bool (decide (0 < L.length))]) ∧ Below w.heap.size w w' := by
  obtain ⟨vf, vb, f, b, hq, rfl, rfl⟩ := h
  have hb := sub_alloc (sub_alloc (sub_alloc (Below.refl _ w) (.cells #[.string ⟨#[]⟩] 9)) (.cells #[.bool false] 4)) (.cells #[.pointer (some ⟨p, 0, none⟩)] 46)
  exact qsfirst_of _ (QBl p vf vb) _ w hq.lt hl (qsstops 2 (by decide) (w.heap.size + 2) p B 46 vf vb f b _ (Blk.new_at _ _ _ (by simp)) (hq.up hb) hl)
theorem qsfirst_nil (w : World) :
    Calls Try.prog 21 #[.pointer none] w fun e w' => e = .returned (.tuple #[.string ⟨#[]⟩, .bool false]) ∧ Below w.heap.size w w' :=
  qsfirst_of none (fun _ => False) [] w (fun _ h => h.elim) (by simp) (qsstops_nil 2 (by decide) _ 46 _ _ (Blk.new_at _ _ _ (by simp)))
end Go.Proofs.Ytnikpgngaoaiiaa
