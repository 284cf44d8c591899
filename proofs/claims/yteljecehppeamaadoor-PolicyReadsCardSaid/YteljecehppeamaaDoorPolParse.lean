/-
  policy.Parse, walked (chapter 12). Conditions: strconv's table and errors lie in memory, and a number in internal/bytealg.MaxLen; texts of few bytes.
-/
import Derived.Test.YteljecehppeamaaDoorPolRead
import Derived.Test.YteljecehppeamaaDoorStrconvP
import Derived.Test.YteljecehppeamaaDoorPolTextW
namespace Go.Fw
open Go.RowKit
/-- six cells: the numbers so far, zeros behind them -/
def numC (vs : List Int) : Array Value := ((vs ++ List.replicate (6 - vs.length) 0).map (Value.int .i64)).toArray
theorem numC_get {vs : List Int} {k : Nat} (hk : vs.length = k) (h6 : k < 6) : (numC vs)[k]? = some (.int .i64 0) := by
  unfold numC
  obtain ⟨m, hm⟩ : ∃ m, 6 - k = m + 1 := ⟨5 - k, by omega⟩
  rw [hk, hm, List.replicate_succ]
  simp [hk]
theorem numC_set {vs : List Int} {k : Nat} (v : Int) (hk : vs.length = k) (h6 : k < 6) : (numC vs).setIfInBounds k (.int .i64 v) = numC (vs ++ [v]) := by
  unfold numC
  obtain ⟨m, hm⟩ : ∃ m, 6 - k = m + 1 := ⟨5 - k, by omega⟩
  have e2 : 6 - (vs ++ [v]).length = m := by simp; omega
  rw [e2, hk, hm, List.replicate_succ, List.setIfInBounds_toArray, ← List.map_set]
  congr 2
  rw [List.set_append]
  simp [hk]
def set6 (W : World) (b : Nat) (v0 v1 v2 v3 v4 v5 : Value) : World :=
  (((((W.setCell ⟨b, 0, none⟩ v0).setCell ⟨b, 1, none⟩ v1).setCell ⟨b, 2, none⟩ v2).setCell ⟨b, 3, none⟩ v3).setCell ⟨b, 4, none⟩ v4).setCell ⟨b, 5, none⟩ v5
theorem set6_blk {W : World} {b : Nat} {t : TypeId} {u0 u1 u2 u3 u4 u5 : Value} (h : Blk W b t #[u0, u1, u2, u3, u4, u5]) (v0 v1 v2 v3 v4 v5 : Value) : Blk (set6 W b v0 v1 v2 v3 v4 v5) b t #[v0, v1, v2, v3, v4, v5] := by
  have := (((((h.set_ 0 v0).set_ 1 v1).set_ 2 v2).set_ 3 v3).set_ 4 v4).set_ 5 v5
  simpa [set6] using this
theorem set6_below {w W : World} {b B : Nat} (h : Below B w W) (hb : B ≤ b) (v0 v1 v2 v3 v4 v5 : Value) : Below B w (set6 W b v0 v1 v2 v3 v4 v5) :=
  (((((h.setCell (p := ⟨b, 0, none⟩) hb v0).setCell (p := ⟨b, 1, none⟩) hb v1).setCell (p := ⟨b, 2, none⟩) hb v2).setCell (p := ⟨b, 3, none⟩) hb v3).setCell (p := ⟨b, 4, none⟩) hb v4).setCell (p := ⟨b, 5, none⟩) hb v5
theorem toList_neB {a b : ByteArray} (h : ¬ a = b) : (a.toList == b.toList) = false := by
  rw [beq_eq_false_iff_ne]
  intro e
  rw [ByteArray.toList_eq, ByteArray.toList_eq] at e
  exact h (Go.WideShapes.bytes_inj e)
end Go.Fw
namespace Go.Proofs.YteljecehppeamaaDoor
open Go.RowKit Go.Fw Go.Shelf
set_option maxHeartbeats 2000000
set_option maxRecDepth 100000
set_option linter.unusedVariables false
set_option linter.unusedSimpArgs false
/-- what Parse tells -/
def PolPost (s : ByteArray) (w : World) (x : Ending) (w' : World) : Prop :=
  Below w.heap.size w w' ∧ ((∃ a b c d e f, In6 a b c d e f ∧ polB a b c d e f = s ∧
      ((RightP a b c d e f ∧ x = .returned (.tuple #[.agg #[.int .i64 a, .int .i64 b, .int .i64 c, .int .i64 d, .int .i64 e, .int .i64 f], .int .i64 0])) ∨
       (¬ RightP a b c d e f ∧ x = .returned (.tuple #[.agg #[.int .i64 0, .int .i64 0, .int .i64 0, .int .i64 0, .int .i64 0, .int .i64 0], .int .i64 7])))) ∨
    (NoPol s ∧ x = .returned (.tuple #[.agg #[.int .i64 0, .int .i64 0, .int .i64 0, .int .i64 0, .int .i64 0, .int .i64 0], .int .i64 10])))
theorem nums_neq (a b c d e f : Int) (w : World) : (binOp .neq 52 (.agg #[.int .i64 a, .int .i64 b, .int .i64 c, .int .i64 d, .int .i64 e, .int .i64 f]) (.agg #[.int .i64 a, .int .i64 b, .int .i64 c, .int .i64 d, .int .i64 e, .int .i64 f])).run Tryd.prog w = .ok (.bool false) w := by
  obtain ⟨i, hi⟩ := info_of_underlying Tryd.underlying2
  have hC : Tryd.prog.cellsOf 2 = 1 := by kernel_rfl
  simp only [binOp, Op.equal, Op.maxDepth, Sem.run_bind]
  rw [run_equalIn_array w 9999 _ _ Tryd.underlying52 hi, hC]
  simp [Op.eqItems, List.range, List.range.loop, go_sem, Tryd.underlying2]
theorem pparse_len (s : ByteArray) (hs : s.size ≤ 1000) (w : World) (hR : Ready w) (hl : (wordsB 32 s).length ≠ 12) :
    Calls Tryd.prog 14 #[.string s] w (PolPost s w) := by
  have HNO := Lib.hid (noPol_len hl)
  have hlb := wordsB_len 32 s
  have hlI : (((wordsB 32 s).length : Int) != 12) = true := by
    rw [bne_iff_ne]
    omega
  have HS := Lib.hid (fun W hM => split_any 32 s (by omega) W hM)
  have HR := Lib.hid hR
  clear hR
  generalize wordsB 32 s = L at *
  go_enter Tryd.func14, Tryd.ntmps14
  have h1 := sub_alloc (Below.refl w.heap.size w) (.cells #[.int .i64 0, .int .i64 0, .int .i64 0, .int .i64 0, .int .i64 0, .int .i64 0] 23)
  have H1 := Lib.hid h1
  clear h1
  go_wp2_with fail
  refine (HS.out _ (HR.out.up H1.out).max).mono ?_
  rintro x w1 ⟨rfl, rfl⟩
  go_wp2
  have hb := sub_alloc (sub_alloc H1.out (.cells (L.map Value.string).toArray 9)) (.cells #[.int .i64 0, .int .i64 0, .int .i64 0, .int .i64 0, .int .i64 0, .int .i64 0] 52)
  exact bodyPost_ret (v := .tuple #[.agg #[.int .i64 0, .int .i64 0, .int .i64 0, .int .i64 0, .int .i64 0, .int .i64 0], .int .i64 10]) (by simp [results, Tryd.results14, go_sem]) rfl ⟨hb, .inr ⟨HNO.out, rfl⟩⟩
theorem pparse_some (s : ByteArray) (hs : s.size ≤ 1000) (w : World) (hR : Ready w) (hl : (wordsB 32 s).length = 12) :
    Calls Tryd.prog 14 #[.string s] w (PolPost s w) := by
  have HS := Lib.hid (fun W hM => split_any 32 s (by omega) W hM)
  have HR := Lib.hid hR
  have HSZ : Hid (∀ k, k < 12 → ((wordsB 32 s).getD k ByteArray.empty).size ≤ 1000) := Lib.hid fun k hk => by
    rw [List.getD_eq_getElem?_getD, List.getElem?_eq_getElem (by omega)]
    have := wordsB_sizes (List.getElem_mem (l := wordsB 32 s) (n := k) (by omega))
    simp only [Option.getD_some]
    omega
  have HRO : Hid (∀ k vs, ReadK s k vs → k ≤ 6 → vs.length = k) := Lib.hid fun k vs h _ => h.1
  have HNN : Hid (∀ k, k < 6 → (∀ v, Lib.atoiAll ((wordsB 32 s).getD (2 * k + 1) ByteArray.empty).data.toList ≠ .ok v) → NoPol s) := Lib.hid fun k hk h => noPol_num hk h
  have HNM : Hid (∀ k, k < 6 → (wordsB 32 s).getD (2 * k) ByteArray.empty ≠ nmB k → NoPol s) := Lib.hid fun k hk h => noPol_name hk h
  have HRS : Hid (∀ k vs v, ReadK s k vs → Lib.atoiAll ((wordsB 32 s).getD (2 * k + 1) ByteArray.empty).data.toList = .ok v → ReadK s (k + 1) (vs ++ [v])) := Lib.hid fun k vs v h hv => h.snoc hv
  clear hR
  generalize wordsB 32 s = L at *
  rw [hl] at HS
  have HL := Lib.hid hl
  clear hl
  go_enter Tryd.func14, Tryd.ntmps14
  have h1 := sub_alloc (Below.refl w.heap.size w) (.cells #[.int .i64 0, .int .i64 0, .int .i64 0, .int .i64 0, .int .i64 0, .int .i64 0] 23)
  have H1 := Lib.hid h1
  clear h1
  go_wp2_with fail
  refine (HS.out _ (HR.out.up H1.out).max).mono ?_
  rintro x w1 ⟨rfl, rfl⟩
  go_wp2
  simp only [Nat.add_assoc, Nat.reduceAdd]
  obtain ⟨WA, hWA⟩ : ∃ WA, ((w.alloc (.cells #[.int .i64 0, .int .i64 0, .int .i64 0, .int .i64 0, .int .i64 0, .int .i64 0] 23)).alloc (.cells (L.map Value.string).toArray 9)).alloc (.cells #[.int .i64 0, .int .i64 0, .int .i64 0, .int .i64 0, .int .i64 0, .int .i64 0] 52) = WA := ⟨_, rfl⟩
  have hsz : WA.heap.size = w.heap.size + 3 := by rw [← hWA]; simp
  have b0 : Blk WA w.heap.size 23 #[.int .i64 0, .int .i64 0, .int .i64 0, .int .i64 0, .int .i64 0, .int .i64 0] := by rw [← hWA]; exact ((Blk.new_at w 23 #[.int .i64 0, .int .i64 0, .int .i64 0, .int .i64 0, .int .i64 0, .int .i64 0] rfl).alloc _).alloc _
  have b1 : Blk WA (w.heap.size + 1) 9 (L.map Value.string).toArray := by rw [← hWA]; exact (Blk.new_at _ 9 _ (by simp)).alloc _
  have b2 : Blk WA (w.heap.size + 2) 52 #[.int .i64 0, .int .i64 0, .int .i64 0, .int .i64 0, .int .i64 0, .int .i64 0] := by rw [← hWA]; exact Blk.new_at _ 52 _ (by simp)
  have hbA : Below w.heap.size w WA := by rw [← hWA]; exact sub_alloc (sub_alloc H1.out _) _
  rw [hWA]
  have HB := Lib.hid (And.intro b0 (And.intro b1 (And.intro b2 (And.intro hbA hsz))))
  clear hWA b0 b1 b2 hbA hsz
  go_loopw [17] (fun i wr => ∃ (k : Nat) (vs : List Int), k ≤ 6 ∧ i = .int .i64 k ∧ ReadK s k vs ∧ Blk wr (w.heap.size + 2) 52 (numC vs) ∧ Below (w.heap.size + 2) WA wr)
    (fun i _ => 6 - (intOf i).toNat)
  case atStart => exact ⟨0, [], Nat.zero_le _, rfl, ReadK.nil_ s, HB.out.2.2.1, Below.refl _ _⟩
  case round =>
    obtain ⟨k, vs, hk, rfl, hRK, hA, hbW⟩ := hrel
    by_cases hlt : k < 6
    · have hvl := HRO.out k vs hRK (by omega)
      have HRK := Lib.hid hRK
      have HA := Lib.hid hA
      have hb0 : Blk wr w.heap.size 23 #[.int .i64 0, .int .i64 0, .int .i64 0, .int .i64 0, .int .i64 0, .int .i64 0] := (hbW.block _ (by omega)).trans HB.out.1
      have hb1 : Blk wr (w.heap.size + 1) 9 (L.map Value.string).toArray := (hbW.block _ (by omega)).trans HB.out.2.1
      have hwd : ∀ j, j < 12 → wr.cell? ⟨w.heap.size + 1, j, none⟩ = some (.string (L.getD j ByteArray.empty)) := fun j hj => by
        have hjl : j < L.length := by rw [HL.out]; exact hj
        have := hb1.cell j
        rw [this]
        simp [List.getD_eq_getElem?_getD, List.getElem?_eq_getElem hjl]
      have hwA : Below w.heap.size w wr := HB.out.2.2.2.1.trans (hbW.mono (by omega))
      have HC0 := Lib.hid hb0
      have HC1 := Lib.hid hwd
      have hc1 := hwd (2 * k + 1) (by omega)
      have HBW := Lib.hid (And.intro hbW hwA)
      have hi2 : ∀ W, (Instr.index 59 (.agg #[.string ⟨#[109, 105, 110]⟩, .string ⟨#[109, 97, 120]⟩, .string ⟨#[116, 97, 114, 103, 101, 116]⟩, .string ⟨#[116, 111, 108, 101, 114, 97, 110, 99, 101]⟩, .string ⟨#[119, 105, 110, 100, 111, 119]⟩, .string ⟨#[104, 111, 108, 100]⟩]) (.int .i64 (k : Int))).run Tryd.prog W = .ok (.string (nmB k)) W := fun W => idx_name _ _ k W hlt (by
        have hor : k = 0 ∨ k = 1 ∨ k = 2 ∨ k = 3 ∨ k = 4 ∨ k = 5 := by omega
        rcases hor with rfl | rfl | rfl | rfl | rfl | rfl <;> rfl)
      have HI2 := Lib.hid hi2
      clear hRK hA hb0 hb1 hwd hbW hwA hi2
      have HN1 := Lib.hid (fun h => HNN.out k hlt h)
      have HN0 := Lib.hid (fun h => HNM.out k hlt h)
      have HRV := Lib.hid (fun v h => HRS.out k vs v HRK.out h)
      have HZ1 := Lib.hid (HSZ.out (2 * k + 1) (by omega))
      have HC1k := Lib.hid (HC1.out (2 * k) (by omega))
      clear HNN HNM HRS HSZ HC1
      generalize L.getD (2 * k + 1) ByteArray.empty = x1 at *
      generalize L.getD (2 * k) ByteArray.empty = x0 at *
      have hw1 : IntKind.i64.wrap (2 * (k : Int)) = 2 * (k : Int) := IntWalk.i64_in _ ⟨by omega, by omega⟩
      have hw2 : IntKind.i64.wrap (2 * (k : Int) + 1) = 2 * (k : Int) + 1 := IntWalk.i64_in _ ⟨by omega, by omega⟩
      have hn1 : (2 * (k : Int) + 1).toNat = 2 * k + 1 := by omega
      have hn2 : (2 * (k : Int)).toNat = 2 * k := by omega
      have hk0 : 0 ≤ 2 * (k : Int) := by omega
      have hk1 : 0 ≤ 2 * (k : Int) + 1 := by omega
      have hk2 : 2 * (k : Int) + 1 < 12 := by omega
      have hk3 : 2 * (k : Int) < 12 := by omega
      have HPI := Lib.hid (pint_any x1 (by have := HZ1.out; omega) wr (HR.out.up HBW.out.2).tabs)
      go_wp2_with fail
      refine HPI.out.mono ?_
      rintro x w2 ⟨n, ok, ⟨ev, rfl, hev⟩, hrd, hb2⟩
      have HRD := Lib.hid hrd
      have HB2 := Lib.hid hb2
      clear hc1 hrd hb2 HPI hw2 hn1 hk1 hk2
      have hS0 : Below w2.heap.size w2 w2.drew := (Below.refl _ _).drew
      rcases hev with ⟨rfl, rfl⟩ | ⟨rfl, te, pe, rfl⟩
      · have HAT := Lib.hid (HRD.out.2.1 rfl)
        have HCW : Hid (∀ W, Below w2.heap.size w2 W → W.cell? ⟨w.heap.size + 1, 2 * k, none⟩ = some (.string x0)) := Lib.hid fun W h => by
          have hlt9 := World.block_lt_of_cell? wr _ HC1k.out
          refine (World.cell?_of_block (h.block _ (Nat.lt_of_lt_of_le hlt9 HB2.out.size))).trans ?_
          exact (World.cell?_of_block (HB2.out.block _ hlt9)).trans HC1k.out
        go_wp2
        by_cases he : x0 = nmB k
        · subst he
          have hxx : ((nmB k).toList != (nmB k).toList) = false := by simp
          refine any_start (S := fun W => Below w2.heap.size w2 W) (by kernel_rfl) hS0 ?_
          simp only [List.length_cons, List.length_nil, Nat.reduceAdd, List.size_toArray]
          refine any_pure 0 (v := ?_) rfl (by kernel_rfl) (by intro _ _ _ h; exact h) (by assumption) (by rfl) (fun W hW => ?_) ?_
          rotate_left
          · first | (go_simp; done) | (go_simp; with_reducible rfl)
          try simp only [Act.put, List.setIfInBounds_toArray, List.set_cons_zero, List.set_cons_succ]
          refine any_pure 1 (v := ?_) rfl (by kernel_rfl) (by intro _ _ _ h; exact h) (by assumption) (by rfl) (fun W hW => ?_) ?_
          rotate_left
          · first | (go_simp; done) | (go_simp; with_reducible rfl)
          try simp only [Act.put, List.setIfInBounds_toArray, List.set_cons_zero, List.set_cons_succ]
          refine any_pure 2 (v := ?_) rfl (by kernel_rfl) (by intro _ _ _ h; exact h) (by assumption) (by rfl) (fun W hW => ?_) ?_
          rotate_left
          · first | (go_simp; done) | (go_simp; with_reducible rfl)
          try simp only [Act.put, List.setIfInBounds_toArray, List.set_cons_zero, List.set_cons_succ]
          refine any_pure 3 (v := ?_) rfl (by kernel_rfl) (by intro _ _ _ h; exact h) (by assumption) (by rfl) (fun W hW => ?_) ?_
          rotate_left
          · first | (go_simp; done) | (go_simp; with_reducible rfl)
          try simp only [Act.put, List.setIfInBounds_toArray, List.set_cons_zero, List.set_cons_succ]
          refine any_pure 4 (v := ?_) rfl (by kernel_rfl) (by intro _ _ _ h; exact h) (by assumption) (by rfl) (fun W hW => ?_) ?_
          rotate_left
          · first | (go_simp; done) | (go_simp; with_reducible rfl)
          try simp only [Act.put, List.setIfInBounds_toArray, List.set_cons_zero, List.set_cons_succ]
          refine any_pure 5 (v := ?_) rfl (by kernel_rfl) (by intro _ _ _ h; exact h) (by assumption) (by rfl) (fun W hW => ?_) ?_
          rotate_left
          · first | (go_simp; done) | (go_simp; with_reducible rfl)
          try simp only [Act.put, List.setIfInBounds_toArray, List.set_cons_zero, List.set_cons_succ]
          refine any_pure 6 (v := ?_) rfl (by kernel_rfl) (by intro _ _ _ h; exact h) (by assumption) (by rfl) (fun W hW => ?_) ?_
          rotate_left
          · first | (go_simp; done) | (go_simp; with_reducible rfl)
          try simp only [Act.put, List.setIfInBounds_toArray, List.set_cons_zero, List.set_cons_succ]
          refine any_pure 7 (v := ?_) rfl (by kernel_rfl) (by intro _ _ _ h; exact h) (by assumption) (by rfl) (fun W hW => ?_) ?_
          rotate_left
          · have hc := HCW.out _ hW; first | (go_simp; done) | (go_simp; with_reducible rfl)
          try simp only [Act.put, List.setIfInBounds_toArray, List.set_cons_zero, List.set_cons_succ]
          refine any_pure 9 (v := ?_) rfl (by kernel_rfl) (by intro _ _ _ h; exact h) (by assumption) (by rfl) (fun W hW => ?_) ?_
          rotate_left
          · first | (go_simp; done) | (go_simp; with_reducible rfl)
          try simp only [Act.put, List.setIfInBounds_toArray, List.set_cons_zero, List.set_cons_succ]
          refine any_one 8 (by kernel_rfl) rfl (by rfl) (fun K hK => ?_)
          go_simp
          refine (names_any _).mono ?_
          rintro x w3 ⟨rfl, hb⟩
          have hS3 := sub_trans hS0 hb
          refine hK _ _ hS3 ?_
          clear hK hb
          try simp only [Act.put, List.setIfInBounds_toArray, List.set_cons_zero, List.set_cons_succ]
          refine any_pure 10 (v := ?_) rfl (by kernel_rfl) (by intro _ _ _ h; exact h) (by assumption) (by rfl) (fun W hW => ?_) ?_
          rotate_left
          · have hi2 := HI2.out; first | (go_simp; done) | (go_simp; with_reducible rfl)
          try simp only [Act.put, List.setIfInBounds_toArray, List.set_cons_zero, List.set_cons_succ]
          refine any_pure 11 (v := ?_) rfl (by kernel_rfl) (by intro _ _ _ h; exact h) (by assumption) (by rfl) (fun W hW => ?_) ?_
          rotate_left
          · first | (go_simp; done) | (go_simp; with_reducible rfl)
          try simp only [Act.put, List.setIfInBounds_toArray, List.set_cons_zero, List.set_cons_succ]
          refine any_pure 12 (v := ?_) rfl (by kernel_rfl) (by intro _ _ _ h; exact h) (by assumption) (by rfl) (fun W hW => ?_) ?_
          rotate_left
          · first | (go_simp; done) | (go_simp; with_reducible rfl)
          try simp only [Act.put, List.setIfInBounds_toArray, List.set_cons_zero, List.set_cons_succ]
          refine any_done (by kernel_rfl) ?_
          have hA3 := (HA.out.later HB2.out).later hS3
          have ck : w3.cell? ⟨w.heap.size + 2, k, none⟩ = some (.int .i64 0) := (hA3.cell k).trans (numC_get hvl hlt)
          have fk := hA3.frozen k
          have hA4 := hA3.set_ k (.int .i64 n)
          rw [numC_set n hvl hlt] at hA4
          have hb4 := (HBW.out.1.trans ((sub_trans HB2.out hS3).mono (by have := HBW.out.1.size; have := HB.out.2.2.2.2; omega))).setCell (p := ⟨w.heap.size + 2, k, none⟩) (Nat.le_refl _) (.int .i64 n)
          have HF := Lib.hid (And.intro hA4 hb4)
          clear hA3 hA4 hb4
          go_wp2
          go_roundw
          case rel => exact ⟨k + 1, vs ++ [n], by omega, by go_num, HRV.out n HAT.out, HF.out.1, HF.out.2⟩
          case measure => simp [intOf]; omega
        · have hno := HN0.out he
          have HNO := Lib.hid hno
          have hx0 := toList_neB he
          clear hno he
          refine any_start (S := fun W => Below w2.heap.size w2 W) (by kernel_rfl) hS0 ?_
          simp only [List.length_cons, List.length_nil, Nat.reduceAdd, List.size_toArray]
          refine any_pure 0 (v := ?_) rfl (by kernel_rfl) (by intro _ _ _ h; exact h) (by assumption) (by rfl) (fun W hW => ?_) ?_
          rotate_left
          · first | (go_simp; done) | (go_simp; with_reducible rfl)
          try simp only [Act.put, List.setIfInBounds_toArray, List.set_cons_zero, List.set_cons_succ]
          refine any_pure 1 (v := ?_) rfl (by kernel_rfl) (by intro _ _ _ h; exact h) (by assumption) (by rfl) (fun W hW => ?_) ?_
          rotate_left
          · first | (go_simp; done) | (go_simp; with_reducible rfl)
          try simp only [Act.put, List.setIfInBounds_toArray, List.set_cons_zero, List.set_cons_succ]
          refine any_pure 2 (v := ?_) rfl (by kernel_rfl) (by intro _ _ _ h; exact h) (by assumption) (by rfl) (fun W hW => ?_) ?_
          rotate_left
          · first | (go_simp; done) | (go_simp; with_reducible rfl)
          try simp only [Act.put, List.setIfInBounds_toArray, List.set_cons_zero, List.set_cons_succ]
          refine any_pure 3 (v := ?_) rfl (by kernel_rfl) (by intro _ _ _ h; exact h) (by assumption) (by rfl) (fun W hW => ?_) ?_
          rotate_left
          · first | (go_simp; done) | (go_simp; with_reducible rfl)
          try simp only [Act.put, List.setIfInBounds_toArray, List.set_cons_zero, List.set_cons_succ]
          refine any_pure 4 (v := ?_) rfl (by kernel_rfl) (by intro _ _ _ h; exact h) (by assumption) (by rfl) (fun W hW => ?_) ?_
          rotate_left
          · first | (go_simp; done) | (go_simp; with_reducible rfl)
          try simp only [Act.put, List.setIfInBounds_toArray, List.set_cons_zero, List.set_cons_succ]
          refine any_pure 5 (v := ?_) rfl (by kernel_rfl) (by intro _ _ _ h; exact h) (by assumption) (by rfl) (fun W hW => ?_) ?_
          rotate_left
          · first | (go_simp; done) | (go_simp; with_reducible rfl)
          try simp only [Act.put, List.setIfInBounds_toArray, List.set_cons_zero, List.set_cons_succ]
          refine any_pure 6 (v := ?_) rfl (by kernel_rfl) (by intro _ _ _ h; exact h) (by assumption) (by rfl) (fun W hW => ?_) ?_
          rotate_left
          · first | (go_simp; done) | (go_simp; with_reducible rfl)
          try simp only [Act.put, List.setIfInBounds_toArray, List.set_cons_zero, List.set_cons_succ]
          refine any_pure 7 (v := ?_) rfl (by kernel_rfl) (by intro _ _ _ h; exact h) (by assumption) (by rfl) (fun W hW => ?_) ?_
          rotate_left
          · have hc := HCW.out _ hW; first | (go_simp; done) | (go_simp; with_reducible rfl)
          try simp only [Act.put, List.setIfInBounds_toArray, List.set_cons_zero, List.set_cons_succ]
          refine any_pure 9 (v := ?_) rfl (by kernel_rfl) (by intro _ _ _ h; exact h) (by assumption) (by rfl) (fun W hW => ?_) ?_
          rotate_left
          · first | (go_simp; done) | (go_simp; with_reducible rfl)
          try simp only [Act.put, List.setIfInBounds_toArray, List.set_cons_zero, List.set_cons_succ]
          refine any_one 8 (by kernel_rfl) rfl (by rfl) (fun K hK => ?_)
          go_simp
          refine (names_any _).mono ?_
          rintro x w3 ⟨rfl, hb⟩
          have hS3 := sub_trans hS0 hb
          refine hK _ _ hS3 ?_
          clear hK hb
          try simp only [Act.put, List.setIfInBounds_toArray, List.set_cons_zero, List.set_cons_succ]
          refine any_pure 10 (v := ?_) rfl (by kernel_rfl) (by intro _ _ _ h; exact h) (by assumption) (by rfl) (fun W hW => ?_) ?_
          rotate_left
          · have hi2 := HI2.out; first | (go_simp; done) | (go_simp; with_reducible rfl)
          try simp only [Act.put, List.setIfInBounds_toArray, List.set_cons_zero, List.set_cons_succ]
          refine any_pure 11 (v := ?_) rfl (by kernel_rfl) (by intro _ _ _ h; exact h) (by assumption) (by rfl) (fun W hW => ?_) ?_
          rotate_left
          · first | (go_simp; done) | (go_simp; with_reducible rfl)
          try simp only [Act.put, List.setIfInBounds_toArray, List.set_cons_zero, List.set_cons_succ]
          refine any_pure 12 (v := ?_) rfl (by kernel_rfl) (by intro _ _ _ h; exact h) (by assumption) (by rfl) (fun W hW => ?_) ?_
          rotate_left
          · first | (go_simp; done) | (go_simp; with_reducible rfl)
          try simp only [Act.put, List.setIfInBounds_toArray, List.set_cons_zero, List.set_cons_succ]
          refine any_done (by kernel_rfl) ?_
          have hz := (HC0.out.later HB2.out).later hS3
          have hzz := (set6_blk hz (.int .i64 0) (.int .i64 0) (.int .i64 0) (.int .i64 0) (.int .i64 0) (.int .i64 0))
          have hzb := (set6_below (sub_trans HBW.out.2 (sub_trans HB2.out hS3)) (Nat.le_refl _) (.int .i64 0) (.int .i64 0) (.int .i64 0) (.int .i64 0) (.int .i64 0) (.int .i64 0))
          have c0 := hz.cell 0
          have c1 := hz.cell 1
          have c2 := hz.cell 2
          have c3 := hz.cell 3
          have c4 := hz.cell 4
          have c5 := hz.cell 5
          have f0 := hz.frozen
          simp at c0 c1 c2 c3 c4 c5
          have HZ := Lib.hid (And.intro hzz hzb)
          clear hz hzz hzb
          go_wp2
          have z0 := HZ.out.1.cell 0
          have z1 := HZ.out.1.cell 1
          have z2 := HZ.out.1.cell 2
          have z3 := HZ.out.1.cell 3
          have z4 := HZ.out.1.cell 4
          have z5 := HZ.out.1.cell 5
          unfold set6 at z0 z1 z2 z3 z4 z5
          simp at z0 z1 z2 z3 z4 z5
          exact bodyPost_ret (v := .tuple #[.agg #[.int .i64 0, .int .i64 0, .int .i64 0, .int .i64 0, .int .i64 0, .int .i64 0], .int .i64 10]) (by simp [results, Tryd.results14, go_sem, z0, z1, z2, z3, z4, z5]) rfl ⟨HZ.out.2, .inr ⟨HNO.out, rfl⟩⟩
      · have hno := HN1.out (HRD.out.2.2 rfl)
        have HNO := Lib.hid hno
        clear hno
        go_wp2
        refine any_start (S := fun W => W = w2.drew) (by kernel_rfl) rfl ?_
        have hS1 : w2.drew = w2.drew := rfl
        simp only [List.length_cons, List.length_nil, Nat.reduceAdd, List.size_toArray]
        refine any_pure 0 (v := ?_) rfl (by kernel_rfl) (by intro _ _ _ h; exact h) (by assumption) (by rfl) (fun W hW => ?_) ?_
        rotate_left
        · first | (go_simp; done) | (go_simp; with_reducible rfl)
        try simp only [Act.put, List.setIfInBounds_toArray, List.set_cons_zero, List.set_cons_succ]
        refine any_pure 1 (v := ?_) rfl (by kernel_rfl) (by intro _ _ _ h; exact h) (by assumption) (by rfl) (fun W hW => ?_) ?_
        rotate_left
        · first | (go_simp; done) | (go_simp; with_reducible rfl)
        try simp only [Act.put, List.setIfInBounds_toArray, List.set_cons_zero, List.set_cons_succ]
        refine any_pure 2 (v := ?_) rfl (by kernel_rfl) (by intro _ _ _ h; exact h) (by assumption) (by rfl) (fun W hW => ?_) ?_
        rotate_left
        · first | (go_simp; done) | (go_simp; with_reducible rfl)
        try simp only [Act.put, List.setIfInBounds_toArray, List.set_cons_zero, List.set_cons_succ]
        refine any_skip 3 rfl (by kernel_rfl) (by intro _ _ _ h; exact h) (by assumption) (by rfl) ?_
        try simp only [Act.put, List.setIfInBounds_toArray, List.set_cons_zero, List.set_cons_succ]
        refine any_skip 4 rfl (by kernel_rfl) (by intro _ _ _ h; exact h) (by assumption) (by rfl) ?_
        try simp only [Act.put, List.setIfInBounds_toArray, List.set_cons_zero, List.set_cons_succ]
        refine any_skip 5 rfl (by kernel_rfl) (by intro _ _ _ h; exact h) (by assumption) (by rfl) ?_
        try simp only [Act.put, List.setIfInBounds_toArray, List.set_cons_zero, List.set_cons_succ]
        refine any_skip 6 rfl (by kernel_rfl) (by intro _ _ _ h; exact h) (by assumption) (by rfl) ?_
        try simp only [Act.put, List.setIfInBounds_toArray, List.set_cons_zero, List.set_cons_succ]
        refine any_skip 7 rfl (by kernel_rfl) (by intro _ _ _ h; exact h) (by assumption) (by rfl) ?_
        try simp only [Act.put, List.setIfInBounds_toArray, List.set_cons_zero, List.set_cons_succ]
        refine any_skip 8 rfl (by kernel_rfl) (by intro _ _ _ h; exact h) (by assumption) (by rfl) ?_
        try simp only [Act.put, List.setIfInBounds_toArray, List.set_cons_zero, List.set_cons_succ]
        refine any_skip 9 rfl (by kernel_rfl) (by intro _ _ _ h; exact h) (by assumption) (by rfl) ?_
        try simp only [Act.put, List.setIfInBounds_toArray, List.set_cons_zero, List.set_cons_succ]
        refine any_skip 10 rfl (by kernel_rfl) (by intro _ _ _ h; exact h) (by assumption) (by rfl) ?_
        try simp only [Act.put, List.setIfInBounds_toArray, List.set_cons_zero, List.set_cons_succ]
        refine any_skip 11 rfl (by kernel_rfl) (by intro _ _ _ h; exact h) (by assumption) (by rfl) ?_
        try simp only [Act.put, List.setIfInBounds_toArray, List.set_cons_zero, List.set_cons_succ]
        refine any_pure 12 (v := ?_) rfl (by kernel_rfl) (by intro _ _ _ h; exact h) (by assumption) (by rfl) (fun W hW => ?_) ?_
        rotate_left
        · first | (go_simp; done) | (go_simp; with_reducible rfl)
        try simp only [Act.put, List.setIfInBounds_toArray, List.set_cons_zero, List.set_cons_succ]
        refine any_done (by kernel_rfl) ?_
        have hz := Blk.later HC0.out HB2.out
        have hzz := (set6_blk hz (.int .i64 0) (.int .i64 0) (.int .i64 0) (.int .i64 0) (.int .i64 0) (.int .i64 0))
        have hzb := (set6_below (sub_trans HBW.out.2 HB2.out) (Nat.le_refl _) (.int .i64 0) (.int .i64 0) (.int .i64 0) (.int .i64 0) (.int .i64 0) (.int .i64 0))
        have c0 := hz.cell 0
        have c1 := hz.cell 1
        have c2 := hz.cell 2
        have c3 := hz.cell 3
        have c4 := hz.cell 4
        have c5 := hz.cell 5
        have f0 := hz.frozen
        simp at c0 c1 c2 c3 c4 c5
        have HZ := Lib.hid (And.intro hzz hzb)
        clear hz hzz hzb
        go_wp2
        have z0 := HZ.out.1.cell 0
        have z1 := HZ.out.1.cell 1
        have z2 := HZ.out.1.cell 2
        have z3 := HZ.out.1.cell 3
        have z4 := HZ.out.1.cell 4
        have z5 := HZ.out.1.cell 5
        unfold set6 at z0 z1 z2 z3 z4 z5
        simp at z0 z1 z2 z3 z4 z5
        exact bodyPost_ret (v := .tuple #[.agg #[.int .i64 0, .int .i64 0, .int .i64 0, .int .i64 0, .int .i64 0, .int .i64 0], .int .i64 10]) (by simp [results, Tryd.results14, go_sem, z0, z1, z2, z3, z4, z5]) rfl ⟨HZ.out.2.drew, .inr ⟨HNO.out, rfl⟩⟩
    · obtain rfl : k = 6 := by omega
      obtain ⟨a, b, c, d, e, f, rfl, h6, hnp⟩ := hRK.six
      have H6 := Lib.hid h6
      have hA' : Blk wr (w.heap.size + 2) 52 #[.int .i64 a, .int .i64 b, .int .i64 c, .int .i64 d, .int .i64 e, .int .i64 f] := hA
      have hb0 : Blk wr w.heap.size 23 #[.int .i64 0, .int .i64 0, .int .i64 0, .int .i64 0, .int .i64 0, .int .i64 0] := (hbW.block _ (by omega)).trans HB.out.1
      have hwA : Below w.heap.size w wr := HB.out.2.2.2.1.trans (hbW.mono (by omega))
      have hsz : w.heap.size + 2 < wr.heap.size := by have := hbW.size; have := HB.out.2.2.2.2; omega
      have hb9 : Blk (wr.alloc (.cells #[.int .i64 a, .int .i64 b, .int .i64 c, .int .i64 d, .int .i64 e, .int .i64 f] 23)) wr.heap.size 23 #[.int .i64 a, .int .i64 b, .int .i64 c, .int .i64 d, .int .i64 e, .int .i64 f] := Blk.new_at _ _ _ rfl
      have hbB := sub_alloc (Below.refl _ wr) (.cells #[.int .i64 a, .int .i64 b, .int .i64 c, .int .i64 d, .int .i64 e, .int .i64 f] 23)
      have hA9 := hA'.later hbB
      have h09 := hb0.later hbB
      have hw9 := sub_trans hwA hbB
      obtain ⟨WB, hWB⟩ : ∃ WB, wr.alloc (.cells #[.int .i64 a, .int .i64 b, .int .i64 c, .int .i64 d, .int .i64 e, .int .i64 f] 23) = WB := ⟨_, rfl⟩
      have hszB : WB.heap.size = wr.heap.size + 1 := by rw [← hWB]; simp
      rw [hWB] at hb9 hA9 h09 hw9
      have HCB : Hid (∀ W, Below WB.heap.size WB W → (W.cell? ⟨wr.heap.size, 0, none⟩ = some (.int .i64 a) ∧ W.cell? ⟨wr.heap.size, 1, none⟩ = some (.int .i64 b) ∧ W.cell? ⟨wr.heap.size, 2, none⟩ = some (.int .i64 c) ∧ W.cell? ⟨wr.heap.size, 3, none⟩ = some (.int .i64 d) ∧ W.cell? ⟨wr.heap.size, 4, none⟩ = some (.int .i64 e) ∧ W.cell? ⟨wr.heap.size, 5, none⟩ = some (.int .i64 f)) ∧
          (W.cell? ⟨w.heap.size + 2, 0, none⟩ = some (.int .i64 a) ∧ W.cell? ⟨w.heap.size + 2, 1, none⟩ = some (.int .i64 b) ∧ W.cell? ⟨w.heap.size + 2, 2, none⟩ = some (.int .i64 c) ∧ W.cell? ⟨w.heap.size + 2, 3, none⟩ = some (.int .i64 d) ∧ W.cell? ⟨w.heap.size + 2, 4, none⟩ = some (.int .i64 e) ∧ W.cell? ⟨w.heap.size + 2, 5, none⟩ = some (.int .i64 f))) := Lib.hid fun W h => by
        have g9 := hb9.later h
        have g2 := hA9.later h
        exact ⟨⟨g9.cell 0, g9.cell 1, g9.cell 2, g9.cell 3, g9.cell 4, g9.cell 5⟩, ⟨g2.cell 0, g2.cell 1, g2.cell 2, g2.cell 3, g2.cell 4, g2.cell 5⟩⟩
      have HRB := Lib.hid (HR.out.up hw9)
      have H09 := Lib.hid (And.intro h09 hw9)
      have HNP := Lib.hid hnp
      have HWB := Lib.hid hWB
      have c0 := hA'.cell 0
      have c1 := hA'.cell 1
      have c2 := hA'.cell 2
      have c3 := hA'.cell 3
      have c4 := hA'.cell 4
      have c5 := hA'.cell 5
      simp at c0 c1 c2 c3 c4 c5
      have hS0 : Below WB.heap.size WB WB.drew := (Below.refl _ _).drew
      clear hRK hA hA' hb0 hwA hb9 hbB hA9 h09 hw9 hnp h6 hbW hWB hszB
      go_wp2
      rw [HWB.out]
      clear c0 c1 c2 c3 c4 c5
      by_cases ht : polB a b c d e f = s
      · have HT := Lib.hid ht
        have hxx : (s.toList != s.toList) = false := by simp
        clear ht
        refine any_start (S := fun W => Below WB.heap.size WB W) (by kernel_rfl) hS0 ?_
        simp only [List.length_cons, List.length_nil, Nat.reduceAdd, List.size_toArray]
        refine any_pure 0 (v := ?_) rfl (by kernel_rfl) (by intro _ _ _ h; exact h) (by assumption) (by rfl) (fun W hW => ?_) ?_
        rotate_left
        · obtain ⟨⟨c0, c1, c2, c3, c4, c5⟩, _⟩ := HCB.out _ hW; first | (go_simp; done) | (go_simp; with_reducible rfl)
        try simp only [Act.put, List.setIfInBounds_toArray, List.set_cons_zero, List.set_cons_succ]
        refine any_pure 2 (v := ?_) rfl (by kernel_rfl) (by intro _ _ _ h; exact h) (by assumption) (by rfl) (fun W hW => ?_) ?_
        rotate_left
        · obtain ⟨_, ⟨c0, c1, c2, c3, c4, c5⟩⟩ := HCB.out _ hW; first | (go_simp; done) | (go_simp; with_reducible rfl)
        try simp only [Act.put, List.setIfInBounds_toArray, List.set_cons_zero, List.set_cons_succ]
        refine any_one 1 (by kernel_rfl) rfl (by rfl) (fun K hK => ?_)
        go_simp
        refine (numbers_any a b c d e f _).mono ?_
        rintro x w3 ⟨rfl, hb⟩
        have hS3 := sub_trans hS0 hb
        refine hK _ _ hS3 ?_
        clear hK hb
        try simp only [Act.put, List.setIfInBounds_toArray, List.set_cons_zero, List.set_cons_succ]
        refine any_pure 3 (v := ?_) rfl (by kernel_rfl) (by intro _ _ _ h; exact h) (by assumption) (by rfl) (fun W hW => ?_) ?_
        rotate_left
        · have hq := nums_neq a b c d e f; first | (go_simp; done) | (go_simp; with_reducible rfl)
        try simp only [Act.put, List.setIfInBounds_toArray, List.set_cons_zero, List.set_cons_succ]
        refine any_pure 4 (v := ?_) rfl (by kernel_rfl) (by intro _ _ _ h; exact h) (by assumption) (by rfl) (fun W hW => ?_) ?_
        rotate_left
        · first | (go_simp; done) | (go_simp; with_reducible rfl)
        try simp only [Act.put, List.setIfInBounds_toArray, List.set_cons_zero, List.set_cons_succ]
        refine any_pure 5 (v := ?_) rfl (by kernel_rfl) (by intro _ _ _ h; exact h) (by assumption) (by rfl) (fun W hW => ?_) ?_
        rotate_left
        · obtain ⟨⟨c0, c1, c2, c3, c4, c5⟩, _⟩ := HCB.out _ hW; first | (go_simp; done) | (go_simp; with_reducible rfl)
        try simp only [Act.put, List.setIfInBounds_toArray, List.set_cons_zero, List.set_cons_succ]
        refine any_pure 7 (v := ?_) rfl (by kernel_rfl) (by intro _ _ _ h; exact h) (by assumption) (by rfl) (fun W hW => ?_) ?_
        rotate_left
        · first | (go_simp; done) | (go_simp; with_reducible rfl)
        try simp only [Act.put, List.setIfInBounds_toArray, List.set_cons_zero, List.set_cons_succ]
        refine any_one 6 (by kernel_rfl) rfl (by rfl) (fun K hK => ?_)
        go_simp
        refine (poltext_any a b c d e f H6.out _ (HRB.out.tabs.up hS3).pow).mono ?_
        rintro x w4 ⟨rfl, hb⟩
        rw [HT.out]
        have hS4 := sub_trans hS3 hb
        refine hK _ _ hS4 ?_
        clear hK hb
        try simp only [Act.put, List.setIfInBounds_toArray, List.set_cons_zero, List.set_cons_succ]
        refine any_pure 8 (v := ?_) rfl (by kernel_rfl) (by intro _ _ _ h; exact h) (by assumption) (by rfl) (fun W hW => ?_) ?_
        rotate_left
        · first | (go_simp; done) | (go_simp; with_reducible rfl)
        try simp only [Act.put, List.setIfInBounds_toArray, List.set_cons_zero, List.set_cons_succ]
        refine any_pure 9 (v := ?_) rfl (by kernel_rfl) (by intro _ _ _ h; exact h) (by assumption) (by rfl) (fun W hW => ?_) ?_
        rotate_left
        · first | (go_simp; done) | (go_simp; with_reducible rfl)
        try simp only [Act.put, List.setIfInBounds_toArray, List.set_cons_zero, List.set_cons_succ]
        refine any_done (by kernel_rfl) ?_
        obtain ⟨⟨c0, c1, c2, c3, c4, c5⟩, _⟩ := HCB.out _ hS4
        by_cases hP : RightP a b c d e f
        · have HP := Lib.hid hP
          clear hP
          go_wp2_with fail
          refine (check_ok a b c d e f _ HP.out).mono ?_
          rintro x w5 ⟨rfl, hb⟩
          have hS5 := sub_trans hS4 hb
          clear c0 c1 c2 c3 c4 c5 hb
          obtain ⟨⟨d0, d1, d2, d3, d4, d5⟩, _⟩ := HCB.out _ hS5
          have hz := H09.out.1.later hS5
          have hzz := (set6_blk hz (.int .i64 a) (.int .i64 b) (.int .i64 c) (.int .i64 d) (.int .i64 e) (.int .i64 f))
          have hzb := (set6_below (sub_trans H09.out.2 hS5) (Nat.le_refl _) (.int .i64 a) (.int .i64 b) (.int .i64 c) (.int .i64 d) (.int .i64 e) (.int .i64 f))
          have c0 := hz.cell 0
          have c1 := hz.cell 1
          have c2 := hz.cell 2
          have c3 := hz.cell 3
          have c4 := hz.cell 4
          have c5 := hz.cell 5
          have f0 := hz.frozen
          simp at c0 c1 c2 c3 c4 c5
          have HZ := Lib.hid (And.intro hzz hzb)
          clear hz hzz hzb
          go_wp2
          have z0 := HZ.out.1.cell 0
          have z1 := HZ.out.1.cell 1
          have z2 := HZ.out.1.cell 2
          have z3 := HZ.out.1.cell 3
          have z4 := HZ.out.1.cell 4
          have z5 := HZ.out.1.cell 5
          unfold set6 at z0 z1 z2 z3 z4 z5
          simp at z0 z1 z2 z3 z4 z5
          exact bodyPost_ret (v := .tuple #[.agg #[.int .i64 a, .int .i64 b, .int .i64 c, .int .i64 d, .int .i64 e, .int .i64 f], .int .i64 0]) (by simp [results, Tryd.results14, go_sem, z0, z1, z2, z3, z4, z5]) rfl ⟨HZ.out.2, .inl ⟨a, b, c, d, e, f, H6.out, HT.out, .inl ⟨HP.out, rfl⟩⟩⟩
        · have HP := Lib.hid hP
          clear hP
          go_wp2_with fail
          refine (check_bad a b c d e f _ HP.out).mono ?_
          rintro x w5 ⟨rfl, hb⟩
          have hS5 := sub_trans hS4 hb
          clear c0 c1 c2 c3 c4 c5 hb
          have hz := H09.out.1.later hS5
          have hzz := (set6_blk hz (.int .i64 0) (.int .i64 0) (.int .i64 0) (.int .i64 0) (.int .i64 0) (.int .i64 0))
          have hzb := (set6_below (sub_trans H09.out.2 hS5) (Nat.le_refl _) (.int .i64 0) (.int .i64 0) (.int .i64 0) (.int .i64 0) (.int .i64 0) (.int .i64 0))
          have c0 := hz.cell 0
          have c1 := hz.cell 1
          have c2 := hz.cell 2
          have c3 := hz.cell 3
          have c4 := hz.cell 4
          have c5 := hz.cell 5
          have f0 := hz.frozen
          simp at c0 c1 c2 c3 c4 c5
          have HZ := Lib.hid (And.intro hzz hzb)
          clear hz hzz hzb
          go_wp2
          have z0 := HZ.out.1.cell 0
          have z1 := HZ.out.1.cell 1
          have z2 := HZ.out.1.cell 2
          have z3 := HZ.out.1.cell 3
          have z4 := HZ.out.1.cell 4
          have z5 := HZ.out.1.cell 5
          unfold set6 at z0 z1 z2 z3 z4 z5
          simp at z0 z1 z2 z3 z4 z5
          exact bodyPost_ret (v := .tuple #[.agg #[.int .i64 0, .int .i64 0, .int .i64 0, .int .i64 0, .int .i64 0, .int .i64 0], .int .i64 7]) (by simp [results, Tryd.results14, go_sem, z0, z1, z2, z3, z4, z5]) rfl ⟨HZ.out.2, .inl ⟨a, b, c, d, e, f, H6.out, HT.out, .inr ⟨HP.out, rfl⟩⟩⟩
      · have HNO := Lib.hid (HNP.out ht)
        have hx0 := toList_neB ht
        clear ht
        refine any_start (S := fun W => Below WB.heap.size WB W) (by kernel_rfl) hS0 ?_
        simp only [List.length_cons, List.length_nil, Nat.reduceAdd, List.size_toArray]
        refine any_pure 0 (v := ?_) rfl (by kernel_rfl) (by intro _ _ _ h; exact h) (by assumption) (by rfl) (fun W hW => ?_) ?_
        rotate_left
        · obtain ⟨⟨c0, c1, c2, c3, c4, c5⟩, _⟩ := HCB.out _ hW; first | (go_simp; done) | (go_simp; with_reducible rfl)
        try simp only [Act.put, List.setIfInBounds_toArray, List.set_cons_zero, List.set_cons_succ]
        refine any_pure 2 (v := ?_) rfl (by kernel_rfl) (by intro _ _ _ h; exact h) (by assumption) (by rfl) (fun W hW => ?_) ?_
        rotate_left
        · obtain ⟨_, ⟨c0, c1, c2, c3, c4, c5⟩⟩ := HCB.out _ hW; first | (go_simp; done) | (go_simp; with_reducible rfl)
        try simp only [Act.put, List.setIfInBounds_toArray, List.set_cons_zero, List.set_cons_succ]
        refine any_one 1 (by kernel_rfl) rfl (by rfl) (fun K hK => ?_)
        go_simp
        refine (numbers_any a b c d e f _).mono ?_
        rintro x w3 ⟨rfl, hb⟩
        have hS3 := sub_trans hS0 hb
        refine hK _ _ hS3 ?_
        clear hK hb
        try simp only [Act.put, List.setIfInBounds_toArray, List.set_cons_zero, List.set_cons_succ]
        refine any_pure 3 (v := ?_) rfl (by kernel_rfl) (by intro _ _ _ h; exact h) (by assumption) (by rfl) (fun W hW => ?_) ?_
        rotate_left
        · have hq := nums_neq a b c d e f; first | (go_simp; done) | (go_simp; with_reducible rfl)
        try simp only [Act.put, List.setIfInBounds_toArray, List.set_cons_zero, List.set_cons_succ]
        refine any_pure 4 (v := ?_) rfl (by kernel_rfl) (by intro _ _ _ h; exact h) (by assumption) (by rfl) (fun W hW => ?_) ?_
        rotate_left
        · first | (go_simp; done) | (go_simp; with_reducible rfl)
        try simp only [Act.put, List.setIfInBounds_toArray, List.set_cons_zero, List.set_cons_succ]
        refine any_pure 5 (v := ?_) rfl (by kernel_rfl) (by intro _ _ _ h; exact h) (by assumption) (by rfl) (fun W hW => ?_) ?_
        rotate_left
        · obtain ⟨⟨c0, c1, c2, c3, c4, c5⟩, _⟩ := HCB.out _ hW; first | (go_simp; done) | (go_simp; with_reducible rfl)
        try simp only [Act.put, List.setIfInBounds_toArray, List.set_cons_zero, List.set_cons_succ]
        refine any_pure 7 (v := ?_) rfl (by kernel_rfl) (by intro _ _ _ h; exact h) (by assumption) (by rfl) (fun W hW => ?_) ?_
        rotate_left
        · first | (go_simp; done) | (go_simp; with_reducible rfl)
        try simp only [Act.put, List.setIfInBounds_toArray, List.set_cons_zero, List.set_cons_succ]
        refine any_one 6 (by kernel_rfl) rfl (by rfl) (fun K hK => ?_)
        go_simp
        refine (poltext_any a b c d e f H6.out _ (HRB.out.tabs.up hS3).pow).mono ?_
        rintro x w4 ⟨rfl, hb⟩
        have hS4 := sub_trans hS3 hb
        refine hK _ _ hS4 ?_
        clear hK hb
        try simp only [Act.put, List.setIfInBounds_toArray, List.set_cons_zero, List.set_cons_succ]
        refine any_pure 8 (v := ?_) rfl (by kernel_rfl) (by intro _ _ _ h; exact h) (by assumption) (by rfl) (fun W hW => ?_) ?_
        rotate_left
        · first | (go_simp; done) | (go_simp; with_reducible rfl)
        try simp only [Act.put, List.setIfInBounds_toArray, List.set_cons_zero, List.set_cons_succ]
        refine any_pure 9 (v := ?_) rfl (by kernel_rfl) (by intro _ _ _ h; exact h) (by assumption) (by rfl) (fun W hW => ?_) ?_
        rotate_left
        · first | (go_simp; done) | (go_simp; with_reducible rfl)
        try simp only [Act.put, List.setIfInBounds_toArray, List.set_cons_zero, List.set_cons_succ]
        refine any_done (by kernel_rfl) ?_
        have hz := H09.out.1.later hS4
        have hzz := (set6_blk hz (.int .i64 0) (.int .i64 0) (.int .i64 0) (.int .i64 0) (.int .i64 0) (.int .i64 0))
        have hzb := (set6_below (sub_trans H09.out.2 hS4) (Nat.le_refl _) (.int .i64 0) (.int .i64 0) (.int .i64 0) (.int .i64 0) (.int .i64 0) (.int .i64 0))
        have c0 := hz.cell 0
        have c1 := hz.cell 1
        have c2 := hz.cell 2
        have c3 := hz.cell 3
        have c4 := hz.cell 4
        have c5 := hz.cell 5
        have f0 := hz.frozen
        simp at c0 c1 c2 c3 c4 c5
        have HZ := Lib.hid (And.intro hzz hzb)
        clear hz hzz hzb
        go_wp2
        have z0 := HZ.out.1.cell 0
        have z1 := HZ.out.1.cell 1
        have z2 := HZ.out.1.cell 2
        have z3 := HZ.out.1.cell 3
        have z4 := HZ.out.1.cell 4
        have z5 := HZ.out.1.cell 5
        unfold set6 at z0 z1 z2 z3 z4 z5
        simp at z0 z1 z2 z3 z4 z5
        exact bodyPost_ret (v := .tuple #[.agg #[.int .i64 0, .int .i64 0, .int .i64 0, .int .i64 0, .int .i64 0, .int .i64 0], .int .i64 10]) (by simp [results, Tryd.results14, go_sem, z0, z1, z2, z3, z4, z5]) rfl ⟨HZ.out.2, .inr ⟨HNO.out, rfl⟩⟩
theorem polParse_any (s : ByteArray) (hs : s.size ≤ 1000) (w : World) (hR : Ready w) :
    Calls Tryd.prog 14 #[.string s] w (PolPost s w) := by
  by_cases hl : (wordsB 32 s).length = 12
  · exact pparse_some s hs w hR hl
  · exact pparse_len s hs w hR hl
end Go.Proofs.YteljecehppeamaaDoor
