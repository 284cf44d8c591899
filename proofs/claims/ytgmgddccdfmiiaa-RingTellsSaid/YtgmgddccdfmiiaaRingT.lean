/-
  RingTells: what its calls tell. Condition: none.
-/
import Derived.Test.YtgmgddccdfmiiaaRingS
import Derived.Test.YtgmgddccdfmiiaaRingKeeps
import Derived.SliceStrings
namespace Go.Fw
open Go.RowKit Go.WideShapes Go.ChangeShapes
set_option linter.unusedVariables false
section
variable {H : Type} {enc : TypeId × Value → H} {P : Program} {W : World}
theorem arg_strs {base : Nat} {t e : TypeId} {v : Value} {d : DataW H} {p : List MemPlace} (ht : P.underlying t = some (.slice e)) (he : P.underlying e = some .string) (hc : P.cellsOf e = 1)
    (hv : Value.okWide P W .any base t v) (h : DataW.Trod enc P W 0 (fun _ => true) true t v d p) :
    ∃ (A : Option Addr) (c : Nat) (l : List ByteArray), v = .slice A l.length c ∧ (l.length ≤ maxLen ∧ l.length ≤ c) ∧ (∀ s ∈ l, s.size ≤ maxLen) ∧ Reads W W.heap.size 1 A l.length (strs l) := by
  obtain ⟨a0, len0, cap0, rfl⟩ := okWide_slice ht hv
  obtain ⟨fuel, hf⟩ := h
  rcases open_strings ht he hc hf with ⟨hcs, _⟩ | ⟨x, len, cap, zs, hcs, _, hl, hm, hz, _, hcell, hwz⟩
  · simp [Value.cells] at hcs
    obtain ⟨rfl, rfl, rfl⟩ := hcs
    exact ⟨none, 0, [], rfl, by simp [maxLen], by simp, Reads.none_⟩
  · simp [Value.cells] at hcs
    obtain ⟨rfl, rfl, rfl⟩ := hcs
    have hzc : zs.length = cap0 := by simpa using hz
    have hzl : (zs.take len0).length = len0 := by rw [List.length_take]; omega
    refine ⟨some x, cap0, zs.take len0, by rw [hzl], ⟨by omega, by omega⟩, fun n hn => hwz n (List.mem_of_mem_take hn), ?_⟩
    rw [hzl]
    refine ⟨by rw [strs_length, hzl]; omega, fun hpos => ⟨x, rfl, ?_, fun j u hu => ?_⟩⟩
    · have := World.block_lt_of_cell? W _ (hcell 0 (by omega))
      rwa [block_of_add] at this
    · have hj : j < len0 := by
        have := (List.getElem?_eq_some_iff.1 hu).1
        rwa [strs_length, hzl] at this
      have hj2 : j < zs.length := by omega
      rw [hcell j hj2]
      have hu2 := strs_get hu (by omega)
      rw [← hu2]
      simp [hj2]
end
end Go.Fw
namespace Go.Proofs.Ytgmgddccdfmiiaa
open Go.RowKit Go.Fw
set_option maxHeartbeats 1000000
set_option maxRecDepth 4000
set_option linter.unusedVariables false
set_option linter.unusedSimpArgs false
/-- what stands in a place, if there is one -/
def Tells (L : List ByteArray) (i : Int) (x : ByteArray) (b : Bool) : Prop := (b = true ∧ ∃ j : Nat, i = (j : Int) ∧ ∃ (hj : j < L.length), x = L[j]) ∨ (b = false ∧ x = ByteArray.empty ∧ ¬ (0 ≤ i ∧ i < (L.length : Int)))
theorem sat_all (p B : Nat) (sl : Value) (r : Rg ByteArray) (i : Int) (w : World) (h : RgS w p B sl r) :
    Calls Try.prog 13 #[.pointer (some ⟨p, 0, none⟩), .int .i64 i] w fun e w' => (∃ x b, e = .returned (.tuple #[.string x, .bool b]) ∧ Tells r.list i x b) ∧ Below w.heap.size w w' := by
  have hl := Rg.length r
  by_cases hi : 0 ≤ i ∧ i < (r.items.length : Int)
  · obtain ⟨j, rfl⟩ : ∃ j : Nat, i = (j : Int) := ⟨i.toNat, by omega⟩
    refine (sat_any p B sl r j w h (by omega)).mono ?_
    rintro e w' ⟨rfl, rfl⟩
    exact ⟨⟨_, _, rfl, .inl ⟨rfl, j, rfl, by omega, rfl⟩⟩, (Below.refl _ w).drew⟩
  · refine (sat_no p B sl r i w h hi).mono ?_
    rintro e w' ⟨rfl, rfl⟩
    exact ⟨⟨_, _, rfl, .inr ⟨rfl, rfl, by rw [hl]; exact hi⟩⟩, Below.refl _ w⟩
theorem slast_all (p B : Nat) (sl : Value) (r : Rg ByteArray) (w : World) (h : RgS w p B sl r) :
    Calls Try.prog 14 #[.pointer (some ⟨p, 0, none⟩)] w fun e w' => (∃ x b, e = .returned (.tuple #[.string x, .bool b]) ∧ Tells r.list ((r.list.length : Int) - 1) x b) ∧ Below w.heap.size w w' := by
  have hm := h.ok.most
  have hf := h.ok.fits
  have hl := Rg.length r
  have h1 := slen_any p B sl r w h
  have h2 := sat_all p B sl r ((r.items.length : Int) - 1) w h
  have hw : IntKind.i64.wrap ((r.items.length : Int) - 1) = (r.items.length : Int) - 1 := by rw [IntKind.wrap_i64]; omega
  rw [hl]
  have HH := Lib.hid (And.intro h1 h2)
  clear h1 h2 h hl
  go_enter Try.func14, Try.ntmps14
  go_wp2_with fail
  refine HH.out.1.mono ?_
  rintro e w1 ⟨rfl, rfl⟩
  go_wp2_with fail
  refine HH.out.2.mono ?_
  rintro e w1 ⟨⟨x, b, rfl, ht⟩, hb⟩
  go_wp2
  go_ret2
  exact ⟨⟨_, _, rfl, ht⟩, hb⟩
/-- the ring of strings that was made first since world w0, and what it has: the last n of l -/
def RgInS (w0 w : World) (n : Nat) (l : List ByteArray) : Prop := ∃ sl r, RgS w w0.heap.size w0.heap.size sl r ∧ r.room = n ∧ r.list = lastN l n ∧ Below w0.heap.size w0 w
theorem rgInS_new (w : World) (n : Nat) (h1 : 1 ≤ n) (h2 : n ≤ 4096) : RgInS w (w.alloc (.cells #[.slice none 0 0, .int .i64 0, .int .i64 (n : Int)] 71)) n [] :=
  ⟨_, _, RgAt.new_ w n h1 h2 rfl, rfl, by simp [Rg.list, lastN], sub_alloc (Below.refl _ _) _⟩
theorem rgInS_push (w0 w : World) (n : Nat) (l : List ByteArray) (h : RgInS w0 w n l) (x : ByteArray) :
    Calls Try.prog 12 #[.pointer (some ⟨w0.heap.size, 0, none⟩), .string x] w fun e w' => (∃ y b, e = .returned (.tuple #[.string y, .bool b])) ∧ RgInS w0 w' n (l ++ [x]) := by
  obtain ⟨sl, r, hR, hrm, hrl, hBl⟩ := h
  refine (spush_any _ _ _ _ x w hR hBl.size (.inr trivial)).mono ?_
  rintro e w' ⟨he, sl3, h3, hK3⟩
  have hpl := Rg.push_last hR.ok (l := l) (by rw [hrm]; exact hrl) x
  rw [hrm] at hpl
  exact ⟨⟨_, _, he⟩, _, _, h3, by rw [Rg.push_room]; exact hrm, hpl, hBl.trans ((RgAt.pushKeep hR (Nat.le_refl _) hK3).below hBl.size fun _ h => h)⟩
end Go.Proofs.Ytgmgddccdfmiiaa
