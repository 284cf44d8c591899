/-
  2 texts of this claim, joined; each says itself what it proves. Condition: as each text says.
-/
import Derived.Test.YteljecehppeamaaGreatDoorJ02
import Derived.Test.YteljecehppeamaaGreatDoorJ10
import Derived.Test.YteljecehppeamaaGreatDoorJ14
import Derived.Test.YteljecehppeamaaGreatDoorJ06
import Derived.Shelf.Small.Wraps
/-
  Parse, walked. Conditions: the table and the errors lie in memory; texts of few bytes.
-/
namespace Go.Fw
open Go.RowKit
set_option linter.unusedVariables false
set_option linter.unusedSimpArgs false
theorem boxed_ownV {β : Type} (B Bn : Nat) (t : TypeId) (f : β → Value) : OwnFrom B (fun (s : β) W => Boxed W Bn t (f s)) := fun s W W' row hs hg hr => hs.kept hg fun e => by
  obtain ⟨_, o, ho, hc⟩ := hr Bn e.symm
  have h2 := ho.symm.trans hs
  cases h2
  simp [Obj.isCells] at hc
theorem same_ownS {α : Type} {S : Nat → Prop} {B : Nat} (W0 : World) (hS : ∀ k, S k → k < B) : OwnFrom B (fun (_ : List α) W => SameS S W0 W ∧ B ≤ W.heap.size) := fun s W W' row hs hg hr =>
  ⟨fun k hk => (hg.block k (by have := hS k hk; have := hs.2; omega) (fun e => by have := (hr k e.symm).1; have := hS k hk; omega)).trans (hs.1 k hk), Nat.le_trans hs.2 hg.size⟩
/-- one more, into a row that lies behind its variable -/
theorem boxed_app {W w1 : World} {n₀ B C : Nat} {t e : TypeId} {size : Nat} {v v' : Value} {k m : Nat} {xs ys : List Value} {tmp : Obj} (hv : Boxed W B t v) (hB : B < n₀) (hC : C ≤ B) (hrow : W.ownsRow n₀ e size v k xs) (hn₀ : n₀ ≤ W.heap.size)
    (hown' : w1.ownsRow n₀ e size v' m ys) (hgrow : (W.alloc tmp).grownBy w1 v.ownBlock) :
    Boxed w1 B t v ∧ Boxed (w1.setCell ⟨B, 0, none⟩ v') B t v' ∧ (w1.setCell ⟨B, 0, none⟩ v').ownsRow n₀ e size v' m ys ∧ KeepsOthers W (w1.setCell ⟨B, 0, none⟩ v') ∧ Below C W (w1.setCell ⟨B, 0, none⟩ v') := by
  have hne : v.ownBlock ≠ some B := fun h => by have := (hrow.lt B h).1; omega
  have hv1 : Boxed w1 B t v := by
    have h1 : Blk (W.alloc tmp) B t #[v] := Blk.alloc hv tmp
    exact h1.grown hgrow (fun h => hne h.symm)
  refine ⟨hv1, hv1.set v', own_set (p := ⟨B, 0, none⟩) hown' (fun h => by have h9 : n₀ ≤ B := (hown'.lt B h).1; omega) v', ?_, ?_⟩
  · refine ((KeepsOthers.alloc W tmp).trans (KeepsOthers.of_grownBy hgrow fun j o ej hj => ?_)).trans (KeepsOthers.setCell _ _ _)
    rcases (hrow.alloc tmp).2 with ⟨rfl, _⟩ | ⟨g, cap, cur, rfl, _, hgb, _⟩
    · simp [Value.ownBlock] at ej
    · obtain rfl : g = j := by simpa [Value.ownBlock] using ej
      rw [hgb] at hj; cases hj; rfl
  · refine (((Below.refl C W).alloc (by omega) tmp).grown hgrow (by simp; omega) fun j ej => ?_).setCell (p := ⟨B, 0, none⟩) hC v'
    have := (hrow.lt j ej).1
    omega
theorem keepsO_below {W W' : World} (h : Below W.heap.size W W') : KeepsOthers W W' := ⟨h.size, fun k o hk _ => (h.block k (Array.getElem?_eq_some_iff.1 hk).1).trans hk⟩
theorem sameS_below {S : Nat → Prop} {W W' : World} {n : Nat} (hS : ∀ k, S k → k < n) (hn : n ≤ W.heap.size) (h : Below W.heap.size W W') : SameS S W W' := fun k hk => h.block k (by have := hS k hk; omega)
theorem toList_neB {a b : ByteArray} (h : ¬ a = b) : (a.toList == b.toList) = false := by
  rw [beq_eq_false_iff_ne]
  intro e
  rw [ByteArray.toList_eq, ByteArray.toList_eq] at e
  exact h (Go.WideShapes.bytes_inj e)
end Go.Fw
namespace Go.Proofs.YteljecehppeamaaGreatDoor
open Go.RowKit Go.Shelf Go.Fw
set_option maxHeartbeats 2000000
set_option maxRecDepth 100000
set_option linter.unusedVariables false
set_option linter.unusedSimpArgs false
attribute [local go_sem] Oper.semAt_some
/-- what lies while words come -/
def PaI (w WA : World) (pre : List ByteArray) (W : World) : Prop :=
  (((((∃ v, Boxed W (w.heap.size + 2) 25 v ∧ W.ownsRow WA.heap.size 3 1 v (numsW pre).length (i64s (numsW pre)) ∧ True) ∧ Boxed W w.heap.size 25 (.slice none 0 0)) ∧ Boxed W (w.heap.size + 1) 4 (.bool false)) ∧ GoodW pre) ∧ Below w.heap.size w W) ∧ WA.heap.size ≤ W.heap.size
def PaX (w WA : World) (c : Code) (pre : List ByteArray) (W : World) : Prop :=
  c = .ret ∧ (((Boxed W w.heap.size 25 (.slice none 0 0) ∧ Boxed W (w.heap.size + 1) 4 (.bool false)) ∧ (∃ x ∈ pre, readW x = none)) ∧ Below w.heap.size w W) ∧ WA.heap.size ≤ W.heap.size
theorem ownFrom_size {α : Type} (B C : Nat) : OwnFrom B (fun (_ : List α) (W : World) => C ≤ W.heap.size) := fun s W W' row hs hg hr => Nat.le_trans hs hg.size
theorem paI_own {w WA : World} (h1 : w.heap.size ≤ WA.heap.size) : OwnFrom WA.heap.size (PaI w WA) :=
  OwnFrom.and (OwnFrom.and (OwnFrom.and (OwnFrom.and (OwnFrom.and (Own.from (holdsRow_own WA.heap.size (w.heap.size + 2) 25 3 1 (fun (pre : List ByteArray) => (numsW pre).length) (fun pre => i64s (numsW pre)) (fun _ _ => True)) _) (boxed_ownV _ _ _ fun _ => _)) (boxed_ownV _ _ _ fun _ => _)) (ownFrom_pure _ _)) (ownFrom_below (Nat.le_refl _) h1)) (ownFrom_size _ _)
theorem paX_own {w WA : World} (h1 : w.heap.size ≤ WA.heap.size) (c : Code) : OwnFrom WA.heap.size (PaX w WA c) := fun s W W' row hs hg hr =>
  ⟨hs.1, OwnFrom.and (OwnFrom.and (OwnFrom.and (OwnFrom.and (boxed_ownV WA.heap.size w.heap.size 25 fun (_ : List ByteArray) => .slice none 0 0) (boxed_ownV _ (w.heap.size + 1) 4 fun _ => .bool false)) (ownFrom_pure _ fun (pre : List ByteArray) => ∃ x ∈ pre, readW x = none)) (ownFrom_below (w₀ := w) (Nat.le_refl _) h1)) (ownFrom_size _ WA.heap.size) s W W' row hs.2 hg hr⟩
theorem boxed_other {W : World} {B b : Nat} {t : TypeId} {v u : Value} (h : Boxed W B t v) (hne : B ≠ b) : Boxed (W.setCell ⟨b, 0, none⟩ u) B t v := (Below.heap_setCell W ⟨b, 0, none⟩ u B hne).trans h
theorem paI_tch {w WA : World} {bs : Nat} (hb : bs = w.heap.size + 3) (hW : bs < WA.heap.size) : ∀ pre A B, PaI w WA pre A → TchAt bs A B → PaI w WA pre B := by
  rintro pre A _ ⟨⟨⟨⟨⟨⟨v, h1, h2, _⟩, h3⟩, h4⟩, h5⟩, h6⟩, h7⟩ ⟨u, rfl⟩
  refine ⟨⟨⟨⟨⟨⟨v, boxed_other h1 (by omega), own_set (p := ⟨bs, 0, none⟩) h2 (fun e => by have h9 : WA.heap.size ≤ bs := (h2.lt _ e).1; omega) u, trivial⟩, boxed_other h3 (by omega)⟩, boxed_other h4 (by omega)⟩, h5⟩, h6.setCell (p := ⟨bs, 0, none⟩) (by show w.heap.size ≤ bs; omega) u⟩, by simpa using h7⟩
theorem paX_tch {w WA : World} {bs : Nat} (hb : bs = w.heap.size + 3) : ∀ c pre A B, PaX w WA c pre A → TchAt bs A B → PaX w WA c pre B := by
  rintro c pre A _ ⟨h0, ⟨⟨⟨h3, h4⟩, h5⟩, h6⟩, h7⟩ ⟨u, rfl⟩
  exact ⟨h0, ⟨⟨⟨boxed_other h3 (by omega), boxed_other h4 (by omega)⟩, h5⟩, h6.setCell (p := ⟨bs, 0, none⟩) (by show w.heap.size ≤ bs; omega) u⟩, by simpa using h7⟩
/-- behind the two stores of a way out -/
theorem pa_out {w WA W1 : World} (h0 : Boxed W1 w.heap.size 25 (.slice none 0 0)) (h1 : Boxed W1 (w.heap.size + 1) 4 (.bool false)) (hb : Below w.heap.size w W1) (hs : WA.heap.size ≤ W1.heap.size) :
    KeepsOthers W1 ((W1.setCell ⟨w.heap.size, 0, none⟩ (.slice none 0 0)).setCell ⟨w.heap.size + 1, 0, none⟩ (.bool false)) ∧
    Boxed ((W1.setCell ⟨w.heap.size, 0, none⟩ (.slice none 0 0)).setCell ⟨w.heap.size + 1, 0, none⟩ (.bool false)) w.heap.size 25 (.slice none 0 0) ∧
    Boxed ((W1.setCell ⟨w.heap.size, 0, none⟩ (.slice none 0 0)).setCell ⟨w.heap.size + 1, 0, none⟩ (.bool false)) (w.heap.size + 1) 4 (.bool false) ∧
    Below w.heap.size w ((W1.setCell ⟨w.heap.size, 0, none⟩ (.slice none 0 0)).setCell ⟨w.heap.size + 1, 0, none⟩ (.bool false)) ∧
    WA.heap.size ≤ ((W1.setCell ⟨w.heap.size, 0, none⟩ (.slice none 0 0)).setCell ⟨w.heap.size + 1, 0, none⟩ (.bool false)).heap.size := by
  refine ⟨(KeepsOthers.setCell W1 _ _).trans (KeepsOthers.setCell _ _ _), ?_, ?_, (hb.setCell (p := ⟨w.heap.size, 0, none⟩) (Nat.le_refl _) _).setCell (p := ⟨w.heap.size + 1, 0, none⟩) (Nat.le_succ _) _, by simpa using hs⟩
  · have := boxed_other (u := .bool false) (b := w.heap.size + 1) (h0.set (.slice none 0 0)) (by omega)
    exact this
  · have := (boxed_other (u := .slice none 0 0) (b := w.heap.size) h1 (by omega)).set (.bool false)
    exact this
/-- what is read -/
theorem elemIntP : ElemS Tryz.prog 25 3 (.int .i64 0) 1 8 := ⟨Tryz.underlying25, by kernel_rfl, rfl⟩
def PaPost (s : ByteArray) (w : World) (e : Ending) (w' : World) : Prop :=
  (∃ v ns, e = .returned (.tuple #[v, .bool true]) ∧ ((s.size = 0 ∧ ns = []) ∨ (s.size ≠ 0 ∧ GoodW (wordsB 32 s) ∧ ns = numsW (wordsB 32 s))) ∧ MineS 1 w w' 3 v ns.length (i64s ns)) ∨
  (e = .returned (.tuple #[.slice none 0 0, .bool false]) ∧ (s.size ≠ 0 ∧ ∃ x ∈ wordsB 32 s, readW x = none) ∧ Below w.heap.size w w')
theorem parse_empty (w : World) : Calls Tryz.prog 67 #[.string ByteArray.empty] w (PaPost ByteArray.empty w) := by
  go_enter Tryz.func67, Tryz.ntmps67
  go_wp2_with fail
  refine bodyPost_ret (v := .tuple #[.slice none 0 0, .bool true]) (by simp [results, Tryz.results67, go_sem]) rfl (.inl ⟨_, [], rfl, .inl ⟨rfl, rfl⟩, World.ownsRow_nil _ _ _ _, ?_⟩)
  exact sub_alloc (sub_alloc (Below.refl _ w) _) _
theorem parse_some (s : ByteArray) (hs0 : s.size ≠ 0) (hsz : s.size ≤ 100000) (w : World) (hT : Tabs Tryz.prog w) : Calls Tryz.prog 67 #[.string s] w (PaPost s w) := by
  have hne : (s.toList == ByteArray.empty.toList) = false := toList_neB (fun e => hs0 (by rw [e]; rfl))
  have hne2 : (s.toList == []) = false := by
    have := hne
    simpa using this
  refine (callsIn_wide (n := 4)).1 ?_
  refine callsIn_of_wp_marks Tryz.func67 rfl trivial ?_ rfl
  simp only [Tryz.ntmps67, List.size_toArray, List.length_cons, List.length_nil, Nat.reduceAdd, Nat.reduceSub, Array.replicate_succ, Array.replicate_zero, List.push_toArray, List.append_toArray, List.nil_append, List.cons_append]
  gi_wp2
  refine ⟨trivial, (callsIn_wide.2 (splitSeq_any s ⟨#[32]⟩ _)).mono ?_⟩
  rintro e w' ⟨rfl, rfl⟩
  gi_wp2
  simp only [Nat.add_assoc, Nat.reduceAdd]
  obtain ⟨WA, hWA⟩ : ∃ WA, ((((((w.alloc (.cells #[.slice none 0 0] 25)).alloc (.cells #[.bool false] 4)).alloc (.cells #[.slice none 0 0] 25)).alloc (.cells #[.string s] 9)).alloc (.cells #[.string ⟨#[32]⟩] 9)).alloc (.cells #[.int .i64 0] 3)) = WA := ⟨_, rfl⟩
  have hsz' : WA.heap.size = w.heap.size + 6 := by rw [← hWA]; simp
  have b0 : Boxed WA w.heap.size 25 (.slice none 0 0) := by rw [← hWA]; exact (((((Blk.new_at w 25 #[.slice none 0 0] rfl).alloc _).alloc _).alloc _).alloc _).alloc _
  have b1 : Boxed WA (w.heap.size + 1) 4 (.bool false) := by rw [← hWA]; exact ((((Blk.new_at _ 4 #[.bool false] (by simp)).alloc _).alloc _).alloc _).alloc _
  have b2 : Boxed WA (w.heap.size + 2) 25 (.slice none 0 0) := by rw [← hWA]; exact (((Blk.new_at _ 25 #[.slice none 0 0] (by simp)).alloc _).alloc _).alloc _
  have b3 : Blk WA (w.heap.size + 3) 9 #[.string s] := by rw [← hWA]; exact ((Blk.new_at _ 9 #[.string s] (by simp)).alloc _).alloc _
  have b4 : Blk WA (w.heap.size + 4) 9 #[.string ⟨#[32]⟩] := by rw [← hWA]; exact (Blk.new_at _ 9 #[.string ⟨#[32]⟩] (by simp)).alloc _
  have b5 : Blk WA (w.heap.size + 5) 3 #[.int .i64 0] := by rw [← hWA]; exact Blk.new_at _ 3 #[.int .i64 0] (by simp)
  have hbA : Below w.heap.size w WA := by rw [← hWA]; exact sub_alloc (sub_alloc (sub_alloc (sub_alloc (sub_alloc (sub_alloc (Below.refl _ w) _) _) _) _) _) _
  rw [hWA]
  clear hWA
  have hin : ∀ k, In3 (w.heap.size + 3) (w.heap.size + 4) (w.heap.size + 5) k → k < WA.heap.size := by
    rintro k (rfl | rfl | rfl) <;> omega
  have hwl := wordsB_len 32 s
  refine wpIn_range_V rfl (by decide) (gf := 106) (lb := #[.pointer (some ⟨w.heap.size + 4, 0, none⟩), .pointer (some ⟨w.heap.size + 3, 0, none⟩), .pointer (some ⟨w.heap.size + 5, 0, none⟩)]) rfl trivial (enters_of Tryz.func106 (by kernel_rfl) rfl)
    (splitSeq1_stops 3 (by decide) (w.heap.size + 3) (w.heap.size + 4) (w.heap.size + 5) 32 s (by omega) (by omega) (by omega) WA b3 b4 b5) (fun h k => h.trans k) (fun W l o o' hl h1 h2 h3 => SameS.put hin W l o o' hl h1 h2 h3) (Below.refl _ _) (fun _ => rfl)
    (PaI w WA) (PaX w WA) (paI_own hbA.size) (paX_own hbA.size) (paI_tch rfl (by omega)) (paX_tch rfl)
    (fun A B k ht hk => by obtain ⟨u, rfl⟩ := ht; exact Below.heap_setCell A ⟨w.heap.size + 3, 0, none⟩ u k (by show k ≠ w.heap.size + 3; omega))
    ⟨⟨⟨⟨⟨⟨_, b2, World.ownsRow_nil _ _ _ _, trivial⟩, b0⟩, b1⟩, fun x hx => by cases hx⟩, hbA⟩, Nat.le_refl _⟩ ?a1 ?assign ?body ?done ?stop
  case assign =>
    intro l x W K hK
    gi_wp2
    exact hK
  case body =>
    rintro l pre x W ⟨⟨⟨⟨⟨⟨v, hv, hrow, _⟩, h0⟩, h1⟩, hgood⟩, hBl⟩, hsW⟩ hOk
    have hxm : x ∈ wordsB 32 s := hOk.subset (by simp)
    have hxs := wordsB_sizes hxm
    have hpl : pre.length ≤ 100001 := by have := hOk.length_le; simp at this; omega
    have hns := numsW_len pre
    obtain ⟨Av, cv, rfl, _, _⟩ := own_form hrow
    have hT1 := hT.up hBl
    have HA := Lib.hid (atoi_any x (by omega) W hT1)
    have hsW0 : WA.heap.size ≤ W.heap.size := hsW
    have HI := Lib.hid (And.intro hv (And.intro hrow (And.intro h0 (And.intro h1 (And.intro hgood (And.intro hBl hsW))))))
    have HT := Lib.hid hT1
    clear hv hrow h0 h1 hgood hBl hsW hT1 hT b0 b1 b2 b3 b4 b5
    gi_wp2
    refine ⟨trivial, (CallsIn.inRound l (callsIn_wide.2 HA.out)).mono ?_⟩
    rintro e W1 ⟨n, ok, ⟨ev, rfl, hev⟩, hrd, hb1⟩
    have HR := Lib.hid hrd
    have HB1 := Lib.hid hb1
    have hv1 := Blk.later HI.out.1 hb1
    clear hrd hb1
    rcases hev with ⟨rfl, rfl⟩ | ⟨rfl, t, p, rfl⟩
    · have hat := HR.out.2.1 rfl
      have HIT := Lib.hid (itoa_any n HR.out.1 W1 (HT.out.up HB1.out))
      gi_wp2
      refine ⟨trivial, (CallsIn.inRound l (callsIn_wide.2 HIT.out)).mono ?_⟩
      rintro e W2 ⟨rfl, hb2⟩
      have hb12 := sub_trans HB1.out hb2
      have hI2 : PaI w WA pre W2 := ⟨⟨⟨⟨⟨⟨_, Blk.later HI.out.1 hb12, own_later HI.out.2.1 hb12, trivial⟩, Blk.later HI.out.2.2.1 hb12⟩, Blk.later HI.out.2.2.2.1 hb12⟩, HI.out.2.2.2.2.1⟩, sub_trans HI.out.2.2.2.2.2.1 hb12⟩, Nat.le_trans HI.out.2.2.2.2.2.2 hb12.size⟩
      have HB12 := Lib.hid hb12
      have HATO := Lib.hid hat
      clear hb2 hb12 HI HT HB1 HIT hv1 hat
      obtain ⟨⟨⟨⟨⟨⟨v2, hv, hrow, _⟩, h0⟩, h1⟩, hgood⟩, hBl⟩, hsW⟩ := hI2
      obtain ⟨Av2, cv2, rfl, _, _⟩ := own_form hrow
      by_cases he : decB n = x
      · rw [he]
        have hrd := readW_ok HATO.out he
        have HRD := Lib.hid (And.intro (numsW_snoc (l := pre) hrd) (hgood.snoc hrd))
        have hxx : (x.toList != x.toList) = false := by simp
        obtain ⟨i0, hi, hz0, hz1, hz2⟩ := info_parts elemIntP.info
        have hc := hv.cell
        clear he hrd
        gi_wp2_with (gi_at_builtin; refine wpListIn_append_own _ rfl _ _ 25 rfl WA.heap.size 3 i0 (.int .i64 0) 1 8 elemIntP.under hi hz0 hz1 hz2 rfl (by decide) _ _ _ rfl (hrow.alloc _) ⟨W2.heap.size, 0, none⟩ 1 1 [.int .i64 n] rfl rfl (cell_one_new _ _ _) (by simp [Value.oneCell']) (by unfold maxLen; omega) (by omega) (by simp; omega) ?_; intro v' w1 hown' hgrow _; obtain ⟨g', cap', rfl⟩ := ownsRow_succ hown'; obtain ⟨hv1, hv2, hr2, hk2, hb2⟩ := boxed_app (C := w.heap.size) hv (by omega) (by omega) hrow hsW hown' hgrow; have hc1 := hv1.cell; have hf1 := hv1.frozen)
        have hsm := sameS_below hin hsW0 HB12.out
        have hkeep : ∀ k, k < WA.heap.size → k ≠ w.heap.size + 2 → (w1.setCell ⟨w.heap.size + 2, 0, none⟩ (.slice (some ⟨g', 0, none⟩) ((numsW pre).length + 1) cap')).heap[k]? = W2.heap[k]? := fun k hk6 hk2 => by
          refine (Below.heap_setCell w1 ⟨w.heap.size + 2, 0, none⟩ _ k hk2).trans ((hgrow.block k (by simp; omega) (fun e => ?_)).trans (Below.heap_alloc W2 _ k (by omega)))
          have := (hrow.lt k e.symm).1
          omega
        have hsm2 : SameS (In3 (w.heap.size + 3) (w.heap.size + 4) (w.heap.size + 5)) W2 (w1.setCell ⟨w.heap.size + 2, 0, none⟩ (.slice (some ⟨g', 0, none⟩) ((numsW pre).length + 1) cap')) := fun k hk => hkeep k (hin k hk) (by rcases hk with rfl | rfl | rfl <;> omega)
        have hb3 := hBl.trans hb2
        refine ⟨((keepsO_below HB12.out).trans hk2).from _, hsm.trans hsm2, ⟨⟨⟨⟨⟨_, hv2, by rw [HRD.out.1]; simpa [i64s] using hr2, trivial⟩, ?_⟩, ?_⟩, HRD.out.2⟩, hb3⟩, by have := hb2.size; simp at this ⊢; omega⟩
        · exact (hkeep _ (by omega) (by omega)).trans h0
        · exact (hkeep _ (by omega) (by omega)).trans h1
      · have hno := readW_other HATO.out he
        have HNO := Lib.hid hno
        have hnx := toList_neB he
        have HO := Lib.hid (pa_out h0 h1 hBl hsW)
        have c0 := h0.cell
        have f0 := h0.frozen
        have c1 := h1.cell
        have f1 := h1.frozen
        clear hno he hv hrow h0 h1 hBl
        gi_wp2
        exact ⟨((keepsO_below HB12.out).trans HO.out.1).from _, rfl, ⟨⟨⟨HO.out.2.1, HO.out.2.2.1⟩, ⟨x, by simp, HNO.out⟩⟩, HO.out.2.2.2.1⟩, HO.out.2.2.2.2⟩
    · have hno := readW_bad (HR.out.2.2 rfl)
      have HNO := Lib.hid hno
      have h0 : Boxed W1 w.heap.size 25 (.slice none 0 0) := Blk.later HI.out.2.2.1 HB1.out
      have h1 : Boxed W1 (w.heap.size + 1) 4 (.bool false) := Blk.later HI.out.2.2.2.1 HB1.out
      have HO := Lib.hid (pa_out (WA := WA) h0 h1 (sub_trans HI.out.2.2.2.2.2.1 HB1.out) (Nat.le_trans HI.out.2.2.2.2.2.2 HB1.out.size))
      have c0 := h0.cell
      have f0 := h0.frozen
      have c1 := h1.cell
      have f1 := h1.frozen
      clear hno HI HT hv1 h0 h1
      gi_wp2
      rename_i K hK
      refine ⟨trivial, hK _ _ ?_⟩
      clear hK K
      gi_wp2
      exact ⟨((keepsO_below HB1.out).trans HO.out.1).from _, rfl, ⟨⟨⟨HO.out.2.1, HO.out.2.2.1⟩, ⟨x, by simp, HNO.out⟩⟩, HO.out.2.2.2.1⟩, HO.out.2.2.2.2⟩
  case done =>
    rintro D ys W hD rfl ⟨⟨⟨⟨⟨⟨v, hv, hrow, _⟩, h0⟩, h1⟩, hgood⟩, hBl⟩, hsW⟩ hK
    have hns := numsW_len (wordsB 32 s)
    obtain ⟨Av, cv, rfl, _, _⟩ := own_form hrow
    have cV := hv.cell
    have c0 := h0.cell
    have f0 := h0.frozen
    have c1 := h1.cell
    have f1 := h1.frozen
    have hx0 := h0.set (.slice Av (numsW (wordsB 32 s)).length cv)
    have hx0b := boxed_other (u := .bool true) (b := w.heap.size + 1) hx0 (by omega)
    have hx1 := (boxed_other (u := .slice Av (numsW (wordsB 32 s)).length cv) (b := w.heap.size) h1 (by omega)).set (.bool true)
    have hbl2 := (hBl.setCell (p := ⟨w.heap.size, 0, none⟩) (Nat.le_refl _) (.slice Av (numsW (wordsB 32 s)).length cv)).setCell (p := ⟨w.heap.size + 1, 0, none⟩) (Nat.le_succ _) (.bool true)
    have hrow2 := own_set (p := ⟨w.heap.size + 1, 0, none⟩) (own_set (p := ⟨w.heap.size, 0, none⟩) hrow (fun e => by have h9 : WA.heap.size ≤ w.heap.size := (hrow.lt _ e).1; omega) (.slice Av (numsW (wordsB 32 s)).length cv)) (fun e => by have h9 : WA.heap.size ≤ w.heap.size + 1 := (hrow.lt _ e).1; omega) (.bool true)
    have hK2 : ((W.setCell ⟨w.heap.size, 0, none⟩ (.slice Av (numsW (wordsB 32 s)).length cv)).setCell ⟨w.heap.size + 1, 0, none⟩ (.bool true)).heap[D]? = some (.deferred (some [])) := ((Below.heap_setCell _ ⟨w.heap.size + 1, 0, none⟩ _ D (by show D ≠ w.heap.size + 1; omega)).trans (Below.heap_setCell W ⟨w.heap.size, 0, none⟩ _ D (by show D ≠ w.heap.size; omega))).trans hK
    obtain ⟨W2, hW2⟩ : ∃ W2, ((W.setCell ⟨w.heap.size, 0, none⟩ (.slice Av (numsW (wordsB 32 s)).length cv)).setCell ⟨w.heap.size + 1, 0, none⟩ (.bool true)) = W2 := ⟨_, rfl⟩
    rw [hW2] at hx0b hx1 hbl2 hrow2 hK2
    have hA3 : Blk (W2.putObj D (.deferred none)) w.heap.size 25 #[.slice Av (numsW (wordsB 32 s)).length cv] := (World.putObj_heap_other (by omega)).trans hx0b
    have hB3 : Blk (W2.putObj D (.deferred none)) (w.heap.size + 1) 4 #[.bool true] := (World.putObj_heap_other (by omega)).trans hx1
    have z0 := hA3.cell 0
    have z1 := hB3.cell 0
    simp at z0 z1
    have hbw3 := hbl2.trans (belowK_b (w := w) (Nat.le_refl _) _ D _ (.deferred none) (by omega) hK2 rfl rfl)
    have hrow3 := ownsRow_putObj hrow2 (.deferred none) hK2 rfl
    have HF := Lib.hid (And.intro hK2 (And.intro z0 (And.intro z1 (And.intro hbw3 (And.intro hW2 (And.intro hrow3 hgood))))))
    clear hx0 hx0b hx1 hbl2 hrow2 hK2 hA3 hB3 z0 z1 hbw3 hrow3 hW2 hgood hv h0 h1 b0 b1 b2 b3 b4 b5 hrow
    gi_wp2
    rw [HF.out.2.2.2.2.1]
    refine ⟨by simp, .inl ⟨_, _, rfl, run_takeDeferred HF.out.1, ?_⟩⟩
    have z0 := HF.out.2.1
    have z1 := HF.out.2.2.1
    refine ⟨.tuple #[.slice Av (numsW (wordsB 32 s)).length cv, .bool true], by simp [results, Tryz.results67, go_sem, z0, z1], .inl ⟨_, _, rfl, .inr ⟨hs0, HF.out.2.2.2.2.2.2, rfl⟩, own_lower HF.out.2.2.2.2.2.1 hbA.size, HF.out.2.2.2.1⟩⟩
  case stop =>
    rintro D c pre W hD ⟨hS1, _⟩ ⟨rfl, ⟨⟨⟨h0, h1⟩, hbad⟩, hBl⟩, hsW⟩ hK
    have hA3 : Blk (W.putObj D (.deferred none)) w.heap.size 25 #[.slice none 0 0] := (World.putObj_heap_other (by omega)).trans h0
    have hB3 : Blk (W.putObj D (.deferred none)) (w.heap.size + 1) 4 #[.bool false] := (World.putObj_heap_other (by omega)).trans h1
    have hbw3 := hBl.trans (belowK_b (w := w) (Nat.le_refl _) _ D _ (.deferred none) (by omega) hK rfl rfl)
    have z0 := hA3.cell 0
    have z1 := hB3.cell 0
    simp at z0 z1
    clear hA3 hB3
    gi_wp2
    refine ⟨by simp, .inl ⟨_, _, rfl, run_takeDeferred hK, ?_⟩⟩
    obtain ⟨x, hx, hno⟩ := hbad
    exact ⟨.tuple #[.slice none 0 0, .bool false], by simp [results, Tryz.results67, go_sem, z0, z1], .inr ⟨rfl, ⟨hs0, x, hS1.subset hx, hno⟩, hbw3⟩⟩
theorem parse_any (s : ByteArray) (hsz : s.size ≤ 100000) (w : World) (hT : Tabs Tryz.prog w) : Calls Tryz.prog 67 #[.string s] w (PaPost s w) := by
  by_cases h : s.size = 0
  · have e : s = ByteArray.empty := bytes_ext (by have : s.data.toList.length = 0 := by simpa using h
                                                  rw [List.eq_nil_of_length_eq_zero this]; rfl)
    subst e
    exact parse_empty w
  · exact parse_some s h hsz w hT
end Go.Proofs.YteljecehppeamaaGreatDoor
/-
  script.numbers walked (chapter 42). Condition: strconv's table and errors lie in memory.
-/
namespace Go.Proofs
open Go.Shelf
def Tryz.lcutp_ren : Go.Shelf.Ren := ⟨fun | 103 => 66 | 210 => 78 | 206 => 96 | n => n, fun | 9 => 9 | 4 => 4 | 24 => 104 | 3 => 3 | n => n, fun | n => n⟩
theorem Tryz.lcutp : Go.Proofs.Lays.n103 Tryz.prog Tryz.lcutp_ren := {
  mixed := by kernel_rfl
  f103 := Tryz.func66.trans (congrArg some (by kernel_rfl))
  f206 := Tryz.func96.trans (congrArg some (by kernel_rfl))
  f210 := Tryz.func78.trans (congrArg some (by kernel_rfl))
  t3 := Tryz.underlying3
  a3 := Tryz.isAgg3
  z3 := Tryz.sizeOf3
  v3 := Tryz.zeroValue3
  t4 := Tryz.underlying4
  a4 := Tryz.isAgg4
  z4 := Tryz.sizeOf4
  v4 := Tryz.zeroValue4
  t9 := Tryz.underlying9
  a9 := Tryz.isAgg9
  z9 := Tryz.sizeOf9
  v9 := Tryz.zeroValue9
  t24 := Tryz.underlying104
  a24 := Tryz.isAgg104
  z24 := Tryz.sizeOf104
  v24 := Tryz.zeroValue104 }
end Go.Proofs
namespace Go.Fw
open Go.RowKit
set_option linter.unusedVariables false
set_option linter.unusedSimpArgs false
/-- what stands behind a line's first word -/
def restL (word s : ByteArray) : List UInt8 := Lib.trimPrefix s.data.toList (word.data.toList ++ [32])
def goodB (l : List ByteArray) : Bool := l.all fun x => (readW x).isSome
theorem goodB_iff {l : List ByteArray} : goodB l = true ↔ GoodW l := by
  unfold goodB GoodW
  rw [List.all_eq_true]
  refine ⟨fun h x hx e => ?_, fun h x hx => ?_⟩
  · have := h x hx
    rw [e] at this
    cases this
  · cases hr : readW x
    · exact absurd hr (h x hx)
    · rfl
/-- the numbers behind a line's first word -/
def numR (word s : ByteArray) : Option (List Int) :=
  if Lib.hasPrefix s.data.toList (word.data.toList ++ [32]) = true then (if restL word s = [] then none else if goodB (wordsB 32 ⟨(restL word s).toArray⟩) = true then some (numsW (wordsB 32 ⟨(restL word s).toArray⟩)) else none) else none
theorem numR_far {word s : ByteArray} (h : Lib.hasPrefix s.data.toList (word.data.toList ++ [32]) = false) : numR word s = none := by unfold numR; rw [h]; rfl
theorem numR_bare {word s : ByteArray} (h : restL word s = []) : numR word s = none := by unfold numR; split <;> simp [h]
theorem numR_yes {word s : ByteArray} (h : Lib.hasPrefix s.data.toList (word.data.toList ++ [32]) = true) (h0 : restL word s ≠ []) (hg : GoodW (wordsB 32 ⟨(restL word s).toArray⟩)) : numR word s = some (numsW (wordsB 32 ⟨(restL word s).toArray⟩)) := by
  unfold numR
  rw [if_pos h, if_neg h0, if_pos (goodB_iff.2 hg)]
theorem numR_bad {word s x : ByteArray} (hx : x ∈ wordsB 32 ⟨(restL word s).toArray⟩) (hn : readW x = none) : numR word s = none := by
  unfold numR
  split
  · split
    · rfl
    · rw [if_neg]
      intro h
      exact goodB_iff.1 h x hx hn
  · rfl
theorem isPrefix_app (a b : List UInt8) : Lib.hasPrefix (a ++ b) a = true := by
  unfold Lib.hasPrefix
  rw [List.isPrefixOf_iff_prefix]
  exact List.prefix_append a b
theorem trim_app (a b : List UInt8) : Lib.trimPrefix (a ++ b) a = b := by
  unfold Lib.trimPrefix
  rw [if_pos (isPrefix_app a b), List.drop_left]
theorem numR_text {word : ByteArray} {l : List Int} (h0 : l ≠ []) (h : ∀ x ∈ l, In64 x) : numR word ⟨(word.data.toList ++ 32 :: textN l).toArray⟩ = some l := by
  have e1 : (⟨(word.data.toList ++ 32 :: textN l).toArray⟩ : ByteArray).data.toList = (word.data.toList ++ [32]) ++ textN l := by simp
  have e2 : restL word ⟨(word.data.toList ++ 32 :: textN l).toArray⟩ = textN l := by unfold restL; rw [e1]; exact trim_app _ _
  have e3 : wordsB 32 ⟨(textN l).toArray⟩ = l.map decB := words_text h0
  have hg := goodW_of (ns := l) h
  rw [numR_yes (by rw [e1]; exact isPrefix_app _ _) (by
    rw [e2]
    intro e
    have := text_ne h0
    rw [show (textB l).size = (textN l).length by show (textB l).data.size = _; simp [textB], e] at this
    exact this rfl) (by rw [e2, e3]; exact hg.1), e2, e3, hg.2]
end Go.Fw
namespace Go.Proofs.YteljecehppeamaaGreatDoor
open Go.RowKit Go.Fw Go.Shelf
set_option maxHeartbeats 2000000
set_option maxRecDepth 100000
set_option linter.unusedVariables false
set_option linter.unusedSimpArgs false
theorem cutp_any (s p : ByteArray) (w : World) : Calls Tryz.prog 66 #[.string s, .string p] w fun e w' => e = .returned (.tuple #[.string ⟨(Lib.trimPrefix s.data.toList p.data.toList).toArray⟩, .bool (Lib.hasPrefix s.data.toList p.data.toList)]) ∧ w' = w := by
  have h1 := Any.strings_CutPrefix Tryz.lcutp s p w
  change Calls Tryz.prog 66 _ _ _ at h1
  exact h1
theorem scnum_ (word s : ByteArray) (hs : s.size ≤ 100000) (hw : word.size ≤ 1000) (w : World) (hT : Tabs Tryz.prog w) : Calls Tryz.prog 49 #[.string s, .string word] w fun e w' => (∃ v ns, e = .returned (.tuple #[v, .bool true]) ∧ numR word s = some ns ∧ MineS 1 w w' 3 v ns.length (i64s ns)) ∨ (e = .returned (.tuple #[.slice none 0 0, .bool false]) ∧ numR word s = none ∧ Below w.heap.size w w') := by
  have HC : Hid (∀ W, Calls Tryz.prog 66 #[.string s, .string (word ++ ⟨#[32]⟩)] W fun e w' => e = .returned (.tuple #[.string ⟨(restL word s).toArray⟩, .bool (Lib.hasPrefix s.data.toList (word.data.toList ++ [32]))]) ∧ w' = W) := Lib.hid (fun W => by
    have h := cutp_any s (word ++ ⟨#[32]⟩) W
    have e : (word ++ (⟨#[32]⟩ : ByteArray)).data.toList = word.data.toList ++ [32] := by simp
    rw [e] at h
    exact h)
  have HL : Hid ((restL word s).length ≤ 100000) := Lib.hid (by have := Lib.trimPrefix_le s.data.toList (word.data.toList ++ [32]); have h2 : s.data.toList.length = s.size := rfl; unfold restL; omega)
  have HT := Lib.hid hT
  have HF := Lib.hid (fun h => numR_far (word := word) (s := s) h)
  have HB0 := Lib.hid (fun h => numR_bare (word := word) (s := s) h)
  have HY := Lib.hid (fun h h0 hg => numR_yes (word := word) (s := s) h h0 hg)
  have HN := Lib.hid (fun x hx hn => numR_bad (word := word) (s := s) (x := x) hx hn)
  clear hT hs
  generalize numR word s = nr at *
  generalize restL word s = rl at *
  generalize Lib.hasPrefix s.data.toList (word.data.toList ++ [32]) = hp at *
  go_enter Tryz.func49, Tryz.ntmps49
  go_wp2_with fail
  refine (HC.out _).mono ?_
  rintro e w1 ⟨rfl, rfl⟩
  cases hp with
  | false =>
    have HE := Lib.hid (HF.out rfl)
    go_wp2
    go_ret2
    exact (.inr ⟨rfl, HE.out, Below.refl _ _⟩)
  | true =>
    by_cases h0 : rl = []
    · have HE := Lib.hid (HB0.out h0)
      subst h0
      go_wp2
      go_ret2
      exact (.inr ⟨rfl, HE.out, Below.refl _ _⟩)
    · have hne : (rl == []) = false := by simpa using h0
      have H0 := Lib.hid h0
      clear h0
      go_wp2_with fail
      refine (parse_any ⟨rl.toArray⟩ (by have := HL.out; show (⟨rl.toArray⟩ : ByteArray).data.size ≤ _; simpa using this) _ HT.out).mono ?_
      rintro e w2 (⟨v, ns, rfl, hns, hm⟩ | ⟨rfl, ⟨_, x, hx, hno⟩, hb⟩)
      · have HE : Hid (nr = some ns) := Lib.hid (by
          rcases hns with ⟨h1, _⟩ | ⟨_, h2, h3⟩
          · exact absurd (by have h4 : (⟨rl.toArray⟩ : ByteArray).data.size = 0 := h1; simpa using h4) H0.out
          · rw [h3]
            exact HY.out trivial H0.out h2)
        obtain ⟨A, c, rfl, _, _⟩ := own_form hm.own
        have HM := Lib.hid hm
        clear hm hns
        go_wp2
        go_ret2
        exact (.inl ⟨_, _, rfl, HE.out, HM.out⟩)
      · have HE := Lib.hid (HN.out x hx hno)
        clear hx hno
        go_wp2
        go_ret2
        exact (.inr ⟨rfl, HE.out, hb⟩)
def NuPost (word s : ByteArray) (w : World) (e : Ending) (w' : World) : Prop :=
  (∃ v ns, e = .returned (.tuple #[v, .bool true]) ∧ numR word s = some ns ∧ MineS 1 w w' 3 v ns.length (i64s ns)) ∨
  (e = .returned (.tuple #[.slice none 0 0, .bool false]) ∧ numR word s = none ∧ Below w.heap.size w w')
theorem scnum_any (word s : ByteArray) (hs : s.size ≤ 100000) (hw : word.size ≤ 1000) (w : World) (hT : Tabs Tryz.prog w) : Calls Tryz.prog 49 #[.string s, .string word] w (NuPost word s w) := scnum_ word s hs hw w hT
end Go.Proofs.YteljecehppeamaaGreatDoor
