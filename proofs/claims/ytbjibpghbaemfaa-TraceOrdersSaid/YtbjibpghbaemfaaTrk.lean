/-
  A task's track: what may follow what. Conditions: numbers of calls of at most a million.
-/
import Derived.Test.YtbjibpghbaemfaaEvS
import Derived.Deep.CutBlock
import Derived.Deep.DeepCutAuto
import Derived.Test.YtbjibpghbaemfaaKeep
namespace Go.Fw
set_option linter.unusedVariables false
structure Tr where
  nth : Int
  last : Int
  hi : Int
  lo : Int
def Tr.zero : Tr := ⟨0, 0, 0, 0⟩
def Tr.is (t : Tr) (x : Ev) : Bool :=
  if x.kind = 1 then t.last == 0 || t.last == 3 else if x.kind = 2 then t.last == 1 else if x.kind = 3 then t.last == 2 else if x.kind = 4 then t.last == 0 || t.last == 7
  else if x.kind = 5 then t.last == 4 else if x.kind = 6 then t.last == 5 else if x.kind = 7 then t.last == 5 || t.last == 6 else false
def Tr.next (t : Tr) (x : Ev) : Tr := ⟨if x.kind = 1 ∧ t.last = 3 then t.nth + 1 else t.nth, x.kind, if x.kind = 4 then x.hi else t.hi, if x.kind = 4 then x.lo else t.lo⟩
def Tr.ok (t : Tr) (x : Ev) : Bool := t.is x && (x.nth == (t.next x).nth && (x.hi == (t.next x).hi && x.lo == (t.next x).lo))
def Tr.arr (t : Tr) : Array Value := #[.int .i64 t.nth, .int .i64 t.last, .int .u64 t.hi, .int .u64 t.lo]
/-- ahead of the last store -/
def Tr.mid (t : Tr) (x : Ev) : Array Value := #[.int .i64 (t.next x).nth, .int .i64 t.last, .int .u64 (t.next x).hi, .int .u64 (t.next x).lo]
end Go.Fw
namespace Go.Proofs.Ytbjibpghbaemfaa
open Go.RowKit Go.Fw Go.Shelf
set_option maxHeartbeats 2000000
set_option maxRecDepth 100000
set_option linter.unusedVariables false
set_option linter.unusedSimpArgs false
theorem kind_cases (n : Int) : n = 1 ∨ n = 2 ∨ n = 3 ∨ n = 4 ∨ n = 5 ∨ n = 6 ∨ n = 7 ∨ (n ≠ 1 ∧ n ≠ 2 ∧ n ≠ 3 ∧ n ≠ 4 ∧ n ≠ 5 ∧ n ≠ 6 ∧ n ≠ 7) := by omega
theorem key_eql (x1 x2 y1 y2 : Int) (w : World) : (binOp .eql 50 (.agg #[.int .u64 x1, .int .u64 x2]) (.agg #[.int .u64 y1, .int .u64 y2])).run Try.prog w = .ok (.bool (x1 == y1 && x2 == y2)) w := by
  have hp : Try.prog.stoodInHeld 50 = false := by kernel_rfl
  rw [run_eql_struct, run_equalIn_agg w 9999 50 _ _ (by simp only [Program.fieldsOf, Try.underlying50]) hp]
  simp only [Program.fieldsOf, Try.underlying50]
  simp [Op.eqFields, go_sem, Try.underlying48]
  by_cases h1 : x1 = y1 <;> by_cases h2 : x2 = y2 <;> simp [h1, h2]
theorem follows_any (t : Tr) (x : Ev) (p : Nat) (w : World) (hx : EvOk x) (hb : Blk w p 62 t.arr) (hn : 0 ≤ t.nth ∧ t.nth ≤ 1000000) :
    Calls Try.prog 22 #[.pointer (some ⟨p, 0, none⟩), .agg x.cs] w fun e w' => e = .returned (.bool (t.ok x)) ∧ Blk w' p 62 (t.next x).arr ∧ Keep (fun j => j = p) w w' := by
  have c0 := new_cell (w := w) (t := 58) hx.c0
  have c2 := new_cell (w := w) (t := 58) hx.c2
  have c27 := new_cell (w := w) (t := 58) hx.c27
  have c28 := new_cell (w := w) (t := 58) hx.c28
  have hbl := hb.lt
  have b1 := hb.alloc (.cells x.cs 58)
  have bx := Blk.new_at w 58 x.cs rfl
  have hK := Keep.of_below (L := fun j => j = p) (sub_alloc (Below.refl w.heap.size w) (.cells x.cs 58))
  have HX := Lib.hid hx
  clear hb hx
  obtain ⟨cs, kind, task, nth, hi, lo⟩ := x
  obtain ⟨tn, tl, th, tlo⟩ := t
  have HB := Lib.hid (And.intro b1 (And.intro bx hK))
  have t0 := b1.cell 0
  have t1 := b1.cell 1
  have t2 := b1.cell 2
  have t3 := b1.cell 3
  have f0 := b1.frozen 0
  have f1 := b1.frozen 1
  have f2 := b1.frozen 2
  have f3 := b1.frozen 3
  simp [Tr.arr] at t0 t1 t2 t3
  simp only at c0 c2 c27 c28 hn
  clear b1 bx hK
  go_enter Try.func22, Try.ntmps22
  go_upto_block 0 with fail
  generalize w.alloc (.cells cs 58) = W1 at *
  go_cut [5] (fun s5 wx => s5 = .bool (Tr.is ⟨tn, tl, th, tlo⟩ ⟨cs, kind, task, nth, hi, lo⟩) ∧ Hid (Blk wx p 62 (Tr.mid ⟨tn, tl, th, tlo⟩ ⟨cs, kind, task, nth, hi, lo⟩) ∧ Blk wx w.heap.size 58 cs ∧ Keep (fun j => j = p) w wx))
  case first =>
    rcases kind_cases kind with rfl | rfl | rfl | rfl | rfl | rfl | rfl | ⟨k1, k2, k3, k4, k5, k6, k7⟩
    · by_cases l0 : tl = 0
      · subst l0
        go_wp2
        go_meet
        refine ⟨by simp [Tr.is], Lib.hid ⟨by simpa [Tr.mid, Tr.next, Tr.arr] using HB.out.1, HB.out.2.1, HB.out.2.2⟩⟩
      · by_cases l1 : tl = 3
        · subst l1
          go_wp2
          go_meet
          refine ⟨by simp [Tr.is], Lib.hid ⟨by simpa [Tr.mid, Tr.next, Tr.arr] using HB.out.1.set_ 0 (.int .i64 (tn + 1)), HB.out.2.1.far (p := ⟨p, 0, none⟩) (by show w.heap.size ≠ p; omega) _, HB.out.2.2.setCell (p := ⟨p, 0, none⟩) (.inl rfl) _⟩⟩
        · have m0 : (tl == 0) = false := by simp [l0]
          have m1 : (tl == 3) = false := by simp [l1]
          go_wp2
          go_meet
          refine ⟨by simp [Tr.is, l0, l1], Lib.hid ⟨by simpa [Tr.mid, Tr.next, Tr.arr, l0, l1] using HB.out.1, HB.out.2.1, HB.out.2.2⟩⟩
    · by_cases l0 : tl = 1
      · subst l0
        go_wp2
        go_meet
        refine ⟨by simp [Tr.is], Lib.hid ⟨by simpa [Tr.mid, Tr.next, Tr.arr] using HB.out.1, HB.out.2.1, HB.out.2.2⟩⟩
      · have m0 : (tl == 1) = false := by simp [l0]
        go_wp2
        go_meet
        refine ⟨by simp [Tr.is, l0], Lib.hid ⟨by simpa [Tr.mid, Tr.next, Tr.arr, l0] using HB.out.1, HB.out.2.1, HB.out.2.2⟩⟩
    · by_cases l0 : tl = 2
      · subst l0
        go_wp2
        go_meet
        refine ⟨by simp [Tr.is], Lib.hid ⟨by simpa [Tr.mid, Tr.next, Tr.arr] using HB.out.1, HB.out.2.1, HB.out.2.2⟩⟩
      · have m0 : (tl == 2) = false := by simp [l0]
        go_wp2
        go_meet
        refine ⟨by simp [Tr.is, l0], Lib.hid ⟨by simpa [Tr.mid, Tr.next, Tr.arr, l0] using HB.out.1, HB.out.2.1, HB.out.2.2⟩⟩
    · by_cases l0 : tl = 0
      · subst l0
        go_wp2
        go_meet
        refine ⟨by simp [Tr.is], Lib.hid ⟨by simpa [Tr.mid, Tr.next, Tr.arr] using (HB.out.1.set_ 2 (.int .u64 hi)).set_ 3 (.int .u64 lo), (HB.out.2.1.far (p := ⟨p, 2, none⟩) (by show w.heap.size ≠ p; omega) _).far (p := ⟨p, 3, none⟩) (by show w.heap.size ≠ p; omega) _, (HB.out.2.2.setCell (p := ⟨p, 2, none⟩) (.inl rfl) _).setCell (p := ⟨p, 3, none⟩) (.inl rfl) _⟩⟩
      · by_cases l1 : tl = 7
        · subst l1
          go_wp2
          go_meet
          refine ⟨by simp [Tr.is], Lib.hid ⟨by simpa [Tr.mid, Tr.next, Tr.arr] using (HB.out.1.set_ 2 (.int .u64 hi)).set_ 3 (.int .u64 lo), (HB.out.2.1.far (p := ⟨p, 2, none⟩) (by show w.heap.size ≠ p; omega) _).far (p := ⟨p, 3, none⟩) (by show w.heap.size ≠ p; omega) _, (HB.out.2.2.setCell (p := ⟨p, 2, none⟩) (.inl rfl) _).setCell (p := ⟨p, 3, none⟩) (.inl rfl) _⟩⟩
        · have m0 : (tl == 0) = false := by simp [l0]
          have m1 : (tl == 7) = false := by simp [l1]
          go_wp2
          go_meet
          refine ⟨by simp [Tr.is, l0, l1], Lib.hid ⟨by simpa [Tr.mid, Tr.next, Tr.arr] using (HB.out.1.set_ 2 (.int .u64 hi)).set_ 3 (.int .u64 lo), (HB.out.2.1.far (p := ⟨p, 2, none⟩) (by show w.heap.size ≠ p; omega) _).far (p := ⟨p, 3, none⟩) (by show w.heap.size ≠ p; omega) _, (HB.out.2.2.setCell (p := ⟨p, 2, none⟩) (.inl rfl) _).setCell (p := ⟨p, 3, none⟩) (.inl rfl) _⟩⟩
    · by_cases l0 : tl = 4
      · subst l0
        go_wp2
        go_meet
        refine ⟨by simp [Tr.is], Lib.hid ⟨by simpa [Tr.mid, Tr.next, Tr.arr] using HB.out.1, HB.out.2.1, HB.out.2.2⟩⟩
      · have m0 : (tl == 4) = false := by simp [l0]
        go_wp2
        go_meet
        refine ⟨by simp [Tr.is, l0], Lib.hid ⟨by simpa [Tr.mid, Tr.next, Tr.arr, l0] using HB.out.1, HB.out.2.1, HB.out.2.2⟩⟩
    · by_cases l0 : tl = 5
      · subst l0
        go_wp2
        go_meet
        refine ⟨by simp [Tr.is], Lib.hid ⟨by simpa [Tr.mid, Tr.next, Tr.arr] using HB.out.1, HB.out.2.1, HB.out.2.2⟩⟩
      · have m0 : (tl == 5) = false := by simp [l0]
        go_wp2
        go_meet
        refine ⟨by simp [Tr.is, l0], Lib.hid ⟨by simpa [Tr.mid, Tr.next, Tr.arr, l0] using HB.out.1, HB.out.2.1, HB.out.2.2⟩⟩
    · by_cases l0 : tl = 5
      · subst l0
        go_wp2
        go_meet
        refine ⟨by simp [Tr.is], Lib.hid ⟨by simpa [Tr.mid, Tr.next, Tr.arr] using HB.out.1, HB.out.2.1, HB.out.2.2⟩⟩
      · by_cases l1 : tl = 6
        · subst l1
          go_wp2
          go_meet
          refine ⟨by simp [Tr.is], Lib.hid ⟨by simpa [Tr.mid, Tr.next, Tr.arr] using HB.out.1, HB.out.2.1, HB.out.2.2⟩⟩
        · have m0 : (tl == 5) = false := by simp [l0]
          have m1 : (tl == 6) = false := by simp [l1]
          go_wp2
          go_meet
          refine ⟨by simp [Tr.is, l0, l1], Lib.hid ⟨by simpa [Tr.mid, Tr.next, Tr.arr, l0, l1] using HB.out.1, HB.out.2.1, HB.out.2.2⟩⟩
    · have m1 : (kind == 1) = false := by simp [k1]
      have m2 : (kind == 2) = false := by simp [k2]
      have m3 : (kind == 3) = false := by simp [k3]
      have m4 : (kind == 4) = false := by simp [k4]
      have m5 : (kind == 5) = false := by simp [k5]
      have m6 : (kind == 6) = false := by simp [k6]
      have m7 : (kind == 7) = false := by simp [k7]
      go_wp2
      go_meet
      refine ⟨by simp [Tr.is, k1, k2, k3, k4, k5, k6, k7], Lib.hid ⟨by simpa [Tr.mid, Tr.next, Tr.arr, k1, k4] using HB.out.1, HB.out.2.1, HB.out.2.2⟩⟩
  case rest =>
    obtain ⟨rfl, HC⟩ := hcut
    have hbw := HC.out.1
    have hbx := HC.out.2.1
    have hnk : (Tr.next ⟨tn, tl, th, tlo⟩ ⟨cs, kind, task, nth, hi, lo⟩).last = kind := rfl
    have hok : Tr.ok ⟨tn, tl, th, tlo⟩ ⟨cs, kind, task, nth, hi, lo⟩ = (Tr.is ⟨tn, tl, th, tlo⟩ ⟨cs, kind, task, nth, hi, lo⟩ && (nth == (Tr.next ⟨tn, tl, th, tlo⟩ ⟨cs, kind, task, nth, hi, lo⟩).nth && (hi == (Tr.next ⟨tn, tl, th, tlo⟩ ⟨cs, kind, task, nth, hi, lo⟩).hi && lo == (Tr.next ⟨tn, tl, th, tlo⟩ ⟨cs, kind, task, nth, hi, lo⟩).lo))) := rfl
    have hmid : Tr.mid ⟨tn, tl, th, tlo⟩ ⟨cs, kind, task, nth, hi, lo⟩ = #[.int .i64 (Tr.next ⟨tn, tl, th, tlo⟩ ⟨cs, kind, task, nth, hi, lo⟩).nth, .int .i64 tl, .int .u64 (Tr.next ⟨tn, tl, th, tlo⟩ ⟨cs, kind, task, nth, hi, lo⟩).hi, .int .u64 (Tr.next ⟨tn, tl, th, tlo⟩ ⟨cs, kind, task, nth, hi, lo⟩).lo] := rfl
    rw [hmid] at hbw
    clear c0 c2 c27 c28 t0 t1 t2 t3 f0 f1 f2 f3 hmid
    have b2 := hbw.set_ 1 (.int .i64 kind)
    have x2 := hbx.far (p := ⟨p, 1, none⟩) (by show w.heap.size ≠ p; omega) (.int .i64 kind)
    have k2 := HC.out.2.2.setCell (p := ⟨p, 1, none⟩) (.inl rfl) (.int .i64 kind)
    have f1 := hbw.frozen 1
    have t1 := hbw.cell 1
    have q0 := hbx.cell 0
    have c0 := HX.out.c0
    simp only at c0
    rw [c0] at q0
    simp at t1
    have HOK := Lib.hid (And.intro hok (And.intro b2 (And.intro x2 k2)))
    clear c0 hok b2 x2 k2 hbw hbx hnk
    generalize Tr.is ⟨tn, tl, th, tlo⟩ ⟨cs, kind, task, nth, hi, lo⟩ = isb at *
    go_upto_region 21 with fail
    have hnx : (Tr.next ⟨tn, tl, th, tlo⟩ ⟨cs, kind, task, nth, hi, lo⟩).arr = #[.int .i64 (Tr.next ⟨tn, tl, th, tlo⟩ ⟨cs, kind, task, nth, hi, lo⟩).nth, .int .i64 kind, .int .u64 (Tr.next ⟨tn, tl, th, tlo⟩ ⟨cs, kind, task, nth, hi, lo⟩).hi, .int .u64 (Tr.next ⟨tn, tl, th, tlo⟩ ⟨cs, kind, task, nth, hi, lo⟩).lo] := rfl
    have HNX := Lib.hid hnx
    clear hnx f1 q0 t1
    have b3 := HOK.out.2.1
    have x3 := HOK.out.2.2.1
    have HOK2 := Lib.hid HOK.out.1
    have HK2 := Lib.hid HOK.out.2.2.2
    clear HOK
    generalize (Tr.next ⟨tn, tl, th, tlo⟩ ⟨cs, kind, task, nth, hi, lo⟩).nth = nn at *
    generalize (Tr.next ⟨tn, tl, th, tlo⟩ ⟨cs, kind, task, nth, hi, lo⟩).hi = hh at *
    generalize (Tr.next ⟨tn, tl, th, tlo⟩ ⟨cs, kind, task, nth, hi, lo⟩).lo = ll at *
    clear HC
    generalize (wc.setCell ⟨p, 1, none⟩ (.int .i64 kind)) = w2 at *
    have t0 := b3.cell 0
    have t2 := b3.cell 2
    have t3 := b3.cell 3
    have u2 := (x3.cell 2).trans HX.out.c2
    have u27 := (x3.cell 27).trans HX.out.c27
    have u28 := (x3.cell 28).trans HX.out.c28
    simp at t0 t2 t3 u2 u27 u28
    have b4 : Blk w2 p 62 #[.int .i64 nn, .int .i64 kind, .int .u64 hh, .int .u64 ll] := b3
    have HB4 := Lib.hid b4
    clear b3 x3 b4
    have hke := key_eql hi lo hh ll
    have hfin : ∀ W nq, W = w2.drewN nq → Blk W p 62 (Tr.next ⟨tn, tl, th, tlo⟩ ⟨cs, kind, task, nth, hi, lo⟩).arr ∧ Keep (fun j => j = p) w W := fun W nq e => by
      rw [e, HNX.out]
      exact ⟨HB4.out.drewN nq, HK2.out.drewN nq⟩
    have HF := Lib.hid hfin
    clear hfin
    cases isb with
    | false =>
      go_quiet (fail)
      go_wp2
      go_ret
      exact ⟨by rw [HOK2.out]; rfl, HF.out _ _ rfl⟩
    | true =>
      cases he : (nth == nn) with
      | false =>
        go_quiet (fail)
        go_wp2
        go_ret
        exact ⟨by rw [HOK2.out, he]; rfl, HF.out _ _ rfl⟩
      | true =>
        go_quiet (fail)
        go_wp2
        go_ret
        exact ⟨by rw [HOK2.out, he]; rfl, HF.out _ _ rfl⟩
end Go.Proofs.Ytbjibpghbaemfaa
