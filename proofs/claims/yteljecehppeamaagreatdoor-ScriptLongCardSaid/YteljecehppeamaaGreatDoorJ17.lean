/-
  line.told and line.place walked (chapter 41). Conditions: strconv's table and errors lie in memory.
-/
import Derived.Test.YteljecehppeamaaGreatDoorJ16
import Derived.Test.YteljecehppeamaaGreatDoorJ09
namespace Go.Fw
open Go.RowKit
set_option linter.unusedVariables false
set_option linter.unusedSimpArgs false
theorem cutW_no (c : UInt8) : ∀ l, ∀ w ∈ cutW c l, c ∉ w
  | [], w, h => by simp [cutW] at h; simp [h]
  | b :: l, w, h => by
    have ih := cutW_no c l
    unfold cutW at h
    split at h
    · rcases List.mem_cons.1 h with rfl | h
      · simp
      · exact ih w h
    · rename_i hb
      split at h
      · rename_i e
        rw [List.mem_singleton.1 h]
        intro hc
        exact hb (List.mem_singleton.1 hc).symm
      · rename_i w0 ws e
        rw [e] at ih
        rcases List.mem_cons.1 h with rfl | h
        · intro hc
          rcases List.mem_cons.1 hc with h1 | h1
          · exact hb h1.symm
          · exact ih w0 (by simp) h1
        · exact ih w (by simp [h])
theorem wordsB_no {s x : ByteArray} (h : x ∈ wordsB 32 s) : (32 : UInt8) ∉ x.data.toList := by
  obtain ⟨w, hw, rfl⟩ := List.mem_map.1 h
  simpa using cutW_no 32 _ w hw
theorem wordsB_list (s : ByteArray) : (wordsB 32 s).map (·.data.toList) = cutW 32 s.data.toList := by
  unfold wordsB
  rw [List.map_map]
  conv => rhs; rw [← List.map_id (cutW 32 s.data.toList)]
  exact List.map_congr_left fun x _ => by simp
theorem words_join (s : ByteArray) : joinS 32 ((wordsB 32 s).map (·.data.toList)) = s.data.toList := by rw [wordsB_list, join_cut]
/-- where the id stands -/
def placeK (k : Int) : Nat := if k = 5 then 2 else 1
/-- the sign a -/
def aB : ByteArray := ⟨#[97]⟩
def withA (x : Cl) : Cl := { x with id := aB }
theorem withA_ws {x : Cl} (h : namedK x.k = true) : lineWs (withA x) = (lineWs x).set (placeK x.k) [97] ∧ placeK x.k < (lineWs x).length ∧ (lineWs x)[placeK x.k]? = some x.id.data.toList := by
  have hor : x.k = 1 ∨ x.k = 5 ∨ x.k = 6 ∨ x.k = 7 := by
    unfold namedK at h
    simpa using h
  rcases hor with h1 | h1 | h1 | h1 <;> simp [lineWs, withA, placeK, h1, aB]
/-- the call's id is a word, in its place -/
theorem readC_id {k : Nat} {l : List ByteArray} {x : Cl} (h : readC k l = some x) : x.k = (k : Int) ∧ (namedK x.k = true → placeK x.k < l.length ∧ l[placeK x.k]? = some x.id) := by
  unfold readC at h
  split at h
  · split at h
    · injection h with h; subst h; exact ⟨rfl, fun _ => by simp [placeK]⟩
    · cases h
  · split at h
    · injection h with h; subst h; exact ⟨rfl, fun h2 => by simp [namedK] at h2⟩
    · cases h
  · split at h
    · injection h with h; subst h; exact ⟨rfl, fun h2 => by simp [namedK] at h2⟩
    · cases h
  · split at h
    · injection h with h; subst h; exact ⟨rfl, fun _ => by simp [placeK]⟩
    · cases h
  · split at h
    · injection h with h; subst h; exact ⟨rfl, fun _ => by simp [placeK]⟩
    · cases h
  · injection h with h; subst h; exact ⟨rfl, fun _ => by simp [placeK]⟩
  · injection h with h; subst h; exact ⟨rfl, fun h2 => by simp [namedK] at h2⟩
  · injection h with h; subst h; exact ⟨rfl, fun h2 => by simp [namedK] at h2⟩
  · cases h
/-- a line with another id in the place of this one is the words' so turned, just if the line is the words' -/
theorem withA_iff {s : ByteArray} {k : Nat} {x : Cl} (h : readC k (wordsB 32 s) = some x) (hn : namedK x.k = true) : lineB (withA x) = ⟨(joinS 32 (((wordsB 32 s).set (placeK x.k) aB).map (·.data.toList))).toArray⟩ ↔ lineB x = s := by
  obtain ⟨hk, hid⟩ := readC_id h
  obtain ⟨hp, hat⟩ := hid hn
  obtain ⟨e1, e2, e3⟩ := withA_ws hn
  have hxid : (32 : UInt8) ∉ x.id.data.toList := wordsB_no (List.mem_of_getElem? hat)
  have hcx : cutW 32 (joinS 32 (lineWs x)) = lineWs x := cut_line fun _ => hxid
  have hca : cutW 32 (joinS 32 (lineWs (withA x))) = lineWs (withA x) := cut_line fun _ => (show (32 : UInt8) ∉ ([97] : List UInt8) by decide)
  have hset : ((wordsB 32 s).set (placeK x.k) aB).map (·.data.toList) = (cutW 32 s.data.toList).set (placeK x.k) [97] := by rw [List.map_set, wordsB_list]; rfl
  have hcs : cutW 32 (joinS 32 ((cutW 32 s.data.toList).set (placeK x.k) [97])) = (cutW 32 s.data.toList).set (placeK x.k) [97] := cut_join 32 _ (by
    intro e
    have := congrArg List.length e
    rw [List.length_set] at this
    exact cutW_ne 32 _ (List.eq_nil_of_length_eq_zero (by simpa using this))) (fun w hw => by
    rcases List.mem_or_eq_of_mem_set hw with h | h
    · exact cutW_no 32 _ w h
    · rw [h]; decide)
  have hat2 : (cutW 32 s.data.toList)[placeK x.k]? = some x.id.data.toList := by rw [← wordsB_list, List.getElem?_map, hat]; rfl
  rw [hset]
  constructor
  · intro he
    have h1 : joinS 32 (lineWs (withA x)) = joinS 32 ((cutW 32 s.data.toList).set (placeK x.k) [97]) := by
      have := congrArg (fun b : ByteArray => b.data.toList) he
      simpa [lineB_list] using this
    have h2 := congrArg (cutW 32) h1
    rw [hca, hcs, e1] at h2
    have h3 : lineWs x = cutW 32 s.data.toList := by
      apply List.ext_getElem?
      intro i
      by_cases hi : i = placeK x.k
      · subst hi
        rw [e3, hat2]
      · have := congrArg (fun l => l[i]?) h2
        simpa [List.getElem?_set_ne (Ne.symm hi)] using this
    refine bytes_ext ?_
    rw [lineB_list, h3, join_cut]
  · intro he
    have h1 : lineWs x = cutW 32 s.data.toList := by rw [← hcx, ← lineB_list, he]
    unfold lineB
    rw [e1, h1]
theorem toldC_text {x : Cl} {s : ByteArray} (h1 : 1 ≤ x.k) (h8 : x.k ≤ 8) (he : textE x = 0) (hs : lineB x = s) : toldC x s = (x, 0) := by
  unfold toldC
  rw [if_pos hs, if_neg]
  rintro ⟨h2, h3⟩
  rw [named_ok he h2] at h3
  cases h3
theorem toldC_form {x : Cl} {s : ByteArray} (hs : lineB x ≠ s) : toldC x s = (Cl.zero, 10) := by unfold toldC; rw [if_neg hs]
theorem toldC_id {x : Cl} {s : ByteArray} (hs : lineB x = s) (h2 : namedK x.k = true) (h3 : idOk x.id = false) : toldC x s = (Cl.zero, 2) := by unfold toldC; rw [if_pos hs, if_pos ⟨h2, h3⟩]
theorem joinS_mem_len (c : UInt8) (l : List (List UInt8)) (m : Nat) (h : (joinS c l).length ≤ m) (i : Nat) (x : List UInt8) (hi : i < l.length) : (joinS c (l.set i x)).length ≤ m + x.length := by
  have key : ∀ (l : List (List UInt8)) (i : Nat), i < l.length → ((l.set i x).flatMap fun y => c :: y).length ≤ (l.flatMap fun y => c :: y).length + x.length := by
    intro l
    induction l with
    | nil => intro i h; simp at h
    | cons a r ih =>
      intro i h
      cases i with
      | zero => simp; omega
      | succ i =>
        have := ih i (by simpa using h)
        simp only [List.set_cons_succ, List.flatMap_cons, List.length_append, List.length_cons] at this ⊢
        omega
  have hne : l ≠ [] := by rintro rfl; simp at hi
  have hne2 : l.set i x ≠ [] := by intro e; have := congrArg List.length e; simp at this; exact hne (by simpa using this)
  have h1 := joinS_flat c l hne
  have h2 := joinS_flat c (l.set i x) hne2
  have h3 := key l i hi
  rw [h1, h2] at h3
  simp at h3
  omega
end Go.Fw
namespace Go.Fw
open Go.RowKit
/-- a call's cells -/
theorem Blk.c11 {w : World} {g : Nat} {t : TypeId} {x : Cl} (h : Blk w g t x.arr) : w.cell? ⟨g, 0, none⟩ = some (.int .i64 x.k) ∧ w.cell? ⟨g, 1, none⟩ = some (.string x.id) ∧ w.cell? ⟨g, 2, none⟩ = some (.int .i64 x.tick) ∧ w.cell? ⟨g, 3, none⟩ = some (.int .i64 x.value) ∧ w.cell? ⟨g, 4, none⟩ = some (.int .i64 x.handle) ∧ w.cell? ⟨g, 5, none⟩ = some (.int .i64 x.a) ∧ w.cell? ⟨g, 6, none⟩ = some (.int .i64 x.b) ∧ w.cell? ⟨g, 7, none⟩ = some (.int .i64 x.c) ∧ w.cell? ⟨g, 8, none⟩ = some (.int .i64 x.d) ∧ w.cell? ⟨g, 9, none⟩ = some (.int .i64 x.e) ∧ w.cell? ⟨g, 10, none⟩ = some (.int .i64 x.f) :=
  ⟨h.cell 0, h.cell 1, h.cell 2, h.cell 3, h.cell 4, h.cell 5, h.cell 6, h.cell 7, h.cell 8, h.cell 9, h.cell 10⟩
/-- a call stored in a block -/
def stCl (w : World) (g : Nat) (x : Cl) : World := (((((((((((w.setCell ⟨g, 0, none⟩ (.int .i64 x.k)).setCell ⟨g, 1, none⟩ (.string x.id)).setCell ⟨g, 2, none⟩ (.int .i64 x.tick)).setCell ⟨g, 3, none⟩ (.int .i64 x.value)).setCell ⟨g, 4, none⟩ (.int .i64 x.handle)).setCell ⟨g, 5, none⟩ (.int .i64 x.a)).setCell ⟨g, 6, none⟩ (.int .i64 x.b)).setCell ⟨g, 7, none⟩ (.int .i64 x.c)).setCell ⟨g, 8, none⟩ (.int .i64 x.d)).setCell ⟨g, 9, none⟩ (.int .i64 x.e)).setCell ⟨g, 10, none⟩ (.int .i64 x.f))
theorem Blk.stCl {w : World} {g : Nat} {t : TypeId} {y : Cl} (h : Blk w g t y.arr) (x : Cl) : Blk (stCl w g x) g t x.arr := by
  unfold Go.Fw.stCl
  have h2 := ((((((((((h.set_ 0 (.int .i64 x.k)).set_ 1 (.string x.id)).set_ 2 (.int .i64 x.tick)).set_ 3 (.int .i64 x.value)).set_ 4 (.int .i64 x.handle)).set_ 5 (.int .i64 x.a)).set_ 6 (.int .i64 x.b)).set_ 7 (.int .i64 x.c)).set_ 8 (.int .i64 x.d)).set_ 9 (.int .i64 x.e)).set_ 10 (.int .i64 x.f)
  simpa [Cl.arr] using h2
theorem withA_arr (x : Cl) : x.arr.setIfInBounds 1 (.string ⟨#[97]⟩) = (withA x).arr := by simp [Cl.arr, withA, aB]
theorem strs_setA (l : List ByteArray) (k : Nat) (x : ByteArray) : (l.map Value.string).toArray.setIfInBounds k (.string x) = (strs (l.set k x)).toArray := by simp [strs, List.map_set]
theorem st_then {w : World} {g : Nat} {x : Cl} {M R : World → Prop} (hM : M (stCl w g x)) (h : ∀ W9, M W9 → R W9) : R (((((((((((w.setCell ⟨g, 0, none⟩ (.int .i64 x.k)).setCell ⟨g, 1, none⟩ (.string x.id)).setCell ⟨g, 2, none⟩ (.int .i64 x.tick)).setCell ⟨g, 3, none⟩ (.int .i64 x.value)).setCell ⟨g, 4, none⟩ (.int .i64 x.handle)).setCell ⟨g, 5, none⟩ (.int .i64 x.a)).setCell ⟨g, 6, none⟩ (.int .i64 x.b)).setCell ⟨g, 7, none⟩ (.int .i64 x.c)).setCell ⟨g, 8, none⟩ (.int .i64 x.d)).setCell ⟨g, 9, none⟩ (.int .i64 x.e)).setCell ⟨g, 10, none⟩ (.int .i64 x.f)) := h _ hM
theorem stCl_far {w : World} {g g' : Nat} {t : TypeId} {cs : Array Value} (h : Blk w g t cs) (hg : g ≠ g') (x : Cl) : Blk (stCl w g' x) g t cs := by
  unfold Go.Fw.stCl
  exact ((((((((((h.far (p := ⟨g', 0, none⟩) hg _).far (p := ⟨g', 1, none⟩) hg _).far (p := ⟨g', 2, none⟩) hg _).far (p := ⟨g', 3, none⟩) hg _).far (p := ⟨g', 4, none⟩) hg _).far (p := ⟨g', 5, none⟩) hg _).far (p := ⟨g', 6, none⟩) hg _).far (p := ⟨g', 7, none⟩) hg _).far (p := ⟨g', 8, none⟩) hg _).far (p := ⟨g', 9, none⟩) hg _).far (p := ⟨g', 10, none⟩) hg _
/-- a new block behind all that came so far, and what lay stays -/
theorem new_then2 {B : Nat} {w W : World} {t : TypeId} {cs : Array Value} {R : World → Prop} (hS : Below B w W) (hB : B = w.heap.size) (h : ∀ WT, Below B w WT → Blk WT W.heap.size t cs → B ≤ W.heap.size → Below W.heap.size W WT → R WT) : R (W.alloc (.cells cs t)) := by
  subst hB
  exact h _ (sub_alloc hS _) (Blk.new_at W t cs rfl) hS.size (sub_alloc (Below.refl _ _) _)
theorem below_stCl {B : Nat} {w0 w : World} {g : Nat} (h : Below B w0 w) (hg : B ≤ g) (x : Cl) : Below B w0 (stCl w g x) := by
  unfold Go.Fw.stCl
  exact ((((((((((h.setCell (p := ⟨g, 0, none⟩) hg _).setCell (p := ⟨g, 1, none⟩) hg _).setCell (p := ⟨g, 2, none⟩) hg _).setCell (p := ⟨g, 3, none⟩) hg _).setCell (p := ⟨g, 4, none⟩) hg _).setCell (p := ⟨g, 5, none⟩) hg _).setCell (p := ⟨g, 6, none⟩) hg _).setCell (p := ⟨g, 7, none⟩) hg _).setCell (p := ⟨g, 8, none⟩) hg _).setCell (p := ⟨g, 9, none⟩) hg _).setCell (p := ⟨g, 10, none⟩) hg _
theorem Keep.stCl {L : Nat → Prop} {w0 w : World} {g : Nat} (h : Keep L w0 w) (hg : L g ∨ w0.heap.size ≤ g) (x : Cl) : Keep L w0 (stCl w g x) := by
  unfold Go.Fw.stCl
  exact ((((((((((h.setCell (p := ⟨g, 0, none⟩) hg _).setCell (p := ⟨g, 1, none⟩) hg _).setCell (p := ⟨g, 2, none⟩) hg _).setCell (p := ⟨g, 3, none⟩) hg _).setCell (p := ⟨g, 4, none⟩) hg _).setCell (p := ⟨g, 5, none⟩) hg _).setCell (p := ⟨g, 6, none⟩) hg _).setCell (p := ⟨g, 7, none⟩) hg _).setCell (p := ⟨g, 8, none⟩) hg _).setCell (p := ⟨g, 9, none⟩) hg _).setCell (p := ⟨g, 10, none⟩) hg _
end Go.Fw
namespace Go.Proofs.YteljecehppeamaaGreatDoor
open Go.RowKit Go.Fw Go.Shelf
set_option maxHeartbeats 2000000
set_option maxRecDepth 100000
set_option linter.unusedVariables false
set_option linter.unusedSimpArgs false
theorem placek_any (k : Int) (w : World) : Calls Tryz.prog 101 #[.int .i64 k] w fun x w' => x = .returned (.int .i64 (placeK k : Int)) ∧ w = w' := by
  by_cases h : k = 5
  · subst h
    go_enter Tryz.func101, Tryz.ntmps101
    go_wp2
    go_ret
    exact ⟨rfl, rfl⟩
  · have e : (k == 5) = false := by simpa using h
    have HF : Hid ((placeK k : Int) = 1) := Lib.hid (by unfold placeK; rw [if_neg h]; rfl)
    clear h
    go_enter Tryz.func101, Tryz.ntmps101
    go_wp2
    go_ret
    exact ⟨ret_i HF.out.symm, rfl⟩
theorem told_ok (x : Cl) (s : ByteArray) (w : World) (hR : Ready w) (hx : x.ok) (he : textE x = 0) (hs : lineB x = s) :
    Calls Tryz.prog 85 #[x.val, .string s] w fun y w' => y = .returned (.tuple #[x.val, .int .i64 0]) ∧ Below w.heap.size w w' := by
  have HT := Lib.hid (fun W hP => ltext_any x W hP hx)
  have e2 : textB x = s := by unfold textB; rw [if_pos he, hs]
  have hss : (s.toList == s.toList) = true := by simp
  rw [he, e2] at HT
  clear hx he hs e2
  have HR := Lib.hid hR
  have HB := Lib.hid (sub_alloc (sub_alloc (Below.refl _ w) (.cells x.arr 50)) (.cells Cl.zero.arr 50))
  have HG := Lib.hid (And.intro ((Blk.new_at w 50 x.arr (g := w.heap.size) rfl).alloc (.cells Cl.zero.arr 50)) (Blk.new_at (w.alloc (.cells x.arr 50)) 50 Cl.zero.arr (g := w.heap.size + 1) (by simp)))
  obtain ⟨c0, c1, c2, c3, c4, c5, c6, c7, c8, c9, c10⟩ := HG.out.1.c11
  unfold Cl.val Cl.arr
  unfold Cl.arr at c0 c1 c2 c3 c4 c5 c6 c7 c8 c9 c10
  go_enter Tryz.func85, Tryz.ntmps85
  go_wp2_with fail
  refine (HT.out _ (pow_up HR.out.tabs.pow HB.out)).mono ?_
  rintro y w1 ⟨rfl, hb⟩
  have h1 : Below w.heap.size w w1 := sub_trans HB.out hb
  have gx : Blk w1 w.heap.size 50 x.arr := HG.out.1.later hb
  have gz : Blk w1 (w.heap.size + 1) 50 Cl.zero.arr := HG.out.2.later hb
  clear c0 c1 c2 c3 c4 c5 c6 c7 c8 c9 c10 hb
  obtain ⟨c0, c1, c2, c3, c4, c5, c6, c7, c8, c9, c10⟩ := gx.c11
  obtain ⟨d0, d1, d2, d3, d4, d5, d6, d7, d8, d9, d10⟩ := gz.c11
  have f0 := gz.frozen
  have z := gz.stCl x
  have hz := below_stCl h1 (g := w.heap.size + 1) (by omega) x
  have HZ := Lib.hid (And.intro z hz)
  clear z hz gx gz
  unfold stCl at HZ
  go_wp2
  obtain ⟨z0, z1, z2, z3, z4, z5, z6, z7, z8, z9, z10⟩ := HZ.out.1.c11
  exact bodyPost_ret (v := .tuple #[.agg #[.int .i64 x.k, .string x.id, .int .i64 x.tick, .int .i64 x.value, .int .i64 x.handle, .int .i64 x.a, .int .i64 x.b, .int .i64 x.c, .int .i64 x.d, .int .i64 x.e, .int .i64 x.f], .int .i64 0]) (by simp [results, Tryz.results85, go_sem, z0, z1, z2, z3, z4, z5, z6, z7, z8, z9, z10]; try rfl) rfl ⟨rfl, HZ.out.2⟩
theorem told_form (x : Cl) (s : ByteArray) (w : World) (hR : Ready w) (hx : x.ok) (he : textE x = 0) (hs : lineB x ≠ s) :
    Calls Tryz.prog 85 #[x.val, .string s] w fun y w' => y = .returned (.tuple #[Cl.zero.val, .int .i64 10]) ∧ Below w.heap.size w w' := by
  have HT := Lib.hid (fun W hP => ltext_any x W hP hx)
  have e2 : textB x = lineB x := by unfold textB; rw [if_pos he]
  have hss : ((lineB x).toList == s.toList) = false := by simpa using str_ne hs
  rw [he, e2] at HT
  clear hx he hs e2
  generalize lineB x = lx at *
  have HR := Lib.hid hR
  have HB := Lib.hid (sub_alloc (sub_alloc (Below.refl _ w) (.cells x.arr 50)) (.cells Cl.zero.arr 50))
  have HG := Lib.hid (And.intro ((Blk.new_at w 50 x.arr (g := w.heap.size) rfl).alloc (.cells Cl.zero.arr 50)) (Blk.new_at (w.alloc (.cells x.arr 50)) 50 Cl.zero.arr (g := w.heap.size + 1) (by simp)))
  obtain ⟨c0, c1, c2, c3, c4, c5, c6, c7, c8, c9, c10⟩ := HG.out.1.c11
  unfold Cl.val Cl.arr
  unfold Cl.arr at c0 c1 c2 c3 c4 c5 c6 c7 c8 c9 c10
  go_enter Tryz.func85, Tryz.ntmps85
  go_wp2_with fail
  refine (HT.out _ (pow_up HR.out.tabs.pow HB.out)).mono ?_
  rintro y w1 ⟨rfl, hb⟩
  have h1 : Below w.heap.size w w1 := sub_trans HB.out hb
  have gx : Blk w1 w.heap.size 50 x.arr := HG.out.1.later hb
  have gz : Blk w1 (w.heap.size + 1) 50 Cl.zero.arr := HG.out.2.later hb
  clear c0 c1 c2 c3 c4 c5 c6 c7 c8 c9 c10 hb
  obtain ⟨c0, c1, c2, c3, c4, c5, c6, c7, c8, c9, c10⟩ := gx.c11
  obtain ⟨d0, d1, d2, d3, d4, d5, d6, d7, d8, d9, d10⟩ := gz.c11
  have f0 := gz.frozen
  have z := gz.stCl Cl.zero
  have hz := below_stCl h1 (g := w.heap.size + 1) (by omega) Cl.zero
  have HZ := Lib.hid (And.intro z hz)
  clear z hz gx gz
  unfold stCl at HZ
  go_wp2
  obtain ⟨z0, z1, z2, z3, z4, z5, z6, z7, z8, z9, z10⟩ := HZ.out.1.c11
  simp only [Cl.zero] at z0 z1 z2 z3 z4 z5 z6 z7 z8 z9 z10
  exact bodyPost_ret (v := .tuple #[.agg #[.int .i64 0, .string ⟨#[]⟩, .int .i64 0, .int .i64 0, .int .i64 0, .int .i64 0, .int .i64 0, .int .i64 0, .int .i64 0, .int .i64 0, .int .i64 0], .int .i64 10]) (by simp [results, Tryz.results85, go_sem, z0, z1, z2, z3, z4, z5, z6, z7, z8, z9, z10]; try rfl) rfl ⟨rfl, HZ.out.2⟩
theorem told_id (x : Cl) (s : ByteArray) (w : World) (k : Nat) (hR : Ready w) (hx : x.ok) (hn : namedK x.k = true) (hi : idOk x.id = false) (h1 : 1 ≤ x.k) (h8 : x.k ≤ 8) (hs : s.size ≤ 1000) (hc : readC k (wordsB 32 s) = some x) :
    Calls Tryz.prog 85 #[x.val, .string s] w fun y w' => y = .returned (.tuple #[Cl.zero.val, .int .i64 (if lineB x = s then 2 else 10)]) ∧ Below w.heap.size w w' := by
  have HT := Lib.hid (fun W hP => ltext_any x W hP hx)
  have e1 : textE x = 2 := by unfold textE; rw [if_neg (by omega), if_pos ⟨hn, hi⟩]
  have e2 : textB x = ByteArray.empty := by unfold textB; rw [if_neg (by omega)]
  rw [e1, e2] at HT
  have hax : (withA x).ok := ⟨hx.k, hx.tick, hx.value, hx.handle, hx.pol, (show aB.size ≤ 100000 by decide)⟩
  have HA := Lib.hid (fun W hP => ltext_any (withA x) W hP hax)
  have hae : textE (withA x) = 0 := by
    unfold textE withA
    simp only
    rw [if_neg (by omega), if_neg]
    rintro ⟨_, h⟩
    exact absurd h (by decide)
  have hab : textB (withA x) = lineB (withA x) := by unfold textB; rw [if_pos hae]
  rw [hae, hab] at HA
  have HIFF := Lib.hid (withA_iff hc hn)
  obtain ⟨hp, hat⟩ := (readC_id hc).2 hn
  have hwl := wordsB_len 32 s
  have HPL := Lib.hid (fun W => placek_any x.k W)
  have HSZ : Hid (s.size ≤ 1000) := Lib.hid hs
  have HJL : Hid ((joinS 32 (((wordsB 32 s).set (placeK x.k) aB).map (·.data.toList))).length ≤ 100000) := Lib.hid (by
    rw [List.map_set]
    have := joinS_mem_len 32 ((wordsB 32 s).map (·.data.toList)) 1000 (by rw [words_join]; simpa using hs) (placeK x.k) [97] (by simpa using hp)
    exact Nat.le_trans this (by decide))
  have hwl2 : (wordsB 32 s).length ≤ 1001 := by omega
  have HSP := Lib.hid (fun W hM => split_any 32 s (by omega) W hM)
  have HFIN : Hid ((lineB (withA x) = (⟨(joinS 32 (((wordsB 32 s).set (placeK x.k) aB).map (·.data.toList))).toArray⟩ : ByteArray) → (if lineB x = s then (2 : Int) else 10) = 2) ∧ (lineB (withA x) ≠ (⟨(joinS 32 (((wordsB 32 s).set (placeK x.k) aB).map (·.data.toList))).toArray⟩ : ByteArray) → (if lineB x = s then (2 : Int) else 10) = 10)) :=
    Lib.hid ⟨fun h => if_pos (HIFF.out.1 h), fun h => if_neg fun e => h (HIFF.out.2 e)⟩
  clear e1 e2 hax hae hab hat hn hi hc HIFF hx hs hwl
  generalize lineB x = lx at *
  generalize (if lx = s then (2 : Int) else 10) = fe at *
  generalize lineB (withA x) = la at *
  generalize placeK x.k = pk at *
  generalize wordsB 32 s = all at *
  have HR := Lib.hid hR
  have HB := Lib.hid (sub_alloc (sub_alloc (Below.refl _ w) (.cells x.arr 50)) (.cells Cl.zero.arr 50))
  have HG := Lib.hid (And.intro ((Blk.new_at w 50 x.arr (g := w.heap.size) rfl).alloc (.cells Cl.zero.arr 50)) (Blk.new_at (w.alloc (.cells x.arr 50)) 50 Cl.zero.arr (g := w.heap.size + 1) (by simp)))
  obtain ⟨c0, c1, c2, c3, c4, c5, c6, c7, c8, c9, c10⟩ := HG.out.1.c11
  unfold Cl.val Cl.arr
  unfold Cl.arr at c0 c1 c2 c3 c4 c5 c6 c7 c8 c9 c10
  go_enter Tryz.func85, Tryz.ntmps85
  go_wp2_with fail
  refine (HT.out _ (pow_up HR.out.tabs.pow HB.out)).mono ?_
  rintro y w1 ⟨rfl, hb⟩
  have h1 : Below w.heap.size w w1 := sub_trans HB.out hb
  have gx : Blk w1 w.heap.size 50 x.arr := HG.out.1.later hb
  have gz : Blk w1 (w.heap.size + 1) 50 Cl.zero.arr := HG.out.2.later hb
  clear c0 c1 c2 c3 c4 c5 c6 c7 c8 c9 c10 hb
  obtain ⟨c0, c1, c2, c3, c4, c5, c6, c7, c8, c9, c10⟩ := gx.c11
  obtain ⟨d0, d1, d2, d3, d4, d5, d6, d7, d8, d9, d10⟩ := gz.c11
  have f0 := gz.frozen
  go_wp2
  have H1 := Lib.hid (And.intro h1 (And.intro gx gz))
  clear gx gz f0 d0 d1 d2 d3 d4 d5 d6 d7 d8 d9 d10
  have hS : Below w1.heap.size w1 w1.drew := (Below.refl _ _).drew
  refine any_start (S := fun W => Below w1.heap.size w1 W) (by kernel_rfl) hS ?_
  generalize w1.drew = wd at *
  clear c0 c1 c2 c3 c4 c5 c6 c7 c8 c9 c10
  simp only [List.length_cons, List.length_nil, Nat.reduceAdd, List.size_toArray]
  refine any_pure 0 (v := ?_) rfl (by kernel_rfl) (by intro _ _ _ h; exact h) (by assumption) (by rfl) (fun W hW => ?_) ?_
  rotate_left
  · first | (go_simp; done) | (go_simp; with_reducible rfl)
  try simp only [Act.put, List.setIfInBounds_toArray, List.set_cons_zero, List.set_cons_succ]
  refine any_pure 2 (v := ?_) rfl (by kernel_rfl) (by intro _ _ _ h; exact h) (by assumption) (by rfl) (fun W hW => ?_) ?_
  rotate_left
  · obtain ⟨c0, c1, c2, c3, c4, c5, c6, c7, c8, c9, c10⟩ := (H1.out.2.1.later hW).c11; first | (go_simp; done) | (go_simp; with_reducible rfl)
  try simp only [Act.put, List.setIfInBounds_toArray, List.set_cons_zero, List.set_cons_succ]
  refine any_two 1 3 (by kernel_rfl) rfl rfl (by rfl) (by rfl) (fun K hK => ?_) (fun K hK => ?_)
  · skip
    go_simp
    refine (HSP.out _ (HR.out.up (sub_trans H1.out.1 hS)).max).mono ?_
    rintro y v0 ⟨rfl, rfl⟩
    refine new_then2 (R := fun WT => K _ WT) hS rfl (fun WT hS hV hVL hVB => ?_)
    try replace hTT := hTT.later hVB
    try have hTL2 := hTL
    refine hK _ _ hS ?_
    clear hK hVB
    try simp only [Act.put, List.setIfInBounds_toArray, List.set_cons_zero, List.set_cons_succ]
    refine any_one 3 (by kernel_rfl) rfl (by rfl) (fun K hK => ?_)
    go_simp
    refine new_then2 (R := fun WT => K _ WT) hS rfl (fun WT hS hTT hTL hTB => ?_)
    try replace hV := hV.later hTB
    refine hK _ _ hS ?_
    clear hK hTB
    try simp only [Act.put, List.setIfInBounds_toArray, List.set_cons_zero, List.set_cons_succ]
    refine any_pure 4 (v := ?_) rfl (by kernel_rfl) (by intro _ _ _ h; exact h) (by assumption) (by rfl) (fun W hW => ?_) ?_
    rotate_left
    · first | (go_simp; done) | (go_simp; with_reducible rfl)
    try simp only [Act.put, List.setIfInBounds_toArray, List.set_cons_zero, List.set_cons_succ]
    refine any_one 5 (by kernel_rfl) rfl (by rfl) (fun K hK => ?_)
    have hT9 : Blk _ _ 50 Cl.zero.arr := hTT
    obtain ⟨d0, d1, d2, d3, d4, d5, d6, d7, d8, d9, d10⟩ := hT9.c11
    have f0 := hT9.frozen
    go_simp
    have hne := blk_ne hV hT9 (by decide)
    refine st_then (M := fun W9 => Blk W9 _ 50 x.arr ∧ Below w1.heap.size w1 W9 ∧ Blk W9 _ 9 _) (R := fun WT => K _ WT) ⟨hT9.stCl x, below_stCl hS hTL x, stCl_far hV hne x⟩ (fun W9 hT10 => ?_)
    refine hK _ _ hT10.2.1 ?_
    clear hK f0 d0 d1 d2 d3 d4 d5 d6 d7 d8 d9 d10 hT9 hTT hV hS
    try simp only [Act.put, List.setIfInBounds_toArray, List.set_cons_zero, List.set_cons_succ]
    refine any_done (by kernel_rfl) ?_
    obtain ⟨hT10, hS10, hV10⟩ := hT10
    have H10 := Lib.hid (And.intro hT10 (And.intro hS10 (And.intro hV10 hne)))
    have c1 := hT10.cell 1
    have f1 := hT10.frozen 1
    simp only [Cl.arr, List.getElem?_toArray, List.getElem?_cons_succ, List.getElem?_cons_zero] at c1
    clear hT10 hS10 hV10 hne
    go_wp2
    have hT11 := H10.out.1.set_ 1 (.string ⟨#[97]⟩)
    have hS11 := H10.out.2.1.setCell (p := ⟨_, 1, none⟩) hTL (.string ⟨#[97]⟩)
    have hV11 := H10.out.2.2.1.far (p := ⟨_, 1, none⟩) H10.out.2.2.2 (.string ⟨#[97]⟩)
    have hne := H10.out.2.2.2
    clear H10 c1 f1
    rw [withA_arr] at hT11
    generalize W9.setCell _ _ = W10 at *
    have H11 := Lib.hid (And.intro hT11 (And.intro hS11 (And.intro hV11 hne)))
    have H11X := Lib.hid (And.intro (H1.out.2.1.later hS11) (H1.out.2.2.later hS11))
    clear hT11 hS11 hV11 hne
    have hS : _ ∧ _ := And.intro (H11X.out.1.drew) (H11.out.1.drew)
    refine any_start (S := fun W => Blk W _ 50 x.arr ∧ Blk W _ 50 (withA x).arr) (by kernel_rfl) hS ?_
    simp only [List.length_cons, List.length_nil, Nat.reduceAdd, List.size_toArray]
    refine any_pure 0 (v := ?_) rfl (by kernel_rfl) (by intro _ _ _ h; exact h) (by assumption) (by rfl) (fun W hW => ?_) ?_
    rotate_left
    · first | (go_simp; done) | (go_simp; with_reducible rfl)
    try simp only [Act.put, List.setIfInBounds_toArray, List.set_cons_zero, List.set_cons_succ]
    refine any_pure 1 (v := ?_) rfl (by kernel_rfl) (by intro _ _ _ h; exact h) (by assumption) (by rfl) (fun W hW => ?_) ?_
    rotate_left
    · first | (go_simp; done) | (go_simp; with_reducible rfl)
    try simp only [Act.put, List.setIfInBounds_toArray, List.set_cons_zero, List.set_cons_succ]
    refine any_pure 2 (v := ?_) rfl (by kernel_rfl) (by intro _ _ _ h; exact h) (by assumption) (by rfl) (fun W hW => ?_) ?_
    rotate_left
    · have c0 := hW.1.cell 0; simp only [Cl.arr, List.getElem?_toArray, List.getElem?_cons_succ, List.getElem?_cons_zero] at c0; first | (go_simp; done) | (go_simp; with_reducible rfl)
    try simp only [Act.put, List.setIfInBounds_toArray, List.set_cons_zero, List.set_cons_succ]
    refine any_call 3 101 #[.int .i64 x.k] (.int .i64 (pk : Int)) rfl (by kernel_rfl) (by intro _ _ _ h; exact h) (by assumption) (by rfl) (fun _ => by go_simp) (fun W hW => ?_) ?_
    · exact HPL.out W
    try simp only [Act.put, List.setIfInBounds_toArray, List.set_cons_zero, List.set_cons_succ]
    refine any_pure 4 (v := ?_) rfl (by kernel_rfl) (by intro _ _ _ h; exact h) (by assumption) (by rfl) (fun W hW => ?_) ?_
    rotate_left
    · first | (go_simp; done) | (go_simp; with_reducible rfl)
    try simp only [Act.put, List.setIfInBounds_toArray, List.set_cons_zero, List.set_cons_succ]
    refine any_pure 5 (v := ?_) rfl (by kernel_rfl) (by intro _ _ _ h; exact h) (by assumption) (by rfl) (fun W hW => ?_) ?_
    rotate_left
    · have c1 := hW.2.cell 1; simp only [Cl.arr, withA, aB, List.getElem?_toArray, List.getElem?_cons_succ, List.getElem?_cons_zero] at c1; first | (go_simp; done) | (go_simp; with_reducible rfl)
    try simp only [Act.put, List.setIfInBounds_toArray, List.set_cons_zero, List.set_cons_succ]
    refine any_pure 6 (v := ?_) rfl (by kernel_rfl) (by intro _ _ _ h; exact h) (by assumption) (by rfl) (fun W hW => ?_) ?_
    rotate_left
    · first | (go_simp; done) | (go_simp; with_reducible rfl)
    try simp only [Act.put, List.setIfInBounds_toArray, List.set_cons_zero, List.set_cons_succ]
    refine any_one 7 (by kernel_rfl) rfl (by rfl) (fun K hK => ?_)
    have cV := (H11.out.2.2.1.drew).cell pk
    have fV := (H11.out.2.2.1.drew).frozen pk
    simp [hp] at cV
    go_simp
    have hV12 := (H11.out.2.2.1.set_ pk (.string ⟨#[97]⟩)).drew
    rw [strs_setA] at hV12
    have hT12 := (H11.out.1.far (p := ⟨_, pk, none⟩) H11.out.2.2.2.symm (.string ⟨#[97]⟩)).drew
    have hlt1 := H1.out.2.1.lt
    have hlt2 := H1.out.2.2.lt
    have hX12 := (H11X.out.1.far (p := ⟨_, pk, none⟩) (Nat.ne_of_lt (Nat.lt_of_lt_of_le hlt1 hVL)) (.string ⟨#[97]⟩)).drew
    have hZ12 := (H11X.out.2.far (p := ⟨_, pk, none⟩) (Nat.ne_of_lt (Nat.lt_of_lt_of_le hlt2 hVL)) (.string ⟨#[97]⟩)).drew
    have hS12 := (H11.out.2.1.setCell (p := ⟨_, pk, none⟩) hVL (.string ⟨#[97]⟩)).drew
    refine hK _ _ ⟨hX12, hT12⟩ ?_
    clear hK cV fV hlt1 hlt2
    generalize World.drew (World.setCell W10 _ _) = W11 at *
    try simp only [Act.put, List.setIfInBounds_toArray, List.set_cons_zero, List.set_cons_succ]
    refine any_done (by kernel_rfl) ?_
    have H12 := Lib.hid (And.intro hT12 (And.intro hZ12 (And.intro hV12 hS12)))
    obtain ⟨c0, c1, c2, c3, c4, c5, c6, c7, c8, c9, c10⟩ := hT12.c11
    simp only [withA, aB] at c0 c1 c2 c3 c4 c5 c6 c7 c8 c9 c10
    clear hT12 hZ12 hV12 hS12 hX12 hS H11 H11X
    go_wp2_with fail
    refine (HA.out _ (pow_up HR.out.tabs.pow (sub_trans H1.out.1 H12.out.2.2.2))).mono ?_
    rintro y w5 ⟨rfl, hb5⟩
    have hown := own_of_blk (B := w.heap.size) (n := all.length) (s := 1) (H12.out.2.2.1.later hb5) (Nat.le_trans H1.out.1.size hVL) (by simp [strs]) (by unfold maxLen; omega)
    rw [List.toList_toArray] at hown
    have hM := MineS.mk hown (sub_trans (sub_trans H1.out.1 H12.out.2.2.2) hb5)
    have hz5 := H12.out.2.1.later hb5
    have HM := Lib.hid (And.intro hM hz5)
    clear hown hM hz5 c0 c1 c2 c3 c4 c5 c6 c7 c8 c9 c10 hb5
    go_wp2_with fail
    refine (join_any _ (all.set pk aB) _ w _ HM.out.1 (by simp) (by omega) HJL.out (by omega)).mono ?_
    rintro y w6 ⟨rfl, hb6⟩
    have h1 := sub_trans HM.out.1.below hb6
    have gz := HM.out.2.later hb6
    have gx := gz
    obtain ⟨d0, d1, d2, d3, d4, d5, d6, d7, d8, d9, d10⟩ := gz.c11
    have f0 := gz.frozen
    clear hb6
    generalize hj : (⟨(joinS 32 ((all.set pk aB).map (·.data.toList))).toArray⟩ : ByteArray) = J at *
    have HJ := Lib.hid hj
    clear hj
    by_cases heq : la = J
    · have hss : (la.toList == J.toList) = true := by simp [heq]
      have HFE := Lib.hid (HFIN.out.1 heq)
      clear heq
      have z := gz.stCl Cl.zero
      have hz := below_stCl h1 (g := w.heap.size + 1) (by omega) Cl.zero
      have HZ := Lib.hid (And.intro z hz)
      clear z hz gx gz
      unfold stCl at HZ
      go_wp2
      obtain ⟨z0, z1, z2, z3, z4, z5, z6, z7, z8, z9, z10⟩ := HZ.out.1.c11
      simp only [Cl.zero] at z0 z1 z2 z3 z4 z5 z6 z7 z8 z9 z10
      exact bodyPost_ret (v := .tuple #[.agg #[.int .i64 0, .string ⟨#[]⟩, .int .i64 0, .int .i64 0, .int .i64 0, .int .i64 0, .int .i64 0, .int .i64 0, .int .i64 0, .int .i64 0, .int .i64 0], .int .i64 2]) (by simp [results, Tryz.results85, go_sem, z0, z1, z2, z3, z4, z5, z6, z7, z8, z9, z10]; try rfl) rfl ⟨by rw [HFE.out]; rfl, HZ.out.2⟩
    · have hss : (la.toList == J.toList) = false := by simpa using str_ne heq
      have HFE := Lib.hid (HFIN.out.2 heq)
      clear heq
      have z := gz.stCl Cl.zero
      have hz := below_stCl h1 (g := w.heap.size + 1) (by omega) Cl.zero
      have HZ := Lib.hid (And.intro z hz)
      clear z hz gx gz
      unfold stCl at HZ
      go_wp2
      obtain ⟨z0, z1, z2, z3, z4, z5, z6, z7, z8, z9, z10⟩ := HZ.out.1.c11
      simp only [Cl.zero] at z0 z1 z2 z3 z4 z5 z6 z7 z8 z9 z10
      exact bodyPost_ret (v := .tuple #[.agg #[.int .i64 0, .string ⟨#[]⟩, .int .i64 0, .int .i64 0, .int .i64 0, .int .i64 0, .int .i64 0, .int .i64 0, .int .i64 0, .int .i64 0, .int .i64 0], .int .i64 10]) (by simp [results, Tryz.results85, go_sem, z0, z1, z2, z3, z4, z5, z6, z7, z8, z9, z10]; try rfl) rfl ⟨by rw [HFE.out]; rfl, HZ.out.2⟩
  · skip
    go_simp
    refine new_then2 (R := fun WT => K _ WT) hS rfl (fun WT hS hTT hTL hTB => ?_)
    try replace hV := hV.later hTB
    refine hK _ _ hS ?_
    clear hK hTB
    try simp only [Act.put, List.setIfInBounds_toArray, List.set_cons_zero, List.set_cons_succ]
    refine any_one 1 (by kernel_rfl) rfl (by rfl) (fun K hK => ?_)
    go_simp
    refine (HSP.out _ (HR.out.up (sub_trans H1.out.1 hS)).max).mono ?_
    rintro y v0 ⟨rfl, rfl⟩
    refine new_then2 (R := fun WT => K _ WT) hS rfl (fun WT hS hV hVL hVB => ?_)
    try replace hTT := hTT.later hVB
    try have hTL2 := hTL
    refine hK _ _ hS ?_
    clear hK hVB
    try simp only [Act.put, List.setIfInBounds_toArray, List.set_cons_zero, List.set_cons_succ]
    refine any_pure 4 (v := ?_) rfl (by kernel_rfl) (by intro _ _ _ h; exact h) (by assumption) (by rfl) (fun W hW => ?_) ?_
    rotate_left
    · first | (go_simp; done) | (go_simp; with_reducible rfl)
    try simp only [Act.put, List.setIfInBounds_toArray, List.set_cons_zero, List.set_cons_succ]
    refine any_one 5 (by kernel_rfl) rfl (by rfl) (fun K hK => ?_)
    have hT9 : Blk _ _ 50 Cl.zero.arr := hTT
    obtain ⟨d0, d1, d2, d3, d4, d5, d6, d7, d8, d9, d10⟩ := hT9.c11
    have f0 := hT9.frozen
    go_simp
    have hne := blk_ne hV hT9 (by decide)
    refine st_then (M := fun W9 => Blk W9 _ 50 x.arr ∧ Below w1.heap.size w1 W9 ∧ Blk W9 _ 9 _) (R := fun WT => K _ WT) ⟨hT9.stCl x, below_stCl hS hTL x, stCl_far hV hne x⟩ (fun W9 hT10 => ?_)
    refine hK _ _ hT10.2.1 ?_
    clear hK f0 d0 d1 d2 d3 d4 d5 d6 d7 d8 d9 d10 hT9 hTT hV hS
    try simp only [Act.put, List.setIfInBounds_toArray, List.set_cons_zero, List.set_cons_succ]
    refine any_done (by kernel_rfl) ?_
    obtain ⟨hT10, hS10, hV10⟩ := hT10
    have H10 := Lib.hid (And.intro hT10 (And.intro hS10 (And.intro hV10 hne)))
    have c1 := hT10.cell 1
    have f1 := hT10.frozen 1
    simp only [Cl.arr, List.getElem?_toArray, List.getElem?_cons_succ, List.getElem?_cons_zero] at c1
    clear hT10 hS10 hV10 hne
    go_wp2
    have hT11 := H10.out.1.set_ 1 (.string ⟨#[97]⟩)
    have hS11 := H10.out.2.1.setCell (p := ⟨_, 1, none⟩) hTL (.string ⟨#[97]⟩)
    have hV11 := H10.out.2.2.1.far (p := ⟨_, 1, none⟩) H10.out.2.2.2 (.string ⟨#[97]⟩)
    have hne := H10.out.2.2.2
    clear H10 c1 f1
    rw [withA_arr] at hT11
    generalize W9.setCell _ _ = W10 at *
    have H11 := Lib.hid (And.intro hT11 (And.intro hS11 (And.intro hV11 hne)))
    have H11X := Lib.hid (And.intro (H1.out.2.1.later hS11) (H1.out.2.2.later hS11))
    clear hT11 hS11 hV11 hne
    have hS : _ ∧ _ := And.intro (H11X.out.1.drew) (H11.out.1.drew)
    refine any_start (S := fun W => Blk W _ 50 x.arr ∧ Blk W _ 50 (withA x).arr) (by kernel_rfl) hS ?_
    simp only [List.length_cons, List.length_nil, Nat.reduceAdd, List.size_toArray]
    refine any_pure 0 (v := ?_) rfl (by kernel_rfl) (by intro _ _ _ h; exact h) (by assumption) (by rfl) (fun W hW => ?_) ?_
    rotate_left
    · first | (go_simp; done) | (go_simp; with_reducible rfl)
    try simp only [Act.put, List.setIfInBounds_toArray, List.set_cons_zero, List.set_cons_succ]
    refine any_pure 1 (v := ?_) rfl (by kernel_rfl) (by intro _ _ _ h; exact h) (by assumption) (by rfl) (fun W hW => ?_) ?_
    rotate_left
    · first | (go_simp; done) | (go_simp; with_reducible rfl)
    try simp only [Act.put, List.setIfInBounds_toArray, List.set_cons_zero, List.set_cons_succ]
    refine any_pure 2 (v := ?_) rfl (by kernel_rfl) (by intro _ _ _ h; exact h) (by assumption) (by rfl) (fun W hW => ?_) ?_
    rotate_left
    · have c0 := hW.1.cell 0; simp only [Cl.arr, List.getElem?_toArray, List.getElem?_cons_succ, List.getElem?_cons_zero] at c0; first | (go_simp; done) | (go_simp; with_reducible rfl)
    try simp only [Act.put, List.setIfInBounds_toArray, List.set_cons_zero, List.set_cons_succ]
    refine any_call 3 101 #[.int .i64 x.k] (.int .i64 (pk : Int)) rfl (by kernel_rfl) (by intro _ _ _ h; exact h) (by assumption) (by rfl) (fun _ => by go_simp) (fun W hW => ?_) ?_
    · exact HPL.out W
    try simp only [Act.put, List.setIfInBounds_toArray, List.set_cons_zero, List.set_cons_succ]
    refine any_pure 4 (v := ?_) rfl (by kernel_rfl) (by intro _ _ _ h; exact h) (by assumption) (by rfl) (fun W hW => ?_) ?_
    rotate_left
    · first | (go_simp; done) | (go_simp; with_reducible rfl)
    try simp only [Act.put, List.setIfInBounds_toArray, List.set_cons_zero, List.set_cons_succ]
    refine any_pure 5 (v := ?_) rfl (by kernel_rfl) (by intro _ _ _ h; exact h) (by assumption) (by rfl) (fun W hW => ?_) ?_
    rotate_left
    · have c1 := hW.2.cell 1; simp only [Cl.arr, withA, aB, List.getElem?_toArray, List.getElem?_cons_succ, List.getElem?_cons_zero] at c1; first | (go_simp; done) | (go_simp; with_reducible rfl)
    try simp only [Act.put, List.setIfInBounds_toArray, List.set_cons_zero, List.set_cons_succ]
    refine any_pure 6 (v := ?_) rfl (by kernel_rfl) (by intro _ _ _ h; exact h) (by assumption) (by rfl) (fun W hW => ?_) ?_
    rotate_left
    · first | (go_simp; done) | (go_simp; with_reducible rfl)
    try simp only [Act.put, List.setIfInBounds_toArray, List.set_cons_zero, List.set_cons_succ]
    refine any_one 7 (by kernel_rfl) rfl (by rfl) (fun K hK => ?_)
    have cV := (H11.out.2.2.1.drew).cell pk
    have fV := (H11.out.2.2.1.drew).frozen pk
    simp [hp] at cV
    go_simp
    have hV12 := (H11.out.2.2.1.set_ pk (.string ⟨#[97]⟩)).drew
    rw [strs_setA] at hV12
    have hT12 := (H11.out.1.far (p := ⟨_, pk, none⟩) H11.out.2.2.2.symm (.string ⟨#[97]⟩)).drew
    have hlt1 := H1.out.2.1.lt
    have hlt2 := H1.out.2.2.lt
    have hX12 := (H11X.out.1.far (p := ⟨_, pk, none⟩) (Nat.ne_of_lt (Nat.lt_of_lt_of_le hlt1 hVL)) (.string ⟨#[97]⟩)).drew
    have hZ12 := (H11X.out.2.far (p := ⟨_, pk, none⟩) (Nat.ne_of_lt (Nat.lt_of_lt_of_le hlt2 hVL)) (.string ⟨#[97]⟩)).drew
    have hS12 := (H11.out.2.1.setCell (p := ⟨_, pk, none⟩) hVL (.string ⟨#[97]⟩)).drew
    refine hK _ _ ⟨hX12, hT12⟩ ?_
    clear hK cV fV hlt1 hlt2
    generalize World.drew (World.setCell W10 _ _) = W11 at *
    try simp only [Act.put, List.setIfInBounds_toArray, List.set_cons_zero, List.set_cons_succ]
    refine any_done (by kernel_rfl) ?_
    have H12 := Lib.hid (And.intro hT12 (And.intro hZ12 (And.intro hV12 hS12)))
    obtain ⟨c0, c1, c2, c3, c4, c5, c6, c7, c8, c9, c10⟩ := hT12.c11
    simp only [withA, aB] at c0 c1 c2 c3 c4 c5 c6 c7 c8 c9 c10
    clear hT12 hZ12 hV12 hS12 hX12 hS H11 H11X
    go_wp2_with fail
    refine (HA.out _ (pow_up HR.out.tabs.pow (sub_trans H1.out.1 H12.out.2.2.2))).mono ?_
    rintro y w5 ⟨rfl, hb5⟩
    have hown := own_of_blk (B := w.heap.size) (n := all.length) (s := 1) (H12.out.2.2.1.later hb5) (Nat.le_trans H1.out.1.size hVL) (by simp [strs]) (by unfold maxLen; omega)
    rw [List.toList_toArray] at hown
    have hM := MineS.mk hown (sub_trans (sub_trans H1.out.1 H12.out.2.2.2) hb5)
    have hz5 := H12.out.2.1.later hb5
    have HM := Lib.hid (And.intro hM hz5)
    clear hown hM hz5 c0 c1 c2 c3 c4 c5 c6 c7 c8 c9 c10 hb5
    go_wp2_with fail
    refine (join_any _ (all.set pk aB) _ w _ HM.out.1 (by simp) (by omega) HJL.out (by omega)).mono ?_
    rintro y w6 ⟨rfl, hb6⟩
    have h1 := sub_trans HM.out.1.below hb6
    have gz := HM.out.2.later hb6
    have gx := gz
    obtain ⟨d0, d1, d2, d3, d4, d5, d6, d7, d8, d9, d10⟩ := gz.c11
    have f0 := gz.frozen
    clear hb6
    generalize hj : (⟨(joinS 32 ((all.set pk aB).map (·.data.toList))).toArray⟩ : ByteArray) = J at *
    have HJ := Lib.hid hj
    clear hj
    by_cases heq : la = J
    · have hss : (la.toList == J.toList) = true := by simp [heq]
      have HFE := Lib.hid (HFIN.out.1 heq)
      clear heq
      have z := gz.stCl Cl.zero
      have hz := below_stCl h1 (g := w.heap.size + 1) (by omega) Cl.zero
      have HZ := Lib.hid (And.intro z hz)
      clear z hz gx gz
      unfold stCl at HZ
      go_wp2
      obtain ⟨z0, z1, z2, z3, z4, z5, z6, z7, z8, z9, z10⟩ := HZ.out.1.c11
      simp only [Cl.zero] at z0 z1 z2 z3 z4 z5 z6 z7 z8 z9 z10
      exact bodyPost_ret (v := .tuple #[.agg #[.int .i64 0, .string ⟨#[]⟩, .int .i64 0, .int .i64 0, .int .i64 0, .int .i64 0, .int .i64 0, .int .i64 0, .int .i64 0, .int .i64 0, .int .i64 0], .int .i64 2]) (by simp [results, Tryz.results85, go_sem, z0, z1, z2, z3, z4, z5, z6, z7, z8, z9, z10]; try rfl) rfl ⟨by rw [HFE.out]; rfl, HZ.out.2⟩
    · have hss : (la.toList == J.toList) = false := by simpa using str_ne heq
      have HFE := Lib.hid (HFIN.out.2 heq)
      clear heq
      have z := gz.stCl Cl.zero
      have hz := below_stCl h1 (g := w.heap.size + 1) (by omega) Cl.zero
      have HZ := Lib.hid (And.intro z hz)
      clear z hz gx gz
      unfold stCl at HZ
      go_wp2
      obtain ⟨z0, z1, z2, z3, z4, z5, z6, z7, z8, z9, z10⟩ := HZ.out.1.c11
      simp only [Cl.zero] at z0 z1 z2 z3 z4 z5 z6 z7 z8 z9 z10
      exact bodyPost_ret (v := .tuple #[.agg #[.int .i64 0, .string ⟨#[]⟩, .int .i64 0, .int .i64 0, .int .i64 0, .int .i64 0, .int .i64 0, .int .i64 0, .int .i64 0, .int .i64 0, .int .i64 0], .int .i64 10]) (by simp [results, Tryz.results85, go_sem, z0, z1, z2, z3, z4, z5, z6, z7, z8, z9, z10]; try rfl) rfl ⟨by rw [HFE.out]; rfl, HZ.out.2⟩
end Go.Proofs.YteljecehppeamaaGreatDoor
