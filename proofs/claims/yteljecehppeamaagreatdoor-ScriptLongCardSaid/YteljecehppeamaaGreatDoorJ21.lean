/-
  2 texts of this claim, joined; each says itself what it proves. Condition: as each text says.
-/
import Derived.Test.YteljecehppeamaaGreatDoorJ20
import Derived.Test.YteljecehppeamaaGreatDoorJ13
import Derived.Test.YteljecehppeamaaGreatDoorJ14
/-
  script.Parse, walked on the text of a script, on the empty one and on one that is too long (chapter 42). Conditions: as for the reader.
-/
namespace Go.Fw
open Go.RowKit
set_option linter.unusedVariables false
set_option linter.unusedSimpArgs false
/-- few things were read -/
def Sc.few (s : Sc) (N : Nat) : Prop := s.ps.length ≤ N ∧ ∀ p ∈ s.ps, p.length ≤ N
theorem Step.few {s s' : Sc} {d d' : Nat} {l : ByteArray} {N : Nat} (h : Step s d l s' d') (hf : s.few N) : s'.few (N + 1) := by
  have up : s.ps.length ≤ N + 1 ∧ ∀ p ∈ s.ps, p.length ≤ N + 1 := ⟨by have := hf.1; omega, fun p hp => by have := hf.2 p hp; omega⟩
  cases h with
  | store _ => exact up
  | workers _ => exact up
  | picks _ _ => exact up
  | client => 
    refine ⟨by have := hf.1; simp; omega, fun p hp => ?_⟩
    rcases List.mem_append.1 hp with hp | hp
    · exact up.2 p hp
    · rw [List.mem_singleton.1 hp]; simp
  | call hx he hz hs =>
    rename_i x ps p
    have hl := hf.1
    rw [hs] at hl
    refine ⟨by simp at hl ⊢; omega, fun q hq => ?_⟩
    rcases List.mem_append.1 hq with hq | hq
    · have := hf.2 q (by rw [hs]; exact List.mem_append_left _ hq); omega
    · rw [List.mem_singleton.1 hq]
      have := hf.2 p (by rw [hs]; simp)
      simp
      omega
/-- the lines of a text: few steps -/
theorem rdArr_zero : rdArr Sc.zero (.slice none 0 0) (.slice none 0 0) 0 = #[.int .i64 0, .int .i64 0, .int .i64 0, .int .i64 0, .slice none 0 0, .int .i64 0, .slice none 0 0, .int .i64 0] := rfl
theorem scRows_zero (B : Nat) (tp tc ti : TypeId) (w : World) : ScRows B tp tc ti w (.slice none 0 0) (.slice none 0 0) Sc.zero [] :=
  ⟨World.ownsRow_nil _ _ _ _, World.ownsRow_nil _ _ _ _, fun i hi => by simp [Sc.zero] at hi, fun i u u' hi => by simp [Sc.zero] at hi⟩
theorem bare_textE {x : Cl} (he : textE x = 0) : textE (bareC x) = 0 := by
  have h1 := bare_k x
  have hk := kind_of he
  unfold textE
  rw [if_neg (by rw [h1]; omega), if_neg]
  rintro ⟨h2, h3⟩
  rw [h1] at h2
  rw [bare_id h2, named_ok he h2] at h3
  cases h3
theorem firstE_zero : ∀ {l : List Cl}, (∀ x ∈ l, textE x = 0) → firstE l = 0
  | [], _ => rfl
  | x :: l, h => by
    unfold firstE
    rw [if_neg (by rw [h x (by simp)]; simp)]
    exact firstE_zero fun y hy => h y (by simp [hy])
theorem scE_bare {s : Sc} (h : scE s.st s.sa s.lo s.hi s.ps s.wk = 0) : scE s.bare.st s.bare.sa s.bare.lo s.bare.hi s.bare.ps s.bare.wk = 0 := by
  obtain ⟨h1, h2⟩ := scE_zero h
  have h3 : callsE s.st s.sa s.lo s.hi s.bare.ps s.wk = 0 := by
    rw [← h1]
    unfold callsE Sc.bare
    simp only [List.length_map, List.all_map]
    have e : ((fun p : List Cl => decide (p.length ≤ 256)) ∘ fun p : List Cl => p.map bareC) = fun p => decide (p.length ≤ 256) := by funext p; simp
    rw [e]
  show scE s.st s.sa s.lo s.hi s.bare.ps s.wk = 0
  unfold scE
  rw [if_neg (by rw [h3]; simp)]
  refine firstE_zero fun x hx => ?_
  obtain ⟨q, hq, hx⟩ := List.mem_flatten.1 hx
  obtain ⟨p, hp, rfl⟩ := List.mem_map.1 hq
  obtain ⟨y, hy, rfl⟩ := List.mem_map.1 hx
  exact bare_textE (h2 p hp y hy)
def set7 (W : World) (b : Nat) (v0 v1 v2 v3 v4 v5 v6 : Value) : World :=
  ((((((W.setCell ⟨b, 0, none⟩ v0).setCell ⟨b, 1, none⟩ v1).setCell ⟨b, 2, none⟩ v2).setCell ⟨b, 3, none⟩ v3).setCell ⟨b, 4, none⟩ v4).setCell ⟨b, 5, none⟩ v5).setCell ⟨b, 6, none⟩ v6
theorem set7_blk {W : World} {b : Nat} {t : TypeId} {u0 u1 u2 u3 u4 u5 u6 : Value} (h : Blk W b t #[u0, u1, u2, u3, u4, u5, u6]) (v0 v1 v2 v3 v4 v5 v6 : Value) : Blk (set7 W b v0 v1 v2 v3 v4 v5 v6) b t #[v0, v1, v2, v3, v4, v5, v6] := by
  have := ((((((h.set_ 0 v0).set_ 1 v1).set_ 2 v2).set_ 3 v3).set_ 4 v4).set_ 5 v5).set_ 6 v6
  simpa [set7] using this
theorem set7_below {w W : World} {b B : Nat} (h : Below B w W) (hb : B ≤ b) (v0 v1 v2 v3 v4 v5 v6 : Value) : Below B w (set7 W b v0 v1 v2 v3 v4 v5 v6) :=
  ((((((h.setCell (p := ⟨b, 0, none⟩) hb v0).setCell (p := ⟨b, 1, none⟩) hb v1).setCell (p := ⟨b, 2, none⟩) hb v2).setCell (p := ⟨b, 3, none⟩) hb v3).setCell (p := ⟨b, 4, none⟩) hb v4).setCell (p := ⟨b, 5, none⟩) hb v5).setCell (p := ⟨b, 6, none⟩) hb v6
/-- behind seven stores -/
theorem st7_then {w : World} {b : Nat} {v0 v1 v2 v3 v4 v5 v6 : Value} {M R : World → Prop} (hM : M (set7 w b v0 v1 v2 v3 v4 v5 v6)) (h : ∀ W, M W → R W) : R (((((((w.setCell ⟨b, 0, none⟩ v0).setCell ⟨b, 1, none⟩ v1).setCell ⟨b, 2, none⟩ v2).setCell ⟨b, 3, none⟩ v3).setCell ⟨b, 4, none⟩ v4).setCell ⟨b, 5, none⟩ v5).setCell ⟨b, 6, none⟩ v6) := h _ hM
theorem Run.few {s s' : Sc} {d d' : Nat} {ls : List ByteArray} (h : Run s d ls s' d') : ∀ {N : Nat}, s.few N → s'.few (N + ls.length) := by
  induction h with
  | done => intro N h; exact h
  | line h k ih =>
    intro N hf
    have := ih (h.few hf)
    rw [List.length_cons, Nat.add_comm _ 1, ← Nat.add_assoc]
    exact this
end Go.Fw
namespace Go.Proofs.YteljecehppeamaaGreatDoor
open Go.RowKit Go.Fw Go.Shelf
set_option maxHeartbeats 2000000
set_option maxRecDepth 100000
set_option linter.unusedVariables false
set_option linter.unusedSimpArgs false
/-- read: a call's line -/
theorem read_call (w0 w : World) (rb : Nat) (s : Sc) (ps : List (List Cl)) (p : List Cl) (x : Cl) (h : RdS w0 w rb s 1) (hs : s.ps = ps ++ [p]) (hx : x.ok) (he : textE x = 0) (hR : Ready w) (hp1 : ps.length ≤ 100000) (hp2 : p.length ≤ 100000) :
    Calls Tryz.prog 30 #[.pointer (some ⟨rb, 0, none⟩), .string (lineB x)] w fun e w' => e = .returned (.int .i64 0) ∧ RdS w0 w' rb { s with ps := ps ++ [p ++ [bareC x]] } 1 := by
  have h3 : Num3 (lineB x) none none none := num3_call he
  have hsz : (lineB x).size ≤ 100000 := by have h1 := lineN_len hx he; have h2 := congrArg List.length (lineB_eq x); have h3 : (lineB x).data.toList.length = (lineB x).size := rfl; omega
  have hne : ((lineB x).toList == [99, 108, 105, 101, 110, 116]) = false := by
    rw [ByteArray.toList_eq, lineB_eq, beq_eq_false_iff_ne]
    exact lineN_client he
  have HC := Lib.hid (fun W (hW : Below w.heap.size w W) => call_any w0 W rb s ps p x (h.up hW) hs hx he (hR.up hW) hp1 hp2)
  have HS := Lib.hid (fun W hW => scnum_none storeB _ h3.s hsz (by decide) W hW)
  have HWK := Lib.hid (fun W hW => scnum_none workersB _ h3.w hsz (by decide) W hW)
  have HPK := Lib.hid (fun W hW => scnum_none picksB _ h3.p hsz (by decide) W hW)
  have HT := Lib.hid hR.tabs
  have HR := Lib.hid h
  unfold storeB at HS
  unfold workersB at HWK
  unfold picksB at HPK
  clear h3 hsz hR h hs hx he
  generalize lineB x = l at *
  generalize bareC x = y at *
  go_enter Tryz.func30, Tryz.ntmps30
  go_wp2_with fail
  refine (HS.out _ HT.out).mono ?_
  rintro e w1 ⟨rfl, hb1⟩
  have HB1 := Lib.hid hb1
  clear hb1
  go_wp2_with fail
  refine (HWK.out _ (HT.out.up HB1.out)).mono ?_
  rintro e w2 ⟨rfl, hb2⟩
  have HB2 := Lib.hid (sub_trans HB1.out hb2)
  clear hb2 HB1
  go_wp2_with fail
  refine (HPK.out _ (HT.out.up HB2.out)).mono ?_
  rintro e w3 ⟨rfl, hb3⟩
  have HB3 := Lib.hid (sub_trans HB2.out hb3)
  clear hb3 HB2
  obtain ⟨v, v2, vs, hB, hV⟩ := (HR.out.up HB3.out).ex
  unfold rdArr at hB
  have c7 := hB.cell 7
  simp only [List.getElem?_toArray, List.getElem?_cons_succ, List.getElem?_cons_zero] at c7
  clear hB hV
  go_wp2_with fail
  refine (HC.out _ HB3.out).mono ?_
  rintro e w4 ⟨rfl, h4⟩
  go_wp2
  go_ret
  exact ⟨rfl, h4⟩
/-- read of any line of a script -/
theorem read_any (w0 w : World) (rb : Nat) (s s' : Sc) (d d' : Nat) (l : ByteArray) (hst : Step s d l s' d') (h : RdS w0 w rb s d) (hR : Ready w) (hf : s.few 90000) (hl : l.size ≤ 90000) :
    Calls Tryz.prog 30 #[.pointer (some ⟨rb, 0, none⟩), .string l] w fun e w' => e = .returned (.int .i64 0) ∧ RdS w0 w' rb s' d' := by
  cases hst with
  | store hin => exact read_store w0 w rb s _ _ _ _ h hin hR.tabs
  | client => exact read_client w0 w rb s h hR.tabs (by have := hf.1; omega)
  | call hx he hz hs =>
    rename_i x ps p
    have h1 := hf.1
    rw [hs] at h1
    have h2 := hf.2 p (by rw [hs]; simp)
    exact read_call w0 w rb s ps p x h hs hx he hR (by simp at h1; omega) (by omega)
  | workers hin => exact read_workers w0 w rb s _ h hin hR.tabs
  | picks h0 hin => exact read_picks w0 w rb s _ h h0 hin (by have e : (⟨(pkN _).toArray⟩ : ByteArray).size ≤ 90000 := hl; have e2 := e; change (List.toArray (pkN _)).size ≤ 90000 at e2; simp at e2; omega) hR.tabs
/-- rows that were read, as they are looked at -/
theorem scAt_of {B : Nat} {w : World} {v v2 : Value} {s : Sc} {vs : List Value} (h : ScR B w v v2 s vs) (h1 : s.ps.length ≤ 100000) (h2 : s.pk.length ≤ 100000) : ∃ A c A2 c2, v = .slice A s.ps.length c ∧ v2 = .slice A2 s.pk.length c2 ∧ ScAt w A A2 s.ps.length c s.pk.length c2 s := by
  obtain ⟨A, c, rfl, _, _⟩ := own_form h.ps
  obtain ⟨A2, c2, rfl, _, _⟩ := own_form h.pk
  refine ⟨A, c, A2, c2, rfl, rfl, ⟨⟨vs, Reads.of_own h.ps, rfl, fun i hi => ?_⟩, Reads.of_own h.pk, by omega, h2⟩⟩
  obtain ⟨u, g1, g2⟩ := h.row i hi
  obtain ⟨A', c', rfl, g3, g4⟩ := own_form g2
  exact ⟨A', c', g1, g3, g4, Reads.of_own g2⟩
theorem scAt_at {B : Nat} {w : World} {A A2 : Option Addr} {c c2 : Nat} {s : Sc} {vs : List Value} (h : ScR B w (.slice A s.ps.length c) (.slice A2 s.pk.length c2) s vs) (h1 : s.ps.length ≤ 100000) (h2 : s.pk.length ≤ 100000) : ScAt w A A2 s.ps.length c s.pk.length c2 s := by
  obtain ⟨A', c', A2', c2', e1, e2, h3⟩ := scAt_of h h1 h2
  injection e1 with e1 _ e3
  injection e2 with e2 _ e4
  subst e1 e2 e3 e4
  exact h3
theorem scset7 {B : Nat} {w : World} {v v2 : Value} {s : Sc} {vs : List Value} (h : ScR B w v v2 s vs) {b : Nat} {u0 u1 u2 u3 u4 u5 u6 : Value} (hb : Blk w b 33 #[u0, u1, u2, u3, u4, u5, u6]) (v0 v1 v2' v3 v4 v5 v6 : Value) : ScR B (set7 w b v0 v1 v2' v3 v4 v5 v6) v v2 s vs := by
  have one : ∀ {W : World} {cs : Array Value}, (Blk W b 33 cs ∧ ScR B W v v2 s vs) → ∀ i u, Blk (W.setCell ⟨b, i, none⟩ u) b 33 (cs.setIfInBounds i u) ∧ ScR B (W.setCell ⟨b, i, none⟩ u) v v2 s vs := fun h i u => ⟨h.1.set_ i u, h.2.set h.1 (by decide) (by decide) (by decide) i u⟩
  exact (one (one (one (one (one (one (one ⟨hb, h⟩ 0 v0) 1 v1) 2 v2') 3 v3) 4 v4) 5 v5) 6 v6).2
def zero7 : Array Value := #[.int .i64 0, .int .i64 0, .int .i64 0, .int .i64 0, .slice none 0 0, .int .i64 0, .slice none 0 0]
def zero8 : Array Value := #[.int .i64 0, .int .i64 0, .int .i64 0, .int .i64 0, .slice none 0 0, .int .i64 0, .slice none 0 0, .int .i64 0]
theorem sparse_long (t : ByteArray) (ht : 16384 < t.size) (hm : t.size ≤ 1000000) (w : World) : Calls Tryz.prog 11 #[.string t] w fun e w' => e = .returned (.tuple #[.agg zero7, .int .i64 0, .int .i64 12]) ∧ Below w.heap.size w w' := by
  have hI : (16384 : Int) < (t.size : Int) := by omega
  have HG := Lib.hid (Blk.new_at w 33 zero7 (g := w.heap.size) rfl)
  have HB := Lib.hid (sub_alloc (Below.refl _ w) (.cells zero7 33))
  unfold zero7 at *
  clear ht
  go_enter Tryz.func11, Tryz.ntmps11
  have z0 := HG.out.cell 0
  have z1 := HG.out.cell 1
  have z2 := HG.out.cell 2
  have z3 := HG.out.cell 3
  have z4 := HG.out.cell 4
  have z5 := HG.out.cell 5
  have z6 := HG.out.cell 6
  simp only [List.getElem?_toArray, List.getElem?_cons_succ, List.getElem?_cons_zero] at z0 z1 z2 z3 z4 z5 z6
  go_wp2
  exact bodyPost_ret (v := .tuple #[.agg #[.int .i64 0, .int .i64 0, .int .i64 0, .int .i64 0, .slice none 0 0, .int .i64 0, .slice none 0 0], .int .i64 0, .int .i64 12]) (by simp [results, Tryz.results11, go_sem, z0, z1, z2, z3, z4, z5, z6]; try rfl) rfl ⟨rfl, HB.out⟩
theorem words_empty : wordsB 10 ByteArray.empty = [ByteArray.empty] := rfl
theorem sparse_empty (w : World) (hM : HasMax w) : Calls Tryz.prog 11 #[.string ByteArray.empty] w fun e w' => e = .returned (.tuple #[.agg zero7, .int .i64 1, .int .i64 10]) ∧ Below w.heap.size w w' := by
  have HB := Lib.hid (sub_alloc (Below.refl _ w) (.cells zero7 33))
  have HS := Lib.hid (fun W hM => split_any 10 ByteArray.empty (by decide) W hM)
  rw [words_empty] at HS
  have HM := Lib.hid (hasMax_up hM HB.out)
  have HG0 := Lib.hid (Blk.new_at w 33 zero7 (g := w.heap.size) rfl)
  clear hM
  unfold zero7 at *
  go_enter Tryz.func11, Tryz.ntmps11
  go_wp2_with fail
  refine (HS.out _ HM.out).mono ?_
  rintro e w1 ⟨rfl, rfl⟩
  simp only [List.map_cons, List.map_nil, List.length_cons, List.length_nil, Nat.reduceAdd]
  obtain ⟨WA, hWA⟩ : ∃ WA, (w.alloc (.cells #[.int .i64 0, .int .i64 0, .int .i64 0, .int .i64 0, .slice none 0 0, .int .i64 0, .slice none 0 0] 33)) = WA := ⟨_, rfl⟩
  rw [hWA] at HB HG0 ⊢
  clear hWA HM
  have HG1 := Lib.hid ((HG0.out.alloc (.cells #[.string ByteArray.empty] 9)).alloc (.cells zero8 74))
  have HB1 := Lib.hid (sub_alloc (sub_alloc HB.out (.cells #[.string ByteArray.empty] 9)) (.cells zero8 74))
  unfold zero8 at *
  have z0 := HG1.out.cell 0
  have z1 := HG1.out.cell 1
  have z2 := HG1.out.cell 2
  have z3 := HG1.out.cell 3
  have z4 := HG1.out.cell 4
  have z5 := HG1.out.cell 5
  have z6 := HG1.out.cell 6
  have zf := HG1.out.frozen
  simp only [List.getElem?_toArray, List.getElem?_cons_succ, List.getElem?_cons_zero] at z0 z1 z2 z3 z4 z5 z6
  go_wp2
  go_loopw [25] (fun i wr => i = .int .i64 0 ∧ wr = (WA.alloc (.cells #[.string ByteArray.empty] 9)).alloc (.cells #[.int .i64 0, .int .i64 0, .int .i64 0, .int .i64 0, .slice none 0 0, .int .i64 0, .slice none 0 0, .int .i64 0] 74)) (fun _ _ => 0)
  case atStart => exact ⟨rfl, rfl⟩
  case round =>
    obtain ⟨rfl, rfl⟩ := hrel
    have HF := Lib.hid (And.intro (set7_blk HG1.out (.int .i64 0) (.int .i64 0) (.int .i64 0) (.int .i64 0) (.slice none 0 0) (.int .i64 0) (.slice none 0 0)) (set7_below HB1.out (Nat.le_refl _) (.int .i64 0) (.int .i64 0) (.int .i64 0) (.int .i64 0) (.slice none 0 0) (.int .i64 0) (.slice none 0 0)))
    go_wp2
    refine st7_then (M := fun W => Blk W w.heap.size 33 #[.int .i64 0, .int .i64 0, .int .i64 0, .int .i64 0, .slice none 0 0, .int .i64 0, .slice none 0 0] ∧ Below w.heap.size w W) HF.out fun W hM => ?_
    clear z0 z1 z2 z3 z4 z5 z6
    have z0 := hM.1.cell 0
    have z1 := hM.1.cell 1
    have z2 := hM.1.cell 2
    have z3 := hM.1.cell 3
    have z4 := hM.1.cell 4
    have z5 := hM.1.cell 5
    have z6 := hM.1.cell 6
    simp only [List.getElem?_toArray, List.getElem?_cons_succ, List.getElem?_cons_zero] at z0 z1 z2 z3 z4 z5 z6
    exact bodyPost_ret (v := .tuple #[.agg #[.int .i64 0, .int .i64 0, .int .i64 0, .int .i64 0, .slice none 0 0, .int .i64 0, .slice none 0 0], .int .i64 1, .int .i64 10]) (by simp [results, Tryz.results11, go_sem, z0, z1, z2, z3, z4, z5, z6]; try rfl) rfl ⟨rfl, hM.2⟩
theorem blk_str {w : World} {g : Nat} {L : List ByteArray} (h : Blk w g 9 (L.map Value.string).toArray) {k : Nat} (hk : k < L.length) : w.cell? ⟨g, k, none⟩ = some (.string L[k]) := by
  rw [h.cell]
  simp [hk]
/-- what was read of the first k lines -/
def InPa (WB : World) (ls : List ByteArray) (s' : Sc) (d' k : Nat) (W : World) : Prop := ∃ s1 d1, RdS WB W WB.heap.size s1 d1 ∧ Run s1 d1 (ls.drop k) s' d' ∧ s1.few k
theorem sparse_run (t : ByteArray) (ls : List ByteArray) (s' : Sc) (d' : Nat) (hw : wordsB 10 t = ls ++ [ByteArray.empty]) (hrun : Run Sc.zero 0 ls s' d') (hd : 2 ≤ d') (ht : t.size ≤ 16384) (hE : scE s'.st s'.sa s'.lo s'.hi s'.ps s'.wk = 0) (hok : s'.ok) (hpk : s'.pk.length ≤ 100000) (w : World) (hR : Ready w) :
    Calls Tryz.prog 11 #[.string t] w fun e w' => ∃ A A2 c c2, e = .returned (.tuple #[.agg (scArr s' A A2 s'.ps.length c s'.pk.length c2), .int .i64 0, .int .i64 0]) ∧ ScAt w' A A2 s'.ps.length c s'.pk.length c2 s' ∧ Below w.heap.size w w' := by
  have HB := Lib.hid (sub_alloc (Below.refl _ w) (.cells zero7 33))
  have HS := Lib.hid (fun W hM => split_any 10 t (by omega) W hM)
  have hll := wordsB_len 10 t
  have hlz : ∀ l ∈ ls, l.size ≤ 90000 := fun l hl => by
    have := wordsB_sizes (c := 10) (s := t) (x := l) (by rw [hw]; simp [hl])
    omega
  rw [hw] at HS hll
  rw [List.length_append, List.length_singleton] at hll
  have HR := Lib.hid (hR.up HB.out)
  have HG0 := Lib.hid (Blk.new_at w 33 zero7 (g := w.heap.size) rfl)
  have HRUN := Lib.hid hrun
  have HD := Lib.hid hd
  have HE := Lib.hid hE
  have HOK := Lib.hid hok
  have HPK := Lib.hid hpk
  have HLZ := Lib.hid hlz
  have hI : (t.size : Int) ≤ 16384 := by omega
  have hnl : ls.length ≤ 16384 := by omega
  have hFEW := Lib.hid (Run.few hrun (N := 0) ⟨by simp [Sc.zero], fun p hp => by simp [Sc.zero] at hp⟩)
  clear hR hw hrun hd hE hok hpk hlz hll
  unfold zero7 at *
  go_enter Tryz.func11, Tryz.ntmps11
  go_wp2_with fail
  refine (HS.out _ HR.out.max).mono ?_
  rintro e w1 ⟨rfl, rfl⟩
  simp only [List.length_append, List.length_cons, List.length_nil, Nat.reduceAdd]
  obtain ⟨WA, hWA⟩ : ∃ WA, (w.alloc (.cells #[.int .i64 0, .int .i64 0, .int .i64 0, .int .i64 0, .slice none 0 0, .int .i64 0, .slice none 0 0] 33)) = WA := ⟨_, rfl⟩
  rw [hWA] at HB HG0 HR ⊢
  clear hWA HS
  have hLB : Blk (WA.alloc (.cells ((ls ++ [ByteArray.empty]).map Value.string).toArray 9)) WA.heap.size 9 ((ls ++ [ByteArray.empty]).map Value.string).toArray := Blk.new_at WA 9 _ rfl
  obtain ⟨WB, hWB⟩ : ∃ WB, WA.alloc (.cells ((ls ++ [ByteArray.empty]).map Value.string).toArray 9) = WB := ⟨_, rfl⟩
  have hbB : Below WA.heap.size WA WB := by rw [← hWB]; exact sub_alloc (Below.refl _ _) _
  rw [hWB] at hLB ⊢
  have HLB := Lib.hid hLB
  have HGB := Lib.hid (HG0.out.later hbB)
  have HBB := Lib.hid (sub_trans HB.out hbB)
  have HRB := Lib.hid (HR.out.up hbB)
  clear hLB hWB hbB HB HG0 HR
  have HRD : Hid (RdS WB (WB.alloc (.cells zero8 74)) WB.heap.size Sc.zero 0) := Lib.hid ⟨⟨.slice none 0 0, .slice none 0 0, [], Blk.new_at WB 74 zero8 rfl, scRows_zero _ _ _ _ _⟩, Nat.le_refl _, sub_alloc (Below.refl _ _) _⟩
  unfold zero8 at HRD
  generalize hlen : ls.length = n at *
  have HLEN := Lib.hid hlen
  clear hlen
  have hlA : WA.heap.size < WB.heap.size := HLB.out.lt
  have HLC : Hid (∀ (W : World) (k : Nat) (hk : k < ls.length), Below WB.heap.size WB W → W.cell? ⟨WA.heap.size, k, none⟩ = some (.string ls[k])) := Lib.hid (fun W k hk hW => by
    have h := blk_str (HLB.out.later hW) (k := k) (by simp; omega)
    rw [h]
    simp [List.getElem_append_left hk])
  have HLE : Hid (∀ (W : World), Below WB.heap.size WB W → W.cell? ⟨WA.heap.size, n, none⟩ = some (.string ByteArray.empty)) := Lib.hid (fun W hW => by
    have h := blk_str (HLB.out.later hW) (k := ls.length) (by simp)
    rw [← HLEN.out, h]
    simp)
  generalize WA.heap.size = la at *
  go_wp2
  go_loopw [25] (fun i wr => ∃ k : Nat, k ≤ n ∧ i = .int .i64 k ∧ InPa WB ls s' d' k wr) (fun i _ => n - (intOf i).toNat)
  case atStart => exact ⟨0, by omega, rfl, Sc.zero, 0, HRD.out, by rw [List.drop_zero]; exact HRUN.out, ⟨by simp [Sc.zero], fun p hp => by simp [Sc.zero] at hp⟩⟩
  case round =>
    obtain ⟨k, hk, rfl, s1, d1, hRd, hRn, hfw⟩ := hrel
    by_cases hlt : k < n
    · have hkl : k < ls.length := by have := HLEN.out; omega
      have hbl := hRd.below
      have cl := HLC.out _ k hkl hbl
      rw [List.drop_eq_getElem_cons hkl] at hRn
      cases hRn with
      | line hst hrest =>
        rename_i s2 d2
        have HRA := Lib.hid (read_any WB _ WB.heap.size s1 s2 d1 d2 _ hst hRd (HRB.out.up hbl) ⟨by have := hfw.1; omega, fun p hp => by have := hfw.2 p hp; omega⟩ (HLZ.out _ (List.getElem_mem hkl)))
        have HST := Lib.hid (And.intro (hst.few hfw) hrest)
        clear hst hrest hRd hfw hbl
        generalize ls[k] = lk at *
        go_wp2_with fail
        refine HRA.out.mono ?_
        rintro e w3 ⟨rfl, h3⟩
        have H3 := Lib.hid h3
        clear h3 cl
        go_wp2
        go_roundw
        case rel => exact ⟨k + 1, by omega, by go_num, s2, d2, H3.out, HST.out.2, HST.out.1⟩
        case measure => simp [intOf]; omega
    · have hke : k = n := by omega
      subst hke
      have hz : ls.drop k = [] := by rw [← HLEN.out]; exact List.drop_length
      rw [hz] at hRn
      have hfin : s1 = s' ∧ d1 = d' := by cases hRn; exact ⟨rfl, rfl⟩
      obtain ⟨rfl, rfl⟩ := hfin
      clear hRn hz
      obtain ⟨v, v2, vs, hB, hV⟩ := hRd.ex
      obtain ⟨A, c, A2, c2, rfl, rfl, hAt⟩ := scAt_of hV (by have := hfw.1; omega) HPK.out
      have hbl := hRd.below
      have HV := Lib.hid hV
      have HPS : Hid (s1.ps.length ≤ 100000) := Lib.hid (by have := hfw.1; omega)
      have HBL := Lib.hid hbl
      have cl := HLE.out _ hbl
      unfold rdArr at hB
      have c0 := hB.cell 0
      have c1 := hB.cell 1
      have c2' := hB.cell 2
      have c3 := hB.cell 3
      have c4 := hB.cell 4
      have c5 := hB.cell 5
      have c6 := hB.cell 6
      have c7 := hB.cell 7
      simp only [List.getElem?_toArray, List.getElem?_cons_succ, List.getElem?_cons_zero] at c0 c1 c2' c3 c4 c5 c6 c7
      have HBK := Lib.hid hB
      have hd2 : ¬ (d1 : Int) < 2 := by have := HD.out; omega
      have HCK := Lib.hid (sccheck_any s1.st s1.sa s1.lo s1.hi s1.ps A A2 s1.ps.length c s1.pk.length c2 s1.wk _ hAt.ps hAt.nle HOK.out.wk (fun p hp x hx => (HOK.out.ps p hp x hx).1) (HRB.out.up hbl).tabs.pow)
      rw [HE.out] at HCK
      have HGF := Lib.hid (HGB.out.later hbl)
      have HBF := Lib.hid (sub_trans HBB.out hbl)
      clear hB hAt hbl hV hRd hfw
      go_wp2_with fail
      refine HCK.out.mono ?_
      rintro e w5 ⟨rfl, hb5⟩
      have HV5 := Lib.hid (HV.out.later hb5)
      have HB5 := Lib.hid (sub_trans HBF.out hb5)
      have HK5 := Lib.hid (HBK.out.later hb5)
      have HG5 := Lib.hid (HGF.out.later hb5)
      clear c0 c1 c2' c3 c4 c5 c6 c7 hb5 HCK HV HBF HBK HGF
      have c0 := HK5.out.cell 0
      have c1 := HK5.out.cell 1
      have c2' := HK5.out.cell 2
      have c3 := HK5.out.cell 3
      have c4 := HK5.out.cell 4
      have c5 := HK5.out.cell 5
      have c6 := HK5.out.cell 6
      simp only [List.getElem?_toArray, List.getElem?_cons_succ, List.getElem?_cons_zero] at c0 c1 c2' c3 c4 c5 c6
      have z0 := HG5.out.cell 0
      have z1 := HG5.out.cell 1
      have z2 := HG5.out.cell 2
      have z3 := HG5.out.cell 3
      have z4 := HG5.out.cell 4
      have z5 := HG5.out.cell 5
      have z6 := HG5.out.cell 6
      have zf := HG5.out.frozen
      simp only [List.getElem?_toArray, List.getElem?_cons_succ, List.getElem?_cons_zero] at z0 z1 z2 z3 z4 z5 z6
      have HF := Lib.hid (And.intro (set7_blk HG5.out (.int .i64 s1.st) (.int .i64 s1.sa) (.int .i64 s1.lo) (.int .i64 s1.hi) (.slice A s1.ps.length c) (.int .i64 s1.wk) (.slice A2 s1.pk.length c2)) (And.intro (set7_below HB5.out (Nat.le_refl _) (.int .i64 s1.st) (.int .i64 s1.sa) (.int .i64 s1.lo) (.int .i64 s1.hi) (.slice A s1.ps.length c) (.int .i64 s1.wk) (.slice A2 s1.pk.length c2)) (scAt_at (scset7 HV5.out HG5.out (.int .i64 s1.st) (.int .i64 s1.sa) (.int .i64 s1.lo) (.int .i64 s1.hi) (.slice A s1.ps.length c) (.int .i64 s1.wk) (.slice A2 s1.pk.length c2)) HPS.out HPK.out)))
      go_wp2
      refine st7_then (M := fun W => Blk W w.heap.size 33 #[.int .i64 s1.st, .int .i64 s1.sa, .int .i64 s1.lo, .int .i64 s1.hi, .slice A s1.ps.length c, .int .i64 s1.wk, .slice A2 s1.pk.length c2] ∧ Below w.heap.size w W ∧ ScAt W A A2 s1.ps.length c s1.pk.length c2 s1) HF.out fun W hM => ?_
      clear z0 z1 z2 z3 z4 z5 z6 zf
      have z0 := hM.1.cell 0
      have z1 := hM.1.cell 1
      have z2 := hM.1.cell 2
      have z3 := hM.1.cell 3
      have z4 := hM.1.cell 4
      have z5 := hM.1.cell 5
      have z6 := hM.1.cell 6
      simp only [List.getElem?_toArray, List.getElem?_cons_succ, List.getElem?_cons_zero] at z0 z1 z2 z3 z4 z5 z6
      exact bodyPost_ret (v := .tuple #[.agg #[.int .i64 s1.st, .int .i64 s1.sa, .int .i64 s1.lo, .int .i64 s1.hi, .slice A s1.ps.length c, .int .i64 s1.wk, .slice A2 s1.pk.length c2], .int .i64 0, .int .i64 0]) (by simp [results, Tryz.results11, go_sem, z0, z1, z2, z3, z4, z5, z6]; try rfl) rfl ⟨A, A2, c, c2, rfl, hM.2.2, hM.2.1⟩
end Go.Proofs.YteljecehppeamaaGreatDoor
/-
  The reference's Text, Same and Bare of scripts, walked (chapter 42). Condition: few bytes.
-/
namespace Go.Proofs.YteljecehppeamaaGreatDoor
open Go.RowKit Go.Fw Go.Shelf
set_option maxHeartbeats 2000000
set_option maxRecDepth 100000
set_option linter.unusedVariables false
set_option linter.unusedSimpArgs false
theorem rsctext_any (s : Sc) (A A2 : Option Addr) (n c n2 c2 : Nat) (w : World) (hA : ScAt w A A2 n c n2 c2 s) (hok : s.ok) (hT : Pow w)
    (hraw : scE s.st s.sa s.lo s.hi s.ps s.wk = 0 → (rawN s.lines).length ≤ 8000000 ∧ (∀ p ∈ s.ps, ∀ x ∈ p, (lineN x).length ≤ 1000000)) (htx : (textN s.pk).length ≤ 90000) :
    Calls Tryz.prog 8 #[.agg (scArr s A A2 n c n2 c2)] w (ScText s w) := by
  unfold ScText
  have HB := Lib.hid (sub_alloc (Below.refl _ w) (.cells (scArr s A A2 n c n2 c2) 27))
  have HG := Lib.hid (Blk.new_at w 27 (scArr s A A2 n c n2 c2) (g := w.heap.size) rfl)
  have HC := Lib.hid (fun W (hb : Below w.heap.size w W) => rsccheck_any s.st s.sa s.lo s.hi s.ps A A2 n c n2 c2 s.wk W ((hA.up hb).ps) hA.nle hok.wk (fun p hp x hx => (hok.ps p hp x hx).1) (pow_up hT hb))
  have HRW := Lib.hid (fun W (hb : Below w.heap.size w W) (he : scE s.st s.sa s.lo s.hi s.ps s.wk = 0) => rraw_any s A A2 n c n2 c2 W (hA.up hb) hok (hraw he).1 htx (hraw he).2)
  have HE : Hid (scText s = if scE s.st s.sa s.lo s.hi s.ps s.wk ≠ 0 then (ByteArray.empty, scE s.st s.sa s.lo s.hi s.ps s.wk) else if 16384 < (rawN s.lines).length then (ByteArray.empty, 12) else (s.raw, 0)) := Lib.hid rfl
  have HRZ : Hid (s.raw.size = (rawN s.lines).length) := Lib.hid (by have e : s.raw.data.toList = rawN s.lines := by simp [Sc.raw]
                                                                     rw [← e]; rfl)
  have HMX : Hid (scE s.st s.sa s.lo s.hi s.ps s.wk = 0 → (rawN s.lines).length ≤ 8000000) := Lib.hid (fun h => (hraw h).1)
  clear hA hok hT hraw htx
  unfold scArr at *
  generalize scE s.st s.sa s.lo s.hi s.ps s.wk = ce at *
  generalize s.raw = R at *
  have c0 := HG.out.cell 0
  have c1 := HG.out.cell 1
  have c2' := HG.out.cell 2
  have c3 := HG.out.cell 3
  have c4 := HG.out.cell 4
  have c5 := HG.out.cell 5
  have c6 := HG.out.cell 6
  simp only [List.getElem?_toArray, List.getElem?_cons_succ, List.getElem?_cons_zero] at c0 c1 c2' c3 c4 c5 c6
  go_enter Tryz.func8, Tryz.ntmps8
  go_wp2_with fail
  refine (HC.out _ HB.out).mono ?_
  rintro y w1 ⟨rfl, hb⟩
  have HB1 := Lib.hid (sub_trans HB.out hb)
  have HG1 := Lib.hid (HG.out.later hb)
  clear hb c0 c1 c2' c3 c4 c5 c6 HB HG HC
  have c0 := HG1.out.cell 0
  have c1 := HG1.out.cell 1
  have c2' := HG1.out.cell 2
  have c3 := HG1.out.cell 3
  have c4 := HG1.out.cell 4
  have c5 := HG1.out.cell 5
  have c6 := HG1.out.cell 6
  simp only [List.getElem?_toArray, List.getElem?_cons_succ, List.getElem?_cons_zero] at c0 c1 c2' c3 c4 c5 c6
  by_cases he : ce = 0
  case neg =>
    have e1 : (ce == 0) = false := by simpa using he
    have e2 : (ce != 0) = true := by simpa using he
    have HF : Hid (scText s = (ByteArray.empty, ce)) := Lib.hid (by rw [HE.out, if_pos he])
    clear he
    go_wp2
    exact bodyPost_ret (v := .tuple #[.string ByteArray.empty, .int .i64 ce]) (by simp [results, Tryz.results8, go_sem]; try rfl) rfl ⟨by rw [HF.out], HB1.out⟩
  subst he
  have HR2 := Lib.hid (HRW.out _ HB1.out rfl)
  clear HRW
  go_wp2_with fail
  refine HR2.out.mono ?_
  rintro y w2 ⟨rfl, hb2⟩
  have hb3 := sub_trans HB1.out hb2
  have hrz := HRZ.out
  have hmx := HMX.out trivial
  clear c0 c1 c2' c3 c4 c5 c6 HR2
  by_cases hl : 16384 < R.size
  · have HF : Hid (scText s = (ByteArray.empty, 12)) := Lib.hid (by rw [HE.out, if_neg (by simp), if_pos (by omega)])
    have hI : (16384 : Int) < (R.size : Int) := by omega
    clear hrz hl
    go_wp2
    exact bodyPost_ret (v := .tuple #[.string ByteArray.empty, .int .i64 12]) (by simp [results, Tryz.results8, go_sem]; try rfl) rfl ⟨by rw [HF.out], hb3⟩
  · have HF : Hid (scText s = (R, 0)) := Lib.hid (by rw [HE.out, if_neg (by simp), if_neg (by omega)])
    have hI : ¬ (16384 : Int) < (R.size : Int) := by omega
    clear hrz hl
    go_wp2
    exact bodyPost_ret (v := .tuple #[.string R, .int .i64 0]) (by simp [results, Tryz.results8, go_sem]; try rfl) rfl ⟨by rw [HF.out], hb3⟩
theorem rscsame_any (s : Sc) (A A2 B B2 : Option Addr) (n c n2 c2 d d2 : Nat) (w : World) (hA : ScAt w A A2 n c n2 c2 s) (hB : ScAt w B B2 n d n2 d2 s) (hok : s.ok) :
    Calls Tryz.prog 12 #[.agg (scArr s A A2 n c n2 c2), .agg (scArr s B B2 n d n2 d2)] w fun x w' => x = .returned (.bool true) ∧ Below w.heap.size w w' := by
  have hb1 := sub_alloc (Below.refl _ w) (.cells (scArr s A A2 n c n2 c2) 27)
  have hb2 := sub_alloc hb1 (.cells (scArr s B B2 n d n2 d2) 27)
  have g1 := (Blk.new_at w 27 (scArr s A A2 n c n2 c2) (g := w.heap.size) rfl).alloc (.cells (scArr s B B2 n d n2 d2) 27)
  have g2 := Blk.new_at (w.alloc (.cells (scArr s A A2 n c n2 c2) 27)) 27 (scArr s B B2 n d n2 d2) (g := w.heap.size + 1) (by simp)
  have HB2 := Lib.hid hb2
  have HG1 := Lib.hid g1
  have HG2 := Lib.hid g2
  have HA := Lib.hid (hA.up hb2)
  have HBB := Lib.hid (hB.up hb2)
  have HOK := Lib.hid hok
  have HPL := Lib.hid hA.ps.len
  have HPL2 := Lib.hid hA.len2
  have hn := hA.nle
  have hn2 := hA.pkle
  have hcq := fun W => cfg_neq s.st s.sa s.lo s.hi W
  clear hA hB hok hb1 hb2 g1 g2
  unfold scArr at *
  have c0 := HG1.out.cell 0
  have c1 := HG1.out.cell 1
  have c2' := HG1.out.cell 2
  have c3 := HG1.out.cell 3
  have c4 := HG1.out.cell 4
  have c5 := HG1.out.cell 5
  have c6 := HG1.out.cell 6
  have d0 := HG2.out.cell 0
  have d1 := HG2.out.cell 1
  have d2' := HG2.out.cell 2
  have d3 := HG2.out.cell 3
  have d4 := HG2.out.cell 4
  have d5 := HG2.out.cell 5
  have d6 := HG2.out.cell 6
  simp only [List.getElem?_toArray, List.getElem?_cons_succ, List.getElem?_cons_zero] at c0 c1 c2' c3 c4 c5 c6 d0 d1 d2' d3 d4 d5 d6
  go_enter Tryz.func12, Tryz.ntmps12
  go_wp2
  obtain ⟨WX, hWX⟩ : ∃ WX, (w.alloc (.cells #[.int .i64 s.st, .int .i64 s.sa, .int .i64 s.lo, .int .i64 s.hi, .slice A n c, .int .i64 s.wk, .slice A2 n2 c2] 27)).alloc (.cells #[.int .i64 s.st, .int .i64 s.sa, .int .i64 s.lo, .int .i64 s.hi, .slice B n d, .int .i64 s.wk, .slice B2 n2 d2] 27) = WX := ⟨_, rfl⟩
  rw [hWX] at HB2 HG1 HG2 HA HBB ⊢
  have hk : ∀ W, Below WX.heap.size WX W → W.cell? ⟨w.heap.size, 4, none⟩ = some (.slice A n c) ∧ W.cell? ⟨w.heap.size, 6, none⟩ = some (.slice A2 n2 c2) ∧ W.cell? ⟨w.heap.size + 1, 4, none⟩ = some (.slice B n d) ∧ W.cell? ⟨w.heap.size + 1, 6, none⟩ = some (.slice B2 n2 d2) := fun W hW => by
    have g1 := HG1.out.later hW
    have g2 := HG2.out.later hW
    exact ⟨g1.cell 4, g1.cell 6, g2.cell 4, g2.cell 6⟩
  have HK := Lib.hid hk
  clear hk hWX c0 c1 c2' c3 c4 c5 c6 d0 d1 d2' d3 d4 d5 d6 HG1 HG2 hcq
  go_loopw [5] (fun i wr => ∃ (k : Nat), k ≤ n2 ∧ i = .int .i64 k ∧ Below WX.heap.size WX wr) (fun i _ => n2 - (intOf i).toNat)
  case atStart => exact ⟨0, by omega, rfl, Below.refl _ _⟩
  case round =>
    obtain ⟨k, hk, rfl, hbr⟩ := hrel
    obtain ⟨c4, c6, d4, d6⟩ := HK.out _ hbr
    by_cases hlt : k < n2
    · have hkl : k < s.pk.length := by have := HPL2.out; omega
      obtain ⟨ad, u, rfl, _, hu, q1⟩ := (HA.out.pk.up hbr).at_ hlt
      obtain rfl := i64s_get hu hkl
      obtain ⟨ad2, u2, rfl, _, hu2, q2⟩ := (HBB.out.pk.up hbr).at_ hlt
      obtain rfl := i64s_get hu2 hkl
      clear hu hu2
      generalize s.pk[k] = x at *
      go_wp2
      refine still_all (by kernel_rfl) (by kernel_rfl) ?_
      repeat still_step
      refine wpStill_nil ?_
      go_wp2
      go_roundw
      case rel => exact ⟨k + 1, by omega, by go_num, hbr.drew⟩
      case measure => simp [intOf]; omega
    · go_wp2
      clear c4 c6 d4 d6
      go_loopw [6] (fun i wr => ∃ (k : Nat), k ≤ n ∧ i = .int .i64 k ∧ Below WX.heap.size WX wr) (fun i _ => n - (intOf i).toNat)
      case atStart => exact ⟨0, by omega, rfl, hbr⟩
      case round =>
        obtain ⟨k2, hk2, rfl, hbr2⟩ := hrel
        obtain ⟨c4, c6, d4, d6⟩ := HK.out _ hbr2
        by_cases hlt2 : k2 < n
        · have hkl : k2 < s.ps.length := by have := HPL.out; omega
          obtain ⟨ad, A', c', rfl, hadl, hc1, hpc, hcm, hrd⟩ := HA.out.ps.at_ hkl
          obtain ⟨ad2, B', d', rfl, hadl2, hc2, hpc2, hcm2, hrd2⟩ := HBB.out.ps.at_ hkl
          have HAC : Hid (∀ W, Below WX.heap.size WX W → W.cell? (ad.add k2) = some (.slice A' s.ps[k2].length c') ∧ W.cell? (ad2.add k2) = some (.slice B' s.ps[k2].length d')) := Lib.hid (fun W hW => ⟨(hW.cell (p := ad.add k2) (by rw [block_of_add]; exact hadl)).trans hc1, (hW.cell (p := ad2.add k2) (by rw [block_of_add]; exact hadl2)).trans hc2⟩)
          obtain ⟨q1, q2⟩ := HAC.out _ hbr2
          have HOP : Hid (∀ x ∈ s.ps[k2], x.ok) := Lib.hid (fun x hx => (HOK.out.ps _ (List.getElem_mem hkl) x hx).1)
          have HRD := Lib.hid hrd
          have HRD2 := Lib.hid hrd2
          unfold maxLen at hcm hcm2
          clear hrd hrd2 hc1 hc2
          generalize s.ps[k2] = p at *
          go_wp2
          refine still_all (by kernel_rfl) (by kernel_rfl) ?_
          repeat still_step
          refine wpStill_nil ?_
          go_wp2
          clear c4 c6 d4 d6 q1 q2
          go_loopw [7] (fun i wq => ∃ (j : Nat), j ≤ p.length ∧ i = .int .i64 j ∧ Below WX.heap.size WX wq) (fun i _ => p.length - (intOf i).toNat)
          case atStart => exact ⟨0, by omega, rfl, hbr2.drew⟩
          case round =>
            obtain ⟨j, hj, rfl, hbq⟩ := hrel
            obtain ⟨c4, c6, d4, d6⟩ := HK.out _ hbq
            obtain ⟨q1, q2⟩ := HAC.out _ hbq
            by_cases hjt : j < p.length
            · obtain ⟨bl, off, rfl, _, a0, a1, a2, a3, a4, a5, a6, a7, a8, a9, a10⟩ := cl_at (HRD.out.up hbq) hjt
              obtain ⟨bl2, off2, rfl, _, b0, b1, b2, b3, b4, b5, b6, b7, b8, b9, b10⟩ := cl_at (HRD2.out.up hbq) hjt
              have hq := fun W => cl_neq p[j] (HOP.out _ (List.getElem_mem hjt)) W
              generalize p[j] = x at *
              go_wp2
              refine still_all (by kernel_rfl) (by kernel_rfl) ?_
              repeat still_step
              refine wpStill_nil ?_
              go_wp2
              go_roundw
              case rel => exact ⟨j + 1, by omega, by go_num, hbq.drew⟩
              case measure => simp [intOf]; omega
            · go_wp2
              go_roundw
              case rel => exact ⟨k2 + 1, by omega, by go_num, hbq⟩
              case measure => simp [intOf]; omega
        · go_wp2
          go_ret
          exact ⟨rfl, sub_trans HB2.out hbr2⟩
end Go.Proofs.YteljecehppeamaaGreatDoor
