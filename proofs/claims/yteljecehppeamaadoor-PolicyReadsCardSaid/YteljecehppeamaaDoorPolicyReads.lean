/-
  PolicyReads walked (chapter 12). Conditions: strconv's table and errors lie in memory, and a number in internal/bytealg.MaxLen.
-/
import Derived.Test.YteljecehppeamaaDoorPolicyParses
namespace Go.Fw
open Go.RowKit
theorem polB_inj {a b c d e f a' b' c' d' e' f' : Int} (h : In6 a b c d e f) (h' : In6 a' b' c' d' e' f') (he : polB a b c d e f = polB a' b' c' d' e' f') :
    a = a' ∧ b = b' ∧ c = c' ∧ d = d' ∧ e = e' ∧ f = f' := polT_inj h h' (by rw [← polB_list, ← polB_list, he])
end Go.Fw
namespace Go.Proofs.YteljecehppeamaaDoor
open Go.RowKit Go.Fw Go.Shelf
set_option maxHeartbeats 2000000
set_option maxRecDepth 100000
set_option linter.unusedVariables false
set_option linter.unusedSimpArgs false
theorem polParse_text (a b c d e f : Int) (h6 : In6 a b c d e f) (w : World) (hR : Ready w) :
    Calls Tryd.prog 14 #[.string (polB a b c d e f)] w fun x w' => Below w.heap.size w w' ∧
      ((RightP a b c d e f ∧ x = .returned (.tuple #[.agg #[.int .i64 a, .int .i64 b, .int .i64 c, .int .i64 d, .int .i64 e, .int .i64 f], .int .i64 0])) ∨ (¬ RightP a b c d e f ∧ x = .returned (.tuple #[.agg #[.int .i64 0, .int .i64 0, .int .i64 0, .int .i64 0, .int .i64 0, .int .i64 0], .int .i64 7]))) := by
  refine (polParse_any (polB a b c d e f) (by have := polB_size h6; omega) w hR).mono fun x w' ⟨hb, h⟩ => ⟨hb, ?_⟩
  rcases h with ⟨a', b', c', d', e', f', h6', ht, h⟩ | ⟨hno, _⟩
  · obtain ⟨rfl, rfl, rfl, rfl, rfl, rfl⟩ := polB_inj h6' h6 ht
    exact h
  · exact absurd rfl (hno a b c d e f h6)
theorem preads_no (a b c d e f a' b' c' d' e' f' : Int) (h6 : In6 a b c d e f) (w : World) (hR : Ready w) (hP : ¬ RightP a b c d e f) :
    Calls Tryd.prog 4 #[.agg #[.int .i64 a, .int .i64 b, .int .i64 c, .int .i64 d, .int .i64 e, .int .i64 f], .agg #[.int .i64 a', .int .i64 b', .int .i64 c', .int .i64 d', .int .i64 e', .int .i64 f']] w fun x w' => x = .returned (.bool true) ∧ Below w.heap.size w w' := by
  have HH := Lib.hid (And.intro h6 (And.intro hR hP))
  have hz0 : ∀ W, (binOp .eql 23 (.agg #[.int .i64 0, .int .i64 0, .int .i64 0, .int .i64 0, .int .i64 0, .int .i64 0]) (.agg #[.int .i64 0, .int .i64 0, .int .i64 0, .int .i64 0, .int .i64 0, .int .i64 0])).run Tryd.prog W = .ok (.bool true) W := fun W => pol_eql 0 0 0 0 0 0 0 0 0 0 0 0 W
  have HZ0 := Lib.hid hz0
  have HC := Lib.hid (fun W => pol_cells (w := w) (W := W) (a := a) (b := b) (c := c) (d := d) (e := e) (f := f) (t := 23))
  clear h6 hR hP hz0
  go_enter Tryd.func4, Tryd.ntmps4
  have hs0 : Below (w.heap.size + 1) (w.alloc (.cells #[.int .i64 a, .int .i64 b, .int .i64 c, .int .i64 d, .int .i64 e, .int .i64 f] 23)) ((w.alloc (.cells #[.int .i64 a, .int .i64 b, .int .i64 c, .int .i64 d, .int .i64 e, .int .i64 f] 23)).alloc (.cells #[.int .i64 a', .int .i64 b', .int .i64 c', .int .i64 d', .int .i64 e', .int .i64 f'] 23)) := (Below.refl _ _).alloc (by simp) _
  have ha0 : Below w.heap.size w ((w.alloc (.cells #[.int .i64 a, .int .i64 b, .int .i64 c, .int .i64 d, .int .i64 e, .int .i64 f] 23)).alloc (.cells #[.int .i64 a', .int .i64 b', .int .i64 c', .int .i64 d', .int .i64 e', .int .i64 f'] 23)) := sub_alloc (sub_alloc (Below.refl _ w) _) _
  have hn0 : w.heap.size + 1 ≤ ((w.alloc (.cells #[.int .i64 a, .int .i64 b, .int .i64 c, .int .i64 d, .int .i64 e, .int .i64 f] 23)).alloc (.cells #[.int .i64 a', .int .i64 b', .int .i64 c', .int .i64 d', .int .i64 e', .int .i64 f'] 23)).heap.size := by simp
  have HA := Lib.hid (And.intro ha0 (And.intro hs0 hn0))
  clear ha0 hs0 hn0
  go_wp2_with fail
  refine (pol_awake _ (HH.out.2.1.up HA.out.1).tabs.pow).mono ?_
  rintro x w1 ⟨rfl, hb⟩
  have s1 := HA.out.2.1.trans (hb.mono HA.out.2.2)
  have h1 := sub_trans HA.out.1 hb
  have n1 := Nat.le_trans HA.out.2.2 hb.size
  obtain ⟨c0, c1, c2, c3, c4, c5⟩ := HC.out w1 s1
  clear hb
  go_wp2_with fail
  refine (poltext_any a b c d e f HH.out.1 _ (HH.out.2.1.up h1).tabs.pow).mono ?_
  rintro x w2 ⟨rfl, hb⟩
  have s2 := s1.trans (hb.mono n1)
  have h2 := sub_trans h1 hb
  have n2 := Nat.le_trans n1 hb.size
  clear hb s1 h1 n1 c0 c1 c2 c3 c4 c5
  have HPA := Lib.hid (polParse_text a b c d e f HH.out.1 w2 (HH.out.2.1.up h2))
  generalize polB a b c d e f = s at *
  go_wp2_with fail
  refine HPA.out.mono ?_
  rintro x w3 ⟨hb, hor⟩
  have s3 := s2.trans (hb.mono n2)
  have h3 := sub_trans h2 hb
  have n3 := Nat.le_trans n2 hb.size
  clear hb s2 h2 n2 HPA
  rcases hor with ⟨hP, _⟩ | ⟨_, rfl⟩
  · exact absurd hP HH.out.2.2
  · have s4 : Below (w.heap.size + 1) (w.alloc (.cells #[.int .i64 a, .int .i64 b, .int .i64 c, .int .i64 d, .int .i64 e, .int .i64 f] 23)) (w3.alloc (.cells #[.int .i64 0, .int .i64 0, .int .i64 0, .int .i64 0, .int .i64 0, .int .i64 0] 23)) := s3.alloc n3 _
    have h4 := sub_alloc h3 (.cells #[.int .i64 0, .int .i64 0, .int .i64 0, .int .i64 0, .int .i64 0, .int .i64 0] 23)
    obtain ⟨c0, c1, c2, c3, c4, c5⟩ := HC.out w3 s3
    obtain ⟨d0, d1, d2, d3, d4, d5⟩ := HC.out _ s4
    have hb9 : Blk (w3.alloc (.cells #[.int .i64 0, .int .i64 0, .int .i64 0, .int .i64 0, .int .i64 0, .int .i64 0] 23)) w3.heap.size 23 #[.int .i64 0, .int .i64 0, .int .i64 0, .int .i64 0, .int .i64 0, .int .i64 0] := Blk.new_at _ _ _ rfl
    have H4 := Lib.hid (And.intro h4 hb9)
    clear s3 s4 h3 h4 hb9
    go_wp2_with fail
    refine (right_bad a b c d e f _ HH.out.2.2).mono ?_
    rintro x w5 ⟨rfl, hb⟩
    have h5 := sub_trans H4.out.1 hb
    have g := H4.out.2.later hb
    clear c0 c1 c2 c3 c4 c5 d0 d1 d2 d3 d4 d5 hb
    have c0 := g.cell 0
    have c1 := g.cell 1
    have c2 := g.cell 2
    have c3 := g.cell 3
    have c4 := g.cell 4
    have c5 := g.cell 5
    simp at c0 c1 c2 c3 c4 c5
    have hz0 := HZ0.out
    go_wp2
    go_ret
    exact ⟨by first | rfl | simp, h5⟩
theorem preads_yes (a b c d e f a' b' c' d' e' f' : Int) (h6 : In6 a b c d e f) (h6' : In6 a' b' c' d' e' f') (w : World) (hR : Ready w) (hP : RightP a b c d e f) (same : Bool)
    (heq : ∀ W, (binOp .eql 23 (.agg #[.int .i64 a, .int .i64 b, .int .i64 c, .int .i64 d, .int .i64 e, .int .i64 f]) (.agg #[.int .i64 a', .int .i64 b', .int .i64 c', .int .i64 d', .int .i64 e', .int .i64 f'])).run Tryd.prog W = .ok (.bool same) W) (htx : ((polB a b c d e f).toList == (polB a' b' c' d' e' f').toList) = same) :
    Calls Tryd.prog 4 #[.agg #[.int .i64 a, .int .i64 b, .int .i64 c, .int .i64 d, .int .i64 e, .int .i64 f], .agg #[.int .i64 a', .int .i64 b', .int .i64 c', .int .i64 d', .int .i64 e', .int .i64 f']] w fun x w' => x = .returned (.bool true) ∧ Below w.heap.size w w' := by
  have HH := Lib.hid (And.intro h6 (And.intro hR (And.intro hP h6')))
  have HEQ := Lib.hid heq
  have HTX := Lib.hid htx
  have hse : ∀ W, (binOp .eql 23 (.agg #[.int .i64 a, .int .i64 b, .int .i64 c, .int .i64 d, .int .i64 e, .int .i64 f]) (.agg #[.int .i64 a, .int .i64 b, .int .i64 c, .int .i64 d, .int .i64 e, .int .i64 f])).run Tryd.prog W = .ok (.bool true) W := fun W => by rw [pol_eql]; simp
  have HSE := Lib.hid hse
  have HC := Lib.hid (fun W => pol_cells (w := w) (W := W) (a := a) (b := b) (c := c) (d := d) (e := e) (f := f) (t := 23))
  have HC2 := Lib.hid (fun W => pol_cells (w := w.alloc (.cells #[.int .i64 a, .int .i64 b, .int .i64 c, .int .i64 d, .int .i64 e, .int .i64 f] 23)) (W := W) (a := a') (b := b') (c := c') (d := d') (e := e') (f := f') (t := 23))
  clear h6 hR hP h6' heq hse htx
  go_enter Tryd.func4, Tryd.ntmps4
  have hs0 : Below (w.heap.size + 1) (w.alloc (.cells #[.int .i64 a, .int .i64 b, .int .i64 c, .int .i64 d, .int .i64 e, .int .i64 f] 23)) ((w.alloc (.cells #[.int .i64 a, .int .i64 b, .int .i64 c, .int .i64 d, .int .i64 e, .int .i64 f] 23)).alloc (.cells #[.int .i64 a', .int .i64 b', .int .i64 c', .int .i64 d', .int .i64 e', .int .i64 f'] 23)) := (Below.refl _ _).alloc (by simp) _
  have ha0 : Below w.heap.size w ((w.alloc (.cells #[.int .i64 a, .int .i64 b, .int .i64 c, .int .i64 d, .int .i64 e, .int .i64 f] 23)).alloc (.cells #[.int .i64 a', .int .i64 b', .int .i64 c', .int .i64 d', .int .i64 e', .int .i64 f'] 23)) := sub_alloc (sub_alloc (Below.refl _ w) _) _
  have hn0 : w.heap.size + 2 = ((w.alloc (.cells #[.int .i64 a, .int .i64 b, .int .i64 c, .int .i64 d, .int .i64 e, .int .i64 f] 23)).alloc (.cells #[.int .i64 a', .int .i64 b', .int .i64 c', .int .i64 d', .int .i64 e', .int .i64 f'] 23)).heap.size := by simp
  have hq0 : (w.alloc (.cells #[.int .i64 a, .int .i64 b, .int .i64 c, .int .i64 d, .int .i64 e, .int .i64 f] 23)).heap.size = w.heap.size + 1 := by simp
  have HA := Lib.hid (And.intro ha0 (And.intro hs0 (And.intro hn0 hq0)))
  have HCC : Hid (∀ W, Below (w.heap.size + 2) ((w.alloc (.cells #[.int .i64 a, .int .i64 b, .int .i64 c, .int .i64 d, .int .i64 e, .int .i64 f] 23)).alloc (.cells #[.int .i64 a', .int .i64 b', .int .i64 c', .int .i64 d', .int .i64 e', .int .i64 f'] 23)) W → _ ∧ _) := Lib.hid (fun W hW => And.intro (HC.out W (HA.out.2.1.trans (hW.mono (by omega)))) (HC2.out W (by rw [HA.out.2.2.2]; exact hW)))
  clear ha0 hs0 hn0 hq0 HC HC2
  go_wp2_with fail
  refine (pol_awake _ (HH.out.2.1.up HA.out.1).tabs.pow).mono ?_
  rintro x w1 ⟨rfl, hb⟩
  have s1 : Below (w.heap.size + 2) ((w.alloc (.cells #[.int .i64 a, .int .i64 b, .int .i64 c, .int .i64 d, .int .i64 e, .int .i64 f] 23)).alloc (.cells #[.int .i64 a', .int .i64 b', .int .i64 c', .int .i64 d', .int .i64 e', .int .i64 f'] 23)) w1 := by rw [HA.out.2.2.1]; exact hb
  have h1 := sub_trans HA.out.1 hb
  have n1 : w.heap.size + 2 ≤ w1.heap.size := by have := hb.size; have := HA.out.2.2.1; omega
  obtain ⟨⟨c0, c1, c2, c3, c4, c5⟩, _⟩ := HCC.out w1 s1
  clear hb
  go_wp2_with fail
  refine (poltext_any a b c d e f HH.out.1 _ (HH.out.2.1.up h1).tabs.pow).mono ?_
  rintro x w2 ⟨rfl, hb⟩
  have s2 := s1.trans (hb.mono n1)
  have h2 := sub_trans h1 hb
  have n2 := Nat.le_trans n1 hb.size
  clear hb s1 h1 n1 c0 c1 c2 c3 c4 c5
  have HPA := Lib.hid (polParse_text a b c d e f HH.out.1 w2 (HH.out.2.1.up h2))
  have HT1 := Lib.hid (fun W h => poltext_any a b c d e f HH.out.1 W h)
  have HT2 := Lib.hid (fun W h => poltext_any a' b' c' d' e' f' HH.out.2.2.2 W h)
  generalize polB a b c d e f = s at *
  generalize polB a' b' c' d' e' f' = s' at *
  go_wp2_with fail
  refine HPA.out.mono ?_
  rintro x w3 ⟨hb, hor⟩
  have s3 := s2.trans (hb.mono n2)
  have h3 := sub_trans h2 hb
  have n3 := Nat.le_trans n2 hb.size
  clear hb s2 h2 n2 HPA
  rcases hor with ⟨_, rfl⟩ | ⟨hP, _⟩
  · have s4 := s3.alloc n3 (.cells #[.int .i64 a, .int .i64 b, .int .i64 c, .int .i64 d, .int .i64 e, .int .i64 f] 23)
    have h4 := sub_alloc h3 (.cells #[.int .i64 a, .int .i64 b, .int .i64 c, .int .i64 d, .int .i64 e, .int .i64 f] 23)
    have n4 : w.heap.size + 2 ≤ (w3.alloc (.cells #[.int .i64 a, .int .i64 b, .int .i64 c, .int .i64 d, .int .i64 e, .int .i64 f] 23)).heap.size := by simp; omega
    obtain ⟨⟨c0, c1, c2, c3, c4, c5⟩, _⟩ := HCC.out w3 s3
    obtain ⟨⟨d0, d1, d2, d3, d4, d5⟩, _⟩ := HCC.out _ s4
    have hb9 : Blk (w3.alloc (.cells #[.int .i64 a, .int .i64 b, .int .i64 c, .int .i64 d, .int .i64 e, .int .i64 f] 23)) w3.heap.size 23 #[.int .i64 a, .int .i64 b, .int .i64 c, .int .i64 d, .int .i64 e, .int .i64 f] := Blk.new_at _ _ _ rfl
    have H4 := Lib.hid (And.intro h4 (And.intro hb9 (And.intro s4 n4)))
    clear s3 s4 h3 h4 hb9 n4
    go_wp2_with fail
    refine (right_ok a b c d e f _ HH.out.2.2.1).mono ?_
    rintro x w5 ⟨rfl, hb⟩
    have h5 := sub_trans H4.out.1 hb
    have g := H4.out.2.1.later hb
    have s5 := H4.out.2.2.1.trans (hb.mono H4.out.2.2.2)
    have n5 := Nat.le_trans H4.out.2.2.2 hb.size
    clear c0 c1 c2 c3 c4 c5 d0 d1 d2 d3 d4 d5 hb
    have HCP : Hid (∀ W, Below w5.heap.size w5 W → (W.cell? ⟨w3.heap.size, 0, none⟩ = some (.int .i64 a) ∧ W.cell? ⟨w3.heap.size, 1, none⟩ = some (.int .i64 b) ∧ W.cell? ⟨w3.heap.size, 2, none⟩ = some (.int .i64 c) ∧ W.cell? ⟨w3.heap.size, 3, none⟩ = some (.int .i64 d) ∧ W.cell? ⟨w3.heap.size, 4, none⟩ = some (.int .i64 e) ∧ W.cell? ⟨w3.heap.size, 5, none⟩ = some (.int .i64 f))) := Lib.hid fun W h => by
      have g2 := g.later h
      exact ⟨g2.cell 0, g2.cell 1, g2.cell 2, g2.cell 3, g2.cell 4, g2.cell 5⟩
    have HCW : Hid (∀ W, Below w5.heap.size w5 W → _ ∧ _) := Lib.hid fun W h => HCC.out W (s5.trans (h.mono n5))
    have HR5 := Lib.hid (And.intro (HH.out.2.1.up h5) h5)
    clear g s5 n5 h5
    go_wp2
    have hS0 : Below w5.heap.size w5 w5.drew := (Below.refl _ _).drew
    refine any_start (S := fun W => Below w5.heap.size w5 W) (by kernel_rfl) hS0 ?_
    simp only [List.length_cons, List.length_nil, Nat.reduceAdd, List.size_toArray]
    refine any_pure 0 (v := ?_) rfl (by kernel_rfl) (by intro _ _ _ h; exact h) (by assumption) (by rfl) (fun W hW => ?_) ?_
    rotate_left
    · obtain ⟨c0, c1, c2, c3, c4, c5⟩ := HCP.out _ hW; first | (go_simp; done) | (go_simp; with_reducible rfl)
    try simp only [Act.put, List.setIfInBounds_toArray, List.set_cons_zero, List.set_cons_succ]
    refine any_pure 1 (v := ?_) rfl (by kernel_rfl) (by intro _ _ _ h; exact h) (by assumption) (by rfl) (fun W hW => ?_) ?_
    rotate_left
    · obtain ⟨⟨c0, c1, c2, c3, c4, c5⟩, _⟩ := HCW.out _ hW; first | (go_simp; done) | (go_simp; with_reducible rfl)
    try simp only [Act.put, List.setIfInBounds_toArray, List.set_cons_zero, List.set_cons_succ]
    refine any_pure 2 (v := ?_) rfl (by kernel_rfl) (by intro _ _ _ h; exact h) (by assumption) (by rfl) (fun W hW => ?_) ?_
    rotate_left
    · have hse := HSE.out; first | (go_simp; done) | (go_simp; with_reducible rfl)
    try simp only [Act.put, List.setIfInBounds_toArray, List.set_cons_zero, List.set_cons_succ]
    refine any_pure 3 (v := ?_) rfl (by kernel_rfl) (by intro _ _ _ h; exact h) (by assumption) (by rfl) (fun W hW => ?_) ?_
    rotate_left
    · first | (go_simp; done) | (go_simp; with_reducible rfl)
    try simp only [Act.put, List.setIfInBounds_toArray, List.set_cons_zero, List.set_cons_succ]
    refine any_pure 4 (v := ?_) rfl (by kernel_rfl) (by intro _ _ _ h; exact h) (by assumption) (by rfl) (fun W hW => ?_) ?_
    rotate_left
    · first | (go_simp; done) | (go_simp; with_reducible rfl)
    try simp only [Act.put, List.setIfInBounds_toArray, List.set_cons_zero, List.set_cons_succ]
    refine any_pure 5 (v := ?_) rfl (by kernel_rfl) (by intro _ _ _ h; exact h) (by assumption) (by rfl) (fun W hW => ?_) ?_
    rotate_left
    · first | (go_simp; done) | (go_simp; with_reducible rfl)
    try simp only [Act.put, List.setIfInBounds_toArray, List.set_cons_zero, List.set_cons_succ]
    refine any_pure 6 (v := ?_) rfl (by kernel_rfl) (by intro _ _ _ h; exact h) (by assumption) (by rfl) (fun W hW => ?_) ?_
    rotate_left
    · first | (go_simp; done) | (go_simp; with_reducible rfl)
    try simp only [Act.put, List.setIfInBounds_toArray, List.set_cons_zero, List.set_cons_succ]
    refine any_pure 7 (v := ?_) rfl (by kernel_rfl) (by intro _ _ _ h; exact h) (by assumption) (by rfl) (fun W hW => ?_) ?_
    rotate_left
    · first | (go_simp; done) | (go_simp; with_reducible rfl)
    try simp only [Act.put, List.setIfInBounds_toArray, List.set_cons_zero, List.set_cons_succ]
    refine any_pure 8 (v := ?_) rfl (by kernel_rfl) (by intro _ _ _ h; exact h) (by assumption) (by rfl) (fun W hW => ?_) ?_
    rotate_left
    · obtain ⟨⟨c0, c1, c2, c3, c4, c5⟩, _⟩ := HCW.out _ hW; first | (go_simp; done) | (go_simp; with_reducible rfl)
    try simp only [Act.put, List.setIfInBounds_toArray, List.set_cons_zero, List.set_cons_succ]
    refine any_pure 10 (v := ?_) rfl (by kernel_rfl) (by intro _ _ _ h; exact h) (by assumption) (by rfl) (fun W hW => ?_) ?_
    rotate_left
    · obtain ⟨_, ⟨c0, c1, c2, c3, c4, c5⟩⟩ := HCW.out _ hW; rw [HA.out.2.2.2] at c0 c1 c2 c3 c4 c5; first | (go_simp; done) | (go_simp; with_reducible rfl)
    try simp only [Act.put, List.setIfInBounds_toArray, List.set_cons_zero, List.set_cons_succ]
    refine any_pure 13 (v := ?_) rfl (by kernel_rfl) (by intro _ _ _ h; exact h) (by assumption) (by rfl) (fun W hW => ?_) ?_
    rotate_left
    · obtain ⟨⟨c0, c1, c2, c3, c4, c5⟩, _⟩ := HCW.out _ hW; first | (go_simp; done) | (go_simp; with_reducible rfl)
    try simp only [Act.put, List.setIfInBounds_toArray, List.set_cons_zero, List.set_cons_succ]
    refine any_pure 14 (v := ?_) rfl (by kernel_rfl) (by intro _ _ _ h; exact h) (by assumption) (by rfl) (fun W hW => ?_) ?_
    rotate_left
    · obtain ⟨_, ⟨c0, c1, c2, c3, c4, c5⟩⟩ := HCW.out _ hW; rw [HA.out.2.2.2] at c0 c1 c2 c3 c4 c5; first | (go_simp; done) | (go_simp; with_reducible rfl)
    try simp only [Act.put, List.setIfInBounds_toArray, List.set_cons_zero, List.set_cons_succ]
    refine any_pure 15 (v := ?_) rfl (by kernel_rfl) (by intro _ _ _ h; exact h) (by assumption) (by rfl) (fun W hW => ?_) ?_
    rotate_left
    · have heq := HEQ.out; first | (go_simp; done) | (go_simp; with_reducible rfl)
    try simp only [Act.put, List.setIfInBounds_toArray, List.set_cons_zero, List.set_cons_succ]
    refine any_one 9 (by kernel_rfl) rfl (by rfl) (fun K hK => ?_)
    go_simp
    refine (HT1.out _ (HR5.out.1.up hS0).tabs.pow).mono ?_
    rintro x w6 ⟨rfl, hb⟩
    have hS6 := sub_trans hS0 hb
    refine hK _ _ hS6 ?_
    clear hK hb
    try simp only [Act.put, List.setIfInBounds_toArray, List.set_cons_zero, List.set_cons_succ]
    refine any_one 11 (by kernel_rfl) rfl (by rfl) (fun K hK => ?_)
    go_simp
    refine (HT2.out _ (HR5.out.1.up hS6).tabs.pow).mono ?_
    rintro x w7 ⟨rfl, hb⟩
    have hS7 := sub_trans hS6 hb
    refine hK _ _ hS7 ?_
    clear hK hb
    try simp only [Act.put, List.setIfInBounds_toArray, List.set_cons_zero, List.set_cons_succ]
    refine any_pure 12 (v := ?_) rfl (by kernel_rfl) (by intro _ _ _ h; exact h) (by assumption) (by rfl) (fun W hW => ?_) ?_
    rotate_left
    · have htx := HTX.out; first | (go_simp; done) | (go_simp; with_reducible rfl)
    try simp only [Act.put, List.setIfInBounds_toArray, List.set_cons_zero, List.set_cons_succ]
    refine any_pure 16 (v := ?_) rfl (by kernel_rfl) (by intro _ _ _ h; exact h) (by assumption) (by rfl) (fun W hW => ?_) ?_
    rotate_left
    · first | (go_simp; done) | (go_simp; with_reducible rfl)
    try simp only [Act.put, List.setIfInBounds_toArray, List.set_cons_zero, List.set_cons_succ]
    refine any_pure 17 (v := ?_) rfl (by kernel_rfl) (by intro _ _ _ h; exact h) (by assumption) (by rfl) (fun W hW => ?_) ?_
    rotate_left
    · first | (go_simp; done) | (go_simp; with_reducible rfl)
    try simp only [Act.put, List.setIfInBounds_toArray, List.set_cons_zero, List.set_cons_succ]
    refine any_pure 18 (v := ?_) rfl (by kernel_rfl) (by intro _ _ _ h; exact h) (by assumption) (by rfl) (fun W hW => ?_) ?_
    rotate_left
    · first | (go_simp; done) | (go_simp; with_reducible rfl)
    try simp only [Act.put, List.setIfInBounds_toArray, List.set_cons_zero, List.set_cons_succ]
    refine any_done (by kernel_rfl) ?_
    go_wp2
    go_ret
    exact ⟨by first | rfl | simp, sub_trans HR5.out.2 hS7⟩
  · exact absurd HH.out.2.2.1 hP
theorem policyReads_walk (a b c d e f a' b' c' d' e' f' : Int) (w : World) (hR : Ready w) (h6 : In6 a b c d e f) (h6' : In6 a' b' c' d' e' f') :
    Calls Tryd.prog 4 #[.agg #[.int .i64 a, .int .i64 b, .int .i64 c, .int .i64 d, .int .i64 e, .int .i64 f], .agg #[.int .i64 a', .int .i64 b', .int .i64 c', .int .i64 d', .int .i64 e', .int .i64 f']] w fun x w' => x = .returned (.bool true) ∧ Below w.heap.size w w' := by
  by_cases hP : RightP a b c d e f
  · by_cases hq : a = a' ∧ b = b' ∧ c = c' ∧ d = d' ∧ e = e' ∧ f = f'
    · obtain ⟨rfl, rfl, rfl, rfl, rfl, rfl⟩ := hq
      exact preads_yes a b c d e f a b c d e f h6 h6 w hR hP true (fun W => by rw [pol_eql]; simp) (by simp)
    · refine preads_yes a b c d e f a' b' c' d' e' f' h6 h6' w hR hP false (fun W => ?_) (toList_neB fun he => hq (polB_inj h6 h6' he))
      rw [pol_eql]
      have : (a == a' && (b == b' && (c == c' && (d == d' && (e == e' && f == f'))))) = false := by
        rw [Bool.eq_false_iff]
        intro h
        simp at h
        exact hq h
      rw [this]
  · exact preads_no a b c d e f a' b' c' d' e' f' h6 w hR hP
end Go.Proofs.YteljecehppeamaaDoor
