/-
  Queues of numbers: Index, Contains, Delete, Has, Drop. Condition: none.
-/
import Derived.Test.YtnikpgngaoaiiaaFifoC
namespace Go.Fw
open Go.RowKit
set_option linter.unusedVariables false
/-- a list without the first of a number -/
def dropL : List Int → Int → List Int
  | [], _ => []
  | z :: r, x => if z = x then r else z :: dropL r x
theorem idx_gen (x : Int) : ∀ (l : List Int) (i0 : Nat), (Lib.idxFrom l x i0 = -1 ∧ x ∉ l ∧ dropL l x = l) ∨ ∃ k : Nat, Lib.idxFrom l x i0 = ((i0 + k : Nat) : Int) ∧ k < l.length ∧ l[k]? = some x ∧ (∀ j, j < k → l[j]? ≠ some x) ∧ dropL l x = l.take k ++ l.drop (k + 1)
  | [], i0 => .inl ⟨rfl, by simp, rfl⟩
  | z :: r, i0 => by
    by_cases h : z = x
    · exact .inr ⟨0, by simp [Lib.idxFrom, h], by simp, by simp [h], fun j hj => by omega, by simp [dropL, h]⟩
    · rcases idx_gen x r (i0 + 1) with ⟨h1, h2, h3⟩ | ⟨k, h1, h2, h3, h4, h5⟩
      · exact .inl ⟨by simp [Lib.idxFrom, h, h1], by simp [h2]; exact fun e => h e.symm, by simp [dropL, h, h3]⟩
      · refine .inr ⟨k + 1, ?_, by simpa using h2, by simpa using h3, fun j hj => ?_, by simp [dropL, h, h5]⟩
        · simp only [Lib.idxFrom, if_neg h, h1]
          congr 1
          omega
        · obtain _ | j := j
          · simp [h]
          · simpa using h4 j (by omega)
theorem idx_cases (l : List Int) (x : Int) : (Lib.idxOf l x = -1 ∧ x ∉ l ∧ dropL l x = l) ∨ ∃ k : Nat, Lib.idxOf l x = (k : Int) ∧ k < l.length ∧ l[k]? = some x ∧ (∀ j, j < k → l[j]? ≠ some x) ∧ dropL l x = l.take k ++ l.drop (k + 1) := by
  have := idx_gen x l 0
  simpa [Lib.idxOf] using this
theorem own_cells {w : World} {B : Nat} {e : TypeId} {n : Nat} {v : Value} {xs : List Value} (h : w.ownsRow B e 1 v n xs) (hn : 0 < n) :
    ∃ g c, v = .slice (some ⟨g, 0, none⟩) n c ∧ B ≤ g ∧ g < w.heap.size ∧ n ≤ c ∧ ∀ j, j < n → w.cell? ⟨g, 0 + j, none⟩ = xs[j]? ∧ w.frozen? ⟨g, 0 + j, none⟩ = false := by
  obtain ⟨g, c, rfl, hB, hg, hnc, _⟩ := own_at h hn
  refine ⟨g, c, rfl, hB, hg, hnc, fun j hj => ?_⟩
  obtain ⟨g', c', e1, _, _, _, e5, e6, _⟩ := own_at h hj
  injection e1 with e1
  injection e1 with e1
  injection e1 with e1
  subst e1
  rw [Nat.zero_add]
  exact ⟨e5, e6⟩
end Go.Fw
namespace Go.Proofs.Ytnikpgngaoaiiaa
open Go.RowKit Go.Shelf Go.Fw
set_option maxHeartbeats 1000000
set_option maxRecDepth 4000
set_option linter.unusedVariables false
set_option linter.unusedSimpArgs false
theorem iidx_any (B : Nat) (v : Value) (l : List Int) (x : Int) (w : World) (h : w.ownsRow B 3 1 v l.length (i64s l)) (hn : l.length ≤ 100000) :
    Calls Try.prog 24 #[v, .int .i64 x] w fun e w' => e = .returned (.int .i64 (Lib.idxOf l x)) ∧ w = w' := by
  rcases Nat.eq_zero_or_pos l.length with h0 | h0
  · obtain ⟨A, c, rfl, _, _⟩ := own_form h
    have hx : l = [] := List.eq_nil_of_length_eq_zero h0
    subst hx
    have hcon := AnyG.slices_Index_int_empty Try.lidx A c x w
    change Calls Try.prog 24 _ _ _ at hcon
    exact hcon.mono fun e w' ⟨h1, h2⟩ => ⟨h1, h2.symm⟩
  · obtain ⟨g, c, rfl, hB, hg, hnc, hat⟩ := own_cells h h0
    have hcon := AnyG.slices_Index_int Try.lidx g 0 l.length c l x w (Nat.le_refl _) (by omega) (fun j hj => by rw [(hat j hj).1, i64s_getD hj])
    change Calls Try.prog 24 _ _ _ at hcon
    rw [List.take_of_length_le (Nat.le_refl _)] at hcon
    exact hcon.mono fun e w' ⟨h1, h2⟩ => ⟨h1, h2.symm⟩
theorem icont_any (B : Nat) (v : Value) (l : List Int) (x : Int) (w : World) (h : w.ownsRow B 3 1 v l.length (i64s l)) (hn : l.length ≤ 100000) :
    Calls Try.prog 28 #[v, .int .i64 x] w fun e w' => e = .returned (.bool (decide (0 ≤ Lib.idxOf l x))) ∧ w = w' := by
  obtain ⟨A, c, rfl, _, _⟩ := own_form h
  have HC := Lib.hid (iidx_any B _ l x w h hn)
  clear h
  generalize Lib.idxOf l x = i at *
  go_enter Try.func28, Try.ntmps28
  go_wp2_with fail
  refine HC.out.mono ?_
  rintro e w' ⟨rfl, rfl⟩
  go_wp2
  go_ret
  exact ⟨by first | rfl | simp, rfl⟩
theorem idel_any (B : Nat) (v : Value) (l : List Int) (k : Nat) (w : World) (h : w.ownsRow B 3 1 v l.length (i64s l)) (hn : l.length ≤ 100000) (hk : k < l.length) :
    Calls Try.prog 25 #[v, .int .i64 (k : Int), .int .i64 ((k : Int) + 1)] w fun e w' => ∃ v', e = .returned v' ∧ w'.ownsRow B 3 1 v' (l.take k ++ l.drop (k + 1)).length (i64s (l.take k ++ l.drop (k + 1))) ∧ v'.ownBlock = v.ownBlock ∧ Keep (fun j => v.ownBlock = some j) w w' := by
  obtain ⟨g, c, rfl, hB, hg, hnc, hat⟩ := own_cells h (by omega)
  have hcm : c ≤ 9223372036854775807 := by
    obtain ⟨_, _, e1, _, h2⟩ := own_form h
    injection e1 with _ _ e3
    subst e3
    exact h2
  have hcon := AnyG.slices_Delete_int_cells Try.ldel g 0 l.length c k (k + 1) l w (Nat.le_refl _) hnc hcm (by omega) (by omega) (fun j hj => by rw [(hat j hj).1, i64s_getD hj]) (fun j hj => (hat j hj).2)
  change Calls Try.prog 25 _ _ _ at hcon
  refine hcon.mono ?_
  rintro e w' ⟨rfl, q, rfl⟩
  rw [List.take_of_length_le (Nat.le_refl _), show k + 1 - k = 1 by omega]
  have h2 : (w.drewN q).ownsRow B 3 1 (.slice (some ⟨g, 0, none⟩) l.length c) l.length (i64s l) := h
  have hlen : (l.take k ++ l.drop (k + 1)).length = l.length - 1 := by simp; omega
  have h3 := own_over h2 (m := l.length - 1) (vs := ((l.take k ++ l.drop (k + 1) ++ List.replicate 1 (0 : Int)).map (Value.int .i64))) (by simp; omega) (by omega)
  have h4 : ((l.take k ++ l.drop (k + 1) ++ List.replicate 1 (0 : Int)).map (Value.int .i64)).take (l.length - 1) = i64s (l.take k ++ l.drop (k + 1)) := by
    rw [List.map_append, List.take_append_of_le_length (by rw [List.length_map, hlen]; exact Nat.le_refl _), List.take_of_length_le (by rw [List.length_map, hlen]; exact Nat.le_refl _)]
    rfl
  rw [h4] at h3
  rw [hlen]
  exact ⟨_, rfl, h3, rfl, keep_setCells (by rfl) q _⟩
theorem qihas_any (p B : Nat) (S : Nat → Prop) (L : List Int) (x : Int) (w : World) (h : QIHas w p B S L) (hl : L.length ≤ 100000) :
    Calls Try.prog 14 #[.pointer (some ⟨p, 0, none⟩), .int .i64 x] w fun e w' => e = .returned (.bool (decide (0 ≤ Lib.idxOf L x))) ∧ Below w.heap.size w w' := by
  have HC := Lib.hid (qilist_any p B S L w h hl)
  clear h
  go_enter Try.func14, Try.ntmps14
  go_wp2_with fail
  refine HC.out.mono ?_
  rintro e w1 ⟨v, rfl, hm⟩
  obtain ⟨A1, c1, rfl, _, _⟩ := own_form hm.own
  have HD := Lib.hid (icont_any _ _ L x w1 hm.own hl)
  have HB := Lib.hid hm.below
  clear hm
  generalize hr : decide (0 ≤ Lib.idxOf L x) = r at *
  have HR := Lib.hid hr
  clear hr
  go_wp2_with fail
  refine HD.out.mono ?_
  rintro e w2 ⟨rfl, rfl⟩
  go_wp2
  go_ret
  exact ⟨by rw [HR.out]; rfl, HB.out⟩
theorem qidrop_miss (p B : Nat) (S : Nat → Prop) (L : List Int) (x : Int) (w : World) (h : QIHas w p B S L) (hl : L.length ≤ 100000) (hi : Lib.idxOf L x = -1) :
    Calls Try.prog 8 #[.pointer (some ⟨p, 0, none⟩), .int .i64 x] w fun e w' => e = .returned (.bool false) ∧ Below w.heap.size w w' := by
  have HC := Lib.hid (qilist_any p B S L w h hl)
  clear h
  go_enter Try.func8, Try.ntmps8
  go_wp2_with fail
  refine HC.out.mono ?_
  rintro e w1 ⟨v, rfl, hm⟩
  obtain ⟨A1, c1, rfl, _, _⟩ := own_form hm.own
  have HD := iidx_any _ _ L x w1 hm.own hl
  rw [hi] at HD
  have HD := Lib.hid HD
  have HB := Lib.hid hm.below
  clear hm hi
  go_wp2_with fail
  refine HD.out.mono ?_
  rintro e w2 ⟨rfl, rfl⟩
  go_wp2
  go_ret
  exact ⟨rfl, HB.out⟩
theorem qidrop_hit (p B : Nat) (S : Nat → Prop) (L : List Int) (x : Int) (k : Nat) (w : World) (h : QIHas w p B S L) (hB : B ≤ w.heap.size) (hl : L.length ≤ 100000) (hi : Lib.idxOf L x = (k : Int)) (hk : k < L.length) :
    Calls Try.prog 8 #[.pointer (some ⟨p, 0, none⟩), .int .i64 x] w fun e w' => e = .returned (.bool true) ∧ QINew w w' p B S (L.take k ++ L.drop (k + 1)) := by
  have HC := Lib.hid (qilist_any p B S L w h hl)
  have HL := Lib.hid hl
  obtain ⟨vf, vb, f, b, hq, he, rfl⟩ := h
  obtain ⟨Af, cf, rfl, _, _⟩ := own_form hq.front
  obtain ⟨Ab, cb, rfl, _, _⟩ := own_form hq.back
  have HQ := Lib.hid hq
  have HE := Lib.hid he
  clear hl hq he
  go_enter Try.func8, Try.ntmps8
  go_wp2_with fail
  refine HC.out.mono ?_
  rintro e w1 ⟨v, rfl, hm⟩
  have hkb : k ≤ 100000 := by have := HL.out; omega
  have hdel := idel_any _ _ L k w1 hm.own HL.out hk
  obtain ⟨D, hDD⟩ : ∃ D, D = L.take k ++ L.drop (k + 1) := ⟨_, rfl⟩
  rw [← hDD] at hdel
  have HDD := Lib.hid hDD
  clear hDD
  obtain ⟨A1, c1, rfl, _, _⟩ := own_form hm.own
  have HD := iidx_any _ _ L x w1 hm.own HL.out
  rw [hi] at HD
  have HD2 := Lib.hid HD
  clear HD
  have HM := Lib.hid (And.intro hm hdel)
  have hk0 : ¬ (k : Int) < 0 := by omega
  clear hm hi hdel hk
  go_wp2_with fail
  refine HD2.out.mono ?_
  rintro e w2 ⟨rfl, rfl⟩
  go_wp2_with fail
  refine HM.out.2.mono ?_
  rintro e w3 ⟨v3, rfl, h31, h32, h33⟩
  have hlow := (HM.out.1.own.lt)
  have hb3 : Blk w3 p 26 #[.slice Af f.length cf, .slice Ab b.length cb] := (h33.blk ((HQ.out.blk.later HM.out.1.below)) (fun e => by have := (hlow p e).1; have := HQ.out.blk.lt; omega))
  have f0 := hb3.frozen 0
  have f1 := hb3.frozen 1
  have c0 := hb3.cell 0
  have c1 := hb3.cell 1
  simp at c0 c1
  have hn3 := own_ne h31 hb3 (by decide)
  obtain ⟨A3, c3, rfl, _, _⟩ := own_form h31
  have H3 := Lib.hid (And.intro h31 (And.intro h32 (And.intro h33 (And.intro hb3 hn3))))
  clear h31 h32 h33 hb3 hn3
  go_wp2
  go_ret
  obtain ⟨h31, h32, h33, hb3, hn3⟩ := H3.out
  rw [← HDD.out]
  have hbig : Keep (fun j => QBl p (.slice Af f.length cf) (.slice Ab b.length cb) j ∨ w.heap.size ≤ j) w w3 := (Keep.of_below HM.out.1.below).trans (h33.more2 fun j e => .inr (hlow j e).1)
  have hbig2 := (hbig.setCell (p := ⟨p, 0, none⟩) (.inl (.inl (.inl rfl))) (.slice none 0 0)).setCell (p := ⟨p, 1, none⟩) (.inl (.inl (.inl rfl))) (.slice A3 D.length c3)
  have hbk := (hb3.set_ 0 (.slice none 0 0)).set_ 1 (.slice A3 D.length c3)
  have ho4 := own_set (p := ⟨p, 1, none⟩) (own_set (p := ⟨p, 0, none⟩) (own_lower h31 hB) hn3 (.slice none 0 0)) hn3 (.slice A3 D.length c3)
  refine ⟨rfl, _, ⟨.slice none 0 0, .slice A3 D.length c3, [], D, ⟨by simpa using hbk, World.ownsRow_nil _ _ _ _, ho4, fun j e => by simp [Value.ownBlock] at e⟩, by simp, rfl⟩, ⟨hbig2.os, hbig2.tape, hbig2.output, hbig2.size, fun j hj hn => hbig2.block j hj fun e => e.elim hn (by omega)⟩, ?_⟩
  rintro j (rfl | e | e)
  · exact .inl (.inl rfl)
  · simp [Value.ownBlock] at e
  · exact .inr ((hlow j (h32.symm.trans e)).1)
end Go.Proofs.Ytnikpgngaoaiiaa
