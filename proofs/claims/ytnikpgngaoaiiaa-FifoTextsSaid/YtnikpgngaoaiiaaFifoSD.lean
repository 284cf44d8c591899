/-
  Queues of strings: Index, Contains, Delete, Has, Drop. Condition: none. (Printed by gen_fifos.py out of the queues of numbers.)
-/
import Derived.Test.YtnikpgngaoaiiaaFifoS
import Derived.Test.YtnikpgngaoaiiaaFifoD
import Derived.Lib.SlicesS
namespace Go.Fw
open Go.RowKit
set_option linter.unusedVariables false
/-- a list without the first of a number -/
def dropS : List ByteArray → ByteArray → List ByteArray
  | [], _ => []
  | z :: r, x => if z = x then r else z :: dropS r x
theorem idx_genS (x : ByteArray) : ∀ (l : List ByteArray) (i0 : Nat), (Lib.idxFromS l x i0 = -1 ∧ x ∉ l ∧ dropS l x = l) ∨ ∃ k : Nat, Lib.idxFromS l x i0 = ((i0 + k : Nat) : Int) ∧ k < l.length ∧ l[k]? = some x ∧ (∀ j, j < k → l[j]? ≠ some x) ∧ dropS l x = l.take k ++ l.drop (k + 1)
  | [], i0 => .inl ⟨rfl, by simp, rfl⟩
  | z :: r, i0 => by
    by_cases h : z = x
    · exact .inr ⟨0, by simp [Lib.idxFromS, h], by simp, by simp [h], fun j hj => by omega, by simp [dropS, h]⟩
    · rcases idx_genS x r (i0 + 1) with ⟨h1, h2, h3⟩ | ⟨k, h1, h2, h3, h4, h5⟩
      · exact .inl ⟨by simp [Lib.idxFromS, h, h1], by simp [h2]; exact fun e => h e.symm, by simp [dropS, h, h3]⟩
      · refine .inr ⟨k + 1, ?_, by simpa using h2, by simpa using h3, fun j hj => ?_, by simp [dropS, h, h5]⟩
        · simp only [Lib.idxFromS, if_neg h, h1]
          congr 1
          omega
        · obtain _ | j := j
          · simp [h]
          · simpa using h4 j (by omega)
theorem idx_casesS (l : List ByteArray) (x : ByteArray) : (Lib.idxOfS l x = -1 ∧ x ∉ l ∧ dropS l x = l) ∨ ∃ k : Nat, Lib.idxOfS l x = (k : Int) ∧ k < l.length ∧ l[k]? = some x ∧ (∀ j, j < k → l[j]? ≠ some x) ∧ dropS l x = l.take k ++ l.drop (k + 1) := by
  have := idx_genS x l 0
  simpa [Lib.idxOfS] using this
end Go.Fw
namespace Go.Proofs
open Go.Shelf
def Try.lidxS_ren : Go.Shelf.Ren := ⟨fun | 30 => 30 | n => n, fun | 25 => 39 | 26 => 9 | 3 => 3 | 0 => 0 | 4 => 4 | n => n, fun | n => n⟩
theorem Try.lidxS : Go.Proofs.SlLaysN.n30 Try.prog Try.lidxS_ren := {
  mixed := by kernel_rfl
  f30 := ⟨Try.f30.name, by decide, Try.func30.trans (congrArg some (by kernel_rfl))⟩
  t0 := Try.underlying0
  a0 := Try.isAgg0
  z0 := Try.sizeOf0
  v0 := Try.zeroValue0
  t3 := Try.underlying3
  a3 := Try.isAgg3
  z3 := Try.sizeOf3
  v3 := Try.zeroValue3
  t4 := Try.underlying4
  a4 := Try.isAgg4
  z4 := Try.sizeOf4
  v4 := Try.zeroValue4
  t25 := Try.underlying39
  a25 := Try.isAgg39
  z25 := Try.sizeOf39
  v25 := Try.zeroValue39
  t26 := Try.underlying9
  a26 := Try.isAgg9
  z26 := Try.sizeOf9
  v26 := Try.zeroValue9 }
def Try.ldelS_ren : Go.Shelf.Ren := ⟨fun | 46 => 31 | n => n, fun | 25 => 39 | 26 => 9 | 3 => 3 | 4 => 4 | 0 => 0 | n => n, fun | n => n⟩
theorem Try.ldelS : Go.Proofs.SlLaysN.n46 Try.prog Try.ldelS_ren := {
  mixed := by kernel_rfl
  f46 := ⟨Try.f31.name, by decide, Try.func31.trans (congrArg some (by kernel_rfl))⟩
  t0 := Try.underlying0
  a0 := Try.isAgg0
  z0 := Try.sizeOf0
  v0 := Try.zeroValue0
  t3 := Try.underlying3
  a3 := Try.isAgg3
  z3 := Try.sizeOf3
  v3 := Try.zeroValue3
  t4 := Try.underlying4
  a4 := Try.isAgg4
  z4 := Try.sizeOf4
  v4 := Try.zeroValue4
  t25 := Try.underlying39
  a25 := Try.isAgg39
  z25 := Try.sizeOf39
  v25 := Try.zeroValue39
  t26 := Try.underlying9
  a26 := Try.isAgg9
  z26 := Try.sizeOf9
  v26 := Try.zeroValue9
  i26 := by kernel_rfl }
end Go.Proofs
namespace Go.Proofs.Ytnikpgngaoaiiaa
open Go.RowKit Go.Fw Go.Shelf
set_option maxHeartbeats 2000000
set_option maxRecDepth 100000
set_option linter.unusedVariables false
set_option linter.unusedSimpArgs false
theorem sidx_any (B : Nat) (v : Value) (l : List ByteArray) (x : ByteArray) (w : World) (h : w.ownsRow B 9 1 v l.length (strs l)) (hn : l.length ≤ 100000) :
    Calls Try.prog 30 #[v, .string x] w fun e w' => e = .returned (.int .i64 (Lib.idxOfS l x)) ∧ w = w' := by
  rcases Nat.eq_zero_or_pos l.length with h0 | h0
  · obtain ⟨A, c, rfl, _, _⟩ := own_form h
    have hx : l = [] := List.eq_nil_of_length_eq_zero h0
    subst hx
    have hcon := AnyG.slices_Index_string_empty Try.lidxS A c x w
    change Calls Try.prog 30 _ _ _ at hcon
    exact hcon.mono fun e w' ⟨h1, h2⟩ => ⟨h1, h2.symm⟩
  · obtain ⟨g, c, rfl, hB, hg, hnc, hat⟩ := own_cells h h0
    have hcon := AnyG.slices_Index_string Try.lidxS g 0 l.length c l x w (Nat.le_refl _) (by omega) (fun j hj => by rw [(hat j hj).1, strs_getD hj])
    change Calls Try.prog 30 _ _ _ at hcon
    rw [List.take_of_length_le (Nat.le_refl _)] at hcon
    exact hcon.mono fun e w' ⟨h1, h2⟩ => ⟨h1, h2.symm⟩
theorem scont_any (B : Nat) (v : Value) (l : List ByteArray) (x : ByteArray) (w : World) (h : w.ownsRow B 9 1 v l.length (strs l)) (hn : l.length ≤ 100000) :
    Calls Try.prog 34 #[v, .string x] w fun e w' => e = .returned (.bool (decide (0 ≤ Lib.idxOfS l x))) ∧ w = w' := by
  obtain ⟨A, c, rfl, _, _⟩ := own_form h
  have HC := Lib.hid (sidx_any B _ l x w h hn)
  clear h
  generalize Lib.idxOfS l x = i at *
  go_enter Try.func34, Try.ntmps34
  go_wp2_with fail
  refine HC.out.mono ?_
  rintro e w' ⟨rfl, rfl⟩
  go_wp2
  go_ret
  exact ⟨by first | rfl | simp, rfl⟩
theorem strsOf_map (l : List ByteArray) : (Lib.strsOf (fun j => l.getD j ByteArray.empty) l.length).map encStr = strs l := by
  unfold Lib.strsOf
  refine List.ext_getElem? fun j => ?_
  by_cases h : j < l.length
  · simp [strs, h, encStr]
  · simp [strs, Nat.le_of_not_lt h]
theorem sdel_any (B : Nat) (v : Value) (l : List ByteArray) (k : Nat) (w : World) (h : w.ownsRow B 9 1 v l.length (strs l)) (hn : l.length ≤ 100000) (hk : k < l.length) :
    Calls Try.prog 31 #[v, .int .i64 (k : Int), .int .i64 ((k : Int) + 1)] w fun e w' => ∃ v', e = .returned v' ∧ w'.ownsRow B 9 1 v' (l.take k ++ l.drop (k + 1)).length (strs (l.take k ++ l.drop (k + 1))) ∧ v'.ownBlock = v.ownBlock ∧ Keep (fun j => v.ownBlock = some j) w w' := by
  obtain ⟨g, c, rfl, hB, hg, hnc, hat⟩ := own_cells h (by omega)
  have hcm : c ≤ 9223372036854775807 := by
    obtain ⟨_, _, e1, _, h2⟩ := own_form h
    injection e1 with _ _ e3
    subst e3
    exact h2
  have hcon := AnyG.slices_Delete_string_cells Try.ldelS g 0 l.length c k (k + 1) (fun j => l.getD j ByteArray.empty) w hnc hcm (by omega) (by omega) (fun j hj => by rw [(hat j hj).1, strs_getD hj]) (fun j hj => (hat j hj).2)
  change Calls Try.prog 31 _ _ _ at hcon
  refine hcon.mono ?_
  rintro e w' ⟨rfl, q, rfl⟩
  rw [show k + 1 - k = 1 by omega]
  have h2 : (w.drewN q).ownsRow B 9 1 (.slice (some ⟨g, 0, none⟩) l.length c) l.length (strs l) := h
  have hlen : (l.take k ++ l.drop (k + 1)).length = l.length - 1 := by simp; omega
  have hsl := Lib.strsOf_length (fun j => l.getD j ByteArray.empty) l.length
  have hzm := strsOf_map l
  generalize Lib.strsOf (fun j => l.getD j ByteArray.empty) l.length = Z at *
  have h3 := own_over h2 (m := l.length - 1) (vs := ((Z.take k ++ Z.drop (k + 1) ++ List.replicate 1 []).map encStr)) (by simp [hsl]; omega) (by omega)
  have h4 : ((Z.take k ++ Z.drop (k + 1) ++ List.replicate 1 []).map encStr).take (l.length - 1) = strs (l.take k ++ l.drop (k + 1)) := by
    rw [List.map_append, List.take_append_of_le_length (by simp [hsl]; omega), List.take_of_length_le (by simp [hsl]; omega), List.map_append, List.map_take, List.map_drop, hzm]
    simp [strs, List.map_take, List.map_drop]
  rw [h4] at h3
  rw [hlen]
  exact ⟨_, rfl, h3, rfl, keep_setCells (by rfl) q _⟩
theorem qshas_any (p B : Nat) (S : Nat → Prop) (L : List ByteArray) (x : ByteArray) (w : World) (h : QSHas w p B S L) (hl : L.length ≤ 100000) :
    Calls Try.prog 22 #[.pointer (some ⟨p, 0, none⟩), .string x] w fun e w' => e = .returned (.bool (decide (0 ≤ Lib.idxOfS L x))) ∧ Below w.heap.size w w' := by
  have HC := Lib.hid (qslist_any p B S L w h hl)
  clear h
  go_enter Try.func22, Try.ntmps22
  go_wp2_with fail
  refine HC.out.mono ?_
  rintro e w1 ⟨v, rfl, hm⟩
  obtain ⟨A1, c1, rfl, _, _⟩ := own_form hm.own
  have HD := Lib.hid (scont_any _ _ L x w1 hm.own hl)
  have HB := Lib.hid hm.below
  clear hm
  generalize hr : decide (0 ≤ Lib.idxOfS L x) = r at *
  have HR := Lib.hid hr
  clear hr
  go_wp2_with fail
  refine HD.out.mono ?_
  rintro e w2 ⟨rfl, rfl⟩
  go_wp2
  go_ret
  exact ⟨by rw [HR.out]; rfl, HB.out⟩
theorem qsdrop_miss (p B : Nat) (S : Nat → Prop) (L : List ByteArray) (x : ByteArray) (w : World) (h : QSHas w p B S L) (hl : L.length ≤ 100000) (hi : Lib.idxOfS L x = -1) :
    Calls Try.prog 17 #[.pointer (some ⟨p, 0, none⟩), .string x] w fun e w' => e = .returned (.bool false) ∧ Below w.heap.size w w' := by
  have HC := Lib.hid (qslist_any p B S L w h hl)
  clear h
  go_enter Try.func17, Try.ntmps17
  go_wp2_with fail
  refine HC.out.mono ?_
  rintro e w1 ⟨v, rfl, hm⟩
  obtain ⟨A1, c1, rfl, _, _⟩ := own_form hm.own
  have HD := sidx_any _ _ L x w1 hm.own hl
  rw [hi] at HD
  have HD := Lib.hid HD
  have HB := Lib.hid hm.below
  clear hm hi
  go_wp2_with fail
  refine HD.out.mono ?_
  rintro e w2 ⟨rfl, rfl⟩
  go_wp2
  go_ret
  exact ⟨rfl, HB.out⟩
theorem qsdrop_hit (p B : Nat) (S : Nat → Prop) (L : List ByteArray) (x : ByteArray) (k : Nat) (w : World) (h : QSHas w p B S L) (hB : B ≤ w.heap.size) (hl : L.length ≤ 100000) (hi : Lib.idxOfS L x = (k : Int)) (hk : k < L.length) :
    Calls Try.prog 17 #[.pointer (some ⟨p, 0, none⟩), .string x] w fun e w' => e = .returned (.bool true) ∧ QSNew w w' p B S (L.take k ++ L.drop (k + 1)) := by
  have HC := Lib.hid (qslist_any p B S L w h hl)
  have HL := Lib.hid hl
  obtain ⟨vf, vb, f, b, hq, he, rfl⟩ := h
  obtain ⟨Af, cf, rfl, _, _⟩ := own_form hq.front
  obtain ⟨Ab, cb, rfl, _, _⟩ := own_form hq.back
  have HQ := Lib.hid hq
  have HE := Lib.hid he
  clear hl hq he
  go_enter Try.func17, Try.ntmps17
  go_wp2_with fail
  refine HC.out.mono ?_
  rintro e w1 ⟨v, rfl, hm⟩
  have hkb : k ≤ 100000 := by have := HL.out; omega
  have hdel := sdel_any _ _ L k w1 hm.own HL.out hk
  obtain ⟨D, hDD⟩ : ∃ D, D = L.take k ++ L.drop (k + 1) := ⟨_, rfl⟩
  rw [← hDD] at hdel
  have HDD := Lib.hid hDD
  clear hDD
  obtain ⟨A1, c1, rfl, _, _⟩ := own_form hm.own
  have HD := sidx_any _ _ L x w1 hm.own HL.out
  rw [hi] at HD
  have HD2 := Lib.hid HD
  clear HD
  have HM := Lib.hid (And.intro hm hdel)
  have hk0 : ¬ (k : Int) < 0 := by omega
  clear hm hi hdel hk
  go_wp2_with fail
  refine HD2.out.mono ?_
  rintro e w2 ⟨rfl, rfl⟩
  go_wp2_with fail
  refine HM.out.2.mono ?_
  rintro e w3 ⟨v3, rfl, h31, h32, h33⟩
  have hlow := (HM.out.1.own.lt)
  have hb3 : Blk w3 p 41 #[.slice Af f.length cf, .slice Ab b.length cb] := (h33.blk ((HQ.out.blk.later HM.out.1.below)) (fun e => by have := (hlow p e).1; have := HQ.out.blk.lt; omega))
  have f0 := hb3.frozen 0
  have f1 := hb3.frozen 1
  have c0 := hb3.cell 0
  have c1 := hb3.cell 1
  simp at c0 c1
  have hn3 := own_ne h31 hb3 (by decide)
  obtain ⟨A3, c3, rfl, _, _⟩ := own_form h31
  have H3 := Lib.hid (And.intro h31 (And.intro h32 (And.intro h33 (And.intro hb3 hn3))))
  clear h31 h32 h33 hb3 hn3
  go_wp2
  go_ret
  obtain ⟨h31, h32, h33, hb3, hn3⟩ := H3.out
  rw [← HDD.out]
  have hbig : Keep (fun j => QBl p (.slice Af f.length cf) (.slice Ab b.length cb) j ∨ w.heap.size ≤ j) w w3 := (Keep.of_below HM.out.1.below).trans (h33.more2 fun j e => .inr (hlow j e).1)
  have hbig2 := (hbig.setCell (p := ⟨p, 0, none⟩) (.inl (.inl (.inl rfl))) (.slice none 0 0)).setCell (p := ⟨p, 1, none⟩) (.inl (.inl (.inl rfl))) (.slice A3 D.length c3)
  have hbk := (hb3.set_ 0 (.slice none 0 0)).set_ 1 (.slice A3 D.length c3)
  have ho4 := own_set (p := ⟨p, 1, none⟩) (own_set (p := ⟨p, 0, none⟩) (own_lower h31 hB) hn3 (.slice none 0 0)) hn3 (.slice A3 D.length c3)
  refine ⟨rfl, _, ⟨.slice none 0 0, .slice A3 D.length c3, [], D, ⟨by simpa using hbk, World.ownsRow_nil _ _ _ _, ho4, fun j e => by simp [Value.ownBlock] at e⟩, by simp, rfl⟩, ⟨hbig2.os, hbig2.tape, hbig2.output, hbig2.size, fun j hj hn => hbig2.block j hj fun e => e.elim hn (by omega)⟩, ?_⟩
  rintro j (rfl | e | e)
  · exact .inl (.inl rfl)
  · simp [Value.ownBlock] at e
  · exact .inr ((hlow j (h32.symm.trans e)).1)
theorem qshas_nil (x : ByteArray) (w : World) :
    Calls Try.prog 22 #[.pointer none, .string x] w fun e w' => e = .returned (.bool false) ∧ Below w.heap.size w w' := by
  go_enter Try.func22, Try.ntmps22
  go_wp2_with fail
  refine (qslist_nil w).mono ?_
  rintro e w1 ⟨v, rfl, hm⟩
  obtain ⟨A1, c1, rfl, _, _⟩ := own_form hm.own
  have HD := Lib.hid (scont_any _ _ [] x w1 hm.own (by simp))
  have HB := Lib.hid hm.below
  clear hm
  go_wp2_with fail
  refine HD.out.mono ?_
  rintro e w2 ⟨rfl, rfl⟩
  go_wp2
  go_ret
  exact ⟨by first | rfl | simp [Lib.idxOfS, Lib.idxFromS], HB.out⟩
theorem qsdrop_nil (x : ByteArray) (w : World) :
    Calls Try.prog 17 #[.pointer none, .string x] w fun e w' => e = .returned (.bool false) ∧ Below w.heap.size w w' := by
  go_enter Try.func17, Try.ntmps17
  go_wp2_with fail
  refine (qslist_nil w).mono ?_
  rintro e w1 ⟨v, rfl, hm⟩
  obtain ⟨A1, c1, rfl, _, _⟩ := own_form hm.own
  have HD := sidx_any _ _ [] x w1 hm.own (by simp)
  rw [show Lib.idxOfS [] x = -1 from rfl] at HD
  have HD2 := Lib.hid HD
  have HB := Lib.hid hm.below
  clear hm HD
  go_wp2_with fail
  refine HD2.out.mono ?_
  rintro e w2 ⟨rfl, rfl⟩
  go_wp2
  go_ret
  exact ⟨rfl, HB.out⟩
end Go.Proofs.Ytnikpgngaoaiiaa
