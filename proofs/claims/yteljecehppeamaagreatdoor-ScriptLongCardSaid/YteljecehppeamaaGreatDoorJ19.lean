/-
  script's reader: read and call, walked (chapter 42). Conditions: strconv's table and errors lie in memory, and a number in internal/bytealg.MaxLen.
-/
import Derived.Test.YteljecehppeamaaGreatDoorJ15
import Derived.Test.YteljecehppeamaaGreatDoorJ12
import Derived.Test.YteljecehppeamaaGreatDoorJ18
import Derived.Test.YteljecehppeamaaGreatDoorJ14
namespace Go.Fw
open Go.RowKit
set_option linter.unusedVariables false
set_option linter.unusedSimpArgs false
theorem hasPrefix_two {a b c d : UInt8} {r r' : List UInt8} (h : a ≠ c ∨ b ≠ d) : Lib.hasPrefix (a :: b :: r) (c :: d :: r') = false := by
  unfold Lib.hasPrefix
  rcases h with h | h
  · simp [List.isPrefixOf, Ne.symm h]
  · simp [List.isPrefixOf, Ne.symm h]
def storeB : ByteArray := ⟨#[115, 116, 111, 114, 101]⟩
def workersB : ByteArray := ⟨#[119, 111, 114, 107, 101, 114, 115]⟩
def picksB : ByteArray := ⟨#[112, 105, 99, 107, 115]⟩
/-- the numbers behind each of the three words -/
structure Num3 (l : ByteArray) (a b c : Option (List Int)) : Prop where
  s : numR storeB l = a
  w : numR workersB l = b
  p : numR picksB l = c
theorem num3_store {a b c d : Int} (h : In64 a ∧ In64 b ∧ In64 c ∧ In64 d) : Num3 ⟨(cfgN a b c d).toArray⟩ (some [a, b, c, d]) none none := by
  refine ⟨numR_text (word := storeB) (l := [a, b, c, d]) (by simp) fun x hx => ?_, numR_far ?_, numR_far ?_⟩
  · simp at hx
    rcases hx with rfl | rfl | rfl | rfl
    · exact h.1
    · exact h.2.1
    · exact h.2.2.1
    · exact h.2.2.2
  · exact hasPrefix_two (a := 115) (b := 116) (c := 119) (d := 111) (.inl (by decide))
  · exact hasPrefix_two (a := 115) (b := 116) (c := 112) (d := 105) (.inl (by decide))
theorem num3_client : Num3 ⟨clientS.toArray⟩ none none none := by
  refine ⟨numR_far ?_, numR_far ?_, numR_far ?_⟩ <;> decide
theorem num3_workers {n : Int} (h : In64 n) : Num3 ⟨(wkN n).toArray⟩ none (some [n]) none := by
  have e : wkN n = workersB.data.toList ++ 32 :: textN [n] := by simp [wkN, textN, joinS, workersB, workersS]
  refine ⟨numR_far ?_, by rw [e]; exact numR_text (word := workersB) (l := [n]) (by simp) fun x hx => by simp at hx; subst hx; exact h, numR_far ?_⟩
  · exact hasPrefix_two (a := 119) (b := 111) (c := 115) (d := 116) (.inl (by decide))
  · exact hasPrefix_two (a := 119) (b := 111) (c := 112) (d := 105) (.inl (by decide))
theorem num3_picks {l : List Int} (h0 : l ≠ []) (h : ∀ x ∈ l, In64 x) : Num3 ⟨(pkN l).toArray⟩ none none (some l) := by
  refine ⟨numR_far ?_, numR_far ?_, numR_text (word := picksB) h0 h⟩
  · exact hasPrefix_two (a := 112) (b := 105) (c := 115) (d := 116) (.inl (by decide))
  · exact hasPrefix_two (a := 112) (b := 105) (c := 119) (d := 111) (.inl (by decide))
theorem vbS_two : ∀ k, 1 ≤ k → k ≤ 8 → ∃ a b r, vbS k = a :: b :: r ∧ (a ≠ 115 ∨ b ≠ 116) ∧ a ≠ 119 ∧ a ≠ 112 ∧ a ≠ 99 := by
  intro k h1 h2
  have hor : k = 1 ∨ k = 2 ∨ k = 3 ∨ k = 4 ∨ k = 5 ∨ k = 6 ∨ k = 7 ∨ k = 8 := by omega
  rcases hor with rfl | rfl | rfl | rfl | rfl | rfl | rfl | rfl <;> exact ⟨_, _, _, rfl, by decide, by decide, by decide, by decide⟩
theorem lineN_head {x : Cl} (he : textE x = 0) : ∃ a b r, lineN x = a :: b :: r ∧ (a ≠ 115 ∨ b ≠ 116) ∧ a ≠ 119 ∧ a ≠ 112 ∧ a ≠ 99 := by
  have key : ∀ k, 1 ≤ k → k ≤ 8 → ∀ r, lineWs x = vbS k :: r → ∃ a b r, lineN x = a :: b :: r ∧ (a ≠ 115 ∨ b ≠ 116) ∧ a ≠ 119 ∧ a ≠ 112 ∧ a ≠ 99 := fun k h1 h2 r hr => by
    obtain ⟨a, b, q, e, h⟩ := vbS_two k h1 h2
    refine ⟨a, b, q ++ r.flatMap fun y => 32 :: y, ?_, h⟩
    unfold lineN
    rw [hr]
    simp [joinS, e]
  rcases kind_of he with h1 | h1 | h1 | h1 | h1 | h1 | h1 | h1
  · exact key 1 (by decide) (by decide) _ (by simp [lineWs, h1]; rfl)
  · exact key 2 (by decide) (by decide) _ (by simp [lineWs, h1]; rfl)
  · exact key 3 (by decide) (by decide) _ (by simp [lineWs, h1]; rfl)
  · exact key 4 (by decide) (by decide) _ (by simp [lineWs, h1]; rfl)
  · exact key 5 (by decide) (by decide) _ (by simp [lineWs, h1]; rfl)
  · exact key 6 (by decide) (by decide) _ (by simp [lineWs, h1]; rfl)
  · exact key 7 (by decide) (by decide) _ (by simp [lineWs, h1]; rfl)
  · exact key 8 (by decide) (by decide) _ (by simp [lineWs, h1]; rfl)
theorem num3_call {x : Cl} (he : textE x = 0) : Num3 ⟨(lineN x).toArray⟩ none none none := by
  obtain ⟨a, b, r, e, h1, h2, h3, h4⟩ := lineN_head he
  rw [e]
  exact ⟨numR_far (hasPrefix_two (c := 115) (d := 116) h1), numR_far (hasPrefix_two (c := 119) (d := 111) (.inl h2)), numR_far (hasPrefix_two (c := 112) (d := 105) (.inl h3))⟩
theorem lineN_client {x : Cl} (he : textE x = 0) : lineN x ≠ clientS := by
  obtain ⟨a, b, r, e, h1, h2, h3, h4⟩ := lineN_head he
  rw [e]
  intro h
  injection h with h5
  exact h4 h5
theorem lineN_len {x : Cl} (hx : x.ok) (he : textE x = 0) : (lineN x).length ≤ 400 := by
  have hid : namedK x.k = true → x.id.data.toList.length ≤ 21 := fun h => by
    have := (idOk_at (named_ok he h)).2.1
    have h2 : x.id.data.toList.length = x.id.size := rfl
    omega
  have hv : ∀ k, (vbS k).length ≤ 21 := fun k => by have := vbS_len k; omega
  have g2 : (Lib.itoa x.tick).length ≤ 21 := by have := Lib.itoa_length_le x.tick hx.tick.1 hx.tick.2; omega
  have g3 : (Lib.itoa x.value).length ≤ 21 := by have := Lib.itoa_length_le x.value hx.value.1 hx.value.2; omega
  have g4 : (Lib.itoa x.handle).length ≤ 21 := by have := Lib.itoa_length_le x.handle hx.handle.1 hx.handle.2; omega
  have g6 := polWords_len hx.pol
  have key : ∀ l : List (List UInt8), lineWs x = l → l.length ≤ 14 → (∀ w ∈ l, w.length ≤ 21) → (lineN x).length ≤ 400 := fun l hl h14 h => by
    have := joinS_len 32 21 l h
    unfold lineN
    rw [hl]
    omega
  rcases kind_of he with h1 | h1 | h1 | h1 | h1 | h1 | h1 | h1
  · have hi := hid (by rw [h1]; rfl)
    refine key [vbS 1, x.id.data.toList, Lib.itoa x.tick, Lib.itoa x.value] (by simp [lineWs, h1]) (by simp) ?_
    simp only [List.mem_cons, List.mem_nil_iff, or_false]
    rintro w (rfl | rfl | rfl | rfl) <;> first | exact hv _ | assumption
  · refine key [vbS 2, Lib.itoa x.tick] (by simp [lineWs, h1]) (by simp) ?_
    simp only [List.mem_cons, List.mem_nil_iff, or_false]
    rintro w (rfl | rfl) <;> first | exact hv _ | assumption
  · refine key [vbS 3] (by simp [lineWs, h1]) (by simp) ?_
    simp only [List.mem_cons, List.mem_nil_iff, or_false]
    rintro w rfl
    exact hv _
  · refine key [vbS 4, Lib.itoa x.handle] (by simp [lineWs, h1]) (by simp) ?_
    simp only [List.mem_cons, List.mem_nil_iff, or_false]
    rintro w (rfl | rfl) <;> first | exact hv _ | assumption
  · have hi := hid (by rw [h1]; rfl)
    refine key [vbS 5, Lib.itoa x.handle, x.id.data.toList, Lib.itoa x.tick, Lib.itoa x.value] (by simp [lineWs, h1]) (by simp) ?_
    simp only [List.mem_cons, List.mem_nil_iff, or_false]
    rintro w (rfl | rfl | rfl | rfl | rfl) <;> first | exact hv _ | assumption
  · have hi := hid (by rw [h1]; rfl)
    refine key (vbS 6 :: x.id.data.toList :: polWords x.a x.b x.c x.d x.e x.f) (by simp [lineWs, h1]) (by simp [polWords]) ?_
    intro w hw
    rcases List.mem_cons.1 hw with rfl | hw
    · exact hv _
    rcases List.mem_cons.1 hw with rfl | hw
    · exact hi
    exact g6 w hw
  · have hi := hid (by rw [h1]; rfl)
    refine key [vbS 7, x.id.data.toList] (by simp [lineWs, h1]) (by simp) ?_
    simp only [List.mem_cons, List.mem_nil_iff, or_false]
    rintro w (rfl | rfl) <;> first | exact hv _ | assumption
  · refine key [vbS 8] (by simp [lineWs, h1]) (by simp) ?_
    simp only [List.mem_cons, List.mem_nil_iff, or_false]
    rintro w rfl
    exact hv _
theorem own_own_ne {w : World} {B B' : Nat} {e e' : TypeId} {s s' n n' : Nat} {v v' : Value} {xs xs' : List Value} (h : w.ownsRow B e s v n xs) (h' : w.ownsRow B' e' s' v' n' xs') (hne : e ≠ e') : v.ownBlock = none ∨ v.ownBlock ≠ v'.ownBlock := by
  rcases h'.2 with ⟨rfl, _⟩ | ⟨g, cap, cur, rfl, _, hh, _⟩
  · rcases h.2 with ⟨rfl, _⟩ | ⟨g, cap, cur, rfl, _, hh, _⟩
    · exact .inl rfl
    · exact .inr (by simp [Value.ownBlock])
  · exact .inr (own_ne h hh hne)
/-- the rows of a script that is being read: programs, each with its calls, and picks; the last program's calls lie apart -/
structure ScRows (B : Nat) (tp tc ti : TypeId) (w : World) (v v2 : Value) (s : Sc) (vs : List Value) : Prop where
  ps : w.ownsRow B tp 1 v s.ps.length vs
  pk : w.ownsRow B ti 1 v2 s.pk.length (i64s s.pk)
  row : ∀ (i : Nat) (h : i < s.ps.length), ∃ u, vs[i]? = some u ∧ w.ownsRow B tc 11 u s.ps[i].length (cls s.ps[i])
  apart : ∀ (i : Nat) u u', i + 1 < s.ps.length → vs[i]? = some u → vs[s.ps.length - 1]? = some u' → u.ownBlock = none ∨ u.ownBlock ≠ u'.ownBlock
theorem ScRows.vlen {B : Nat} {tp tc ti : TypeId} {w : World} {v v2 : Value} {s : Sc} {vs : List Value} (h : ScRows B tp tc ti w v v2 s vs) : vs.length = s.ps.length := by
  have := h.ps.1
  simpa using this
theorem ScRows.later {B : Nat} {tp tc ti : TypeId} {w w' : World} {v v2 : Value} {s : Sc} {vs : List Value} (h : ScRows B tp tc ti w v v2 s vs) (hb : Below w.heap.size w w') : ScRows B tp tc ti w' v v2 s vs :=
  ⟨own_later h.ps hb, own_later h.pk hb, fun i hi => by obtain ⟨u, h1, h2⟩ := h.row i hi; exact ⟨u, h1, own_later h2 hb⟩, h.apart⟩
/-- a store into a block of another type -/
theorem ScRows.set {B : Nat} {tp tc ti : TypeId} {w : World} {v v2 : Value} {s : Sc} {vs : List Value} (h : ScRows B tp tc ti w v v2 s vs) {rb : Nat} {t : TypeId} {cs : Array Value} (hb : Blk w rb t cs) (h1 : tp ≠ t) (h2 : tc ≠ t) (h3 : ti ≠ t) (i : Nat) (u : Value) :
    ScRows B tp tc ti (w.setCell ⟨rb, i, none⟩ u) v v2 s vs :=
  ⟨own_set (p := ⟨rb, i, none⟩) h.ps (own_ne h.ps hb h1) u, own_set (p := ⟨rb, i, none⟩) h.pk (own_ne h.pk hb h3) u, fun j hj => by
    obtain ⟨q, g1, g2⟩ := h.row j hj
    exact ⟨q, g1, own_set (p := ⟨rb, i, none⟩) g2 (own_ne g2 hb h2) u⟩, h.apart⟩
/-- one program more, with no calls -/
theorem ScRows.client {B : Nat} {tp tc ti : TypeId} {w w' : World} {v v' v2 : Value} {s : Sc} {vs : List Value} (h : ScRows B tp tc ti w v v2 s vs) (hg : w.grownBy w' v.ownBlock) (hm : w'.ownsRow B tp 1 v' (s.ps.length + 1) (vs ++ [.slice none 0 0])) (h1 : tc ≠ tp) (h2 : ti ≠ tp) :
    ScRows B tp tc ti w' v' v2 { s with ps := s.ps ++ [[]] } (vs ++ [.slice none 0 0]) := by
  have hl := h.vlen
  refine ⟨by simpa using hm, h.pk.kept hg (own_own_ne h.pk h.ps h2), fun i hi => ?_, fun i u u' hi hu hu' => ?_⟩
  · have hi2 : i < (s.ps ++ [[]]).length := hi
    rw [List.length_append, List.length_singleton] at hi2
    by_cases hlt : i < s.ps.length
    · obtain ⟨u, g1, g2⟩ := h.row i hlt
      refine ⟨u, by rw [List.getElem?_append_left (by omega)]; exact g1, ?_⟩
      have e : (s.ps ++ [[]])[i] = s.ps[i] := List.getElem_append_left hlt
      show w'.ownsRow B tc 11 u ((s.ps ++ [[]])[i]).length (cls ((s.ps ++ [[]])[i]))
      rw [e]
      exact g2.kept hg (own_own_ne g2 h.ps h1)
    · obtain rfl : i = s.ps.length := by omega
      refine ⟨.slice none 0 0, by rw [← hl]; simp, ?_⟩
      have e : (s.ps ++ [[]])[s.ps.length] = [] := by simp
      show w'.ownsRow B tc 11 (.slice none 0 0) ((s.ps ++ [[]])[s.ps.length]).length (cls ((s.ps ++ [[]])[s.ps.length]))
      rw [e]
      exact World.ownsRow_nil _ _ _ _
  · have e : (s.ps ++ [[]]).length - 1 = s.ps.length := by simp
    have hu2 : (vs ++ [Value.slice none 0 0])[(s.ps ++ [[]]).length - 1]? = some u' := hu'
    rw [e, ← hl] at hu2
    simp at hu2
    subst hu2
    cases hb : u.ownBlock
    · exact .inl rfl
    · exact .inr (by simp [Value.ownBlock])
theorem ScRows.picks {B : Nat} {tp tc ti : TypeId} {w : World} {v v2 v3 : Value} {s : Sc} {vs : List Value} (h : ScRows B tp tc ti w v v2 s vs) {l : List Int} (hm : w.ownsRow B ti 1 v3 l.length (i64s l)) : ScRows B tp tc ti w v v3 { s with pk := l } vs :=
  ⟨h.ps, hm, h.row, h.apart⟩
def rdArr (s : Sc) (v v2 : Value) (d : Nat) : Array Value := #[.int .i64 s.st, .int .i64 s.sa, .int .i64 s.lo, .int .i64 s.hi, v, .int .i64 s.wk, v2, .int .i64 d]
end Go.Fw
namespace Go.Proofs.YteljecehppeamaaGreatDoor
open Go.RowKit Go.Fw Go.Shelf
set_option maxHeartbeats 2000000
set_option maxRecDepth 100000
set_option linter.unusedVariables false
set_option linter.unusedSimpArgs false
abbrev ScR (B : Nat) (w : World) (v v2 : Value) (s : Sc) (vs : List Value) : Prop := ScRows B 46 50 3 w v v2 s vs
/-- the reader as it lies: what was read since world w0 -/
structure RdS (w0 w : World) (rb : Nat) (s : Sc) (d : Nat) : Prop where
  ex : ∃ v v2 vs, Blk w rb 74 (rdArr s v v2 d) ∧ ScR w0.heap.size w v v2 s vs
  rb : w0.heap.size ≤ rb
  below : Below w0.heap.size w0 w
theorem RdS.up {w0 w w' : World} {rb : Nat} {s : Sc} {d : Nat} (h : RdS w0 w rb s d) (hb : Below w.heap.size w w') : RdS w0 w' rb s d := by
  obtain ⟨v, v2, vs, h1, h2⟩ := h.ex
  exact ⟨⟨v, v2, vs, h1.later hb, h2.later hb⟩, h.rb, sub_trans h.below hb⟩
theorem scset {B : Nat} {w : World} {v v2 : Value} {s : Sc} {vs : List Value} {rb : Nat} {cs : Array Value} (h : Blk w rb 74 cs ∧ ScR B w v v2 s vs) (i : Nat) (u : Value) :
    Blk (w.setCell ⟨rb, i, none⟩ u) rb 74 (cs.setIfInBounds i u) ∧ ScR B (w.setCell ⟨rb, i, none⟩ u) v v2 s vs :=
  ⟨h.1.set_ i u, h.2.set h.1 (by decide) (by decide) (by decide) i u⟩
theorem elemProg : ElemS Tryz.prog 24 46 (.slice none 0 0) 1 24 := ⟨Tryz.underlying24, by kernel_rfl, rfl⟩
theorem elemCall : ElemS Tryz.prog 46 50 (.agg Cl.zero.arr) 11 96 := ⟨Tryz.underlying46, by kernel_rfl, rfl⟩
/-- numbers behind a word, known -/
theorem scnum_some (word s : ByteArray) (ns : List Int) (h : numR word s = some ns) (hs : s.size ≤ 100000) (hw : word.size ≤ 1000) (w : World) (hT : Tabs Tryz.prog w) : Calls Tryz.prog 49 #[.string s, .string word] w fun e w' => ∃ A c, e = .returned (.tuple #[.slice A ns.length c, .bool true]) ∧ MineS 1 w w' 3 (.slice A ns.length c) ns.length (i64s ns) := by
  refine (scnum_any word s hs hw w hT).mono ?_
  rintro e w' (⟨v, ns', rfl, h1, h2⟩ | ⟨rfl, h1, h2⟩)
  · rw [h] at h1
    injection h1 with h1
    subst h1
    obtain ⟨A, c, rfl, _, _⟩ := own_form h2.own
    exact ⟨A, c, rfl, h2⟩
  · rw [h] at h1
    cases h1
theorem scnum_none (word s : ByteArray) (h : numR word s = none) (hs : s.size ≤ 100000) (hw : word.size ≤ 1000) (w : World) (hT : Tabs Tryz.prog w) : Calls Tryz.prog 49 #[.string s, .string word] w fun e w' => e = .returned (.tuple #[.slice none 0 0, .bool false]) ∧ Below w.heap.size w w' := by
  refine (scnum_any word s hs hw w hT).mono ?_
  rintro e w' (⟨v, ns', rfl, h1, h2⟩ | ⟨rfl, h1, h2⟩)
  · rw [h] at h1
    cases h1
  · exact ⟨rfl, h2⟩
/-- read: the store's line -/
theorem read_store (w0 w : World) (rb : Nat) (s : Sc) (a b c d : Int) (h : RdS w0 w rb s 0) (hin : In64 a ∧ In64 b ∧ In64 c ∧ In64 d) (hT : Tabs Tryz.prog w) :
    Calls Tryz.prog 30 #[.pointer (some ⟨rb, 0, none⟩), .string ⟨(cfgN a b c d).toArray⟩] w fun x w' => x = .returned (.int .i64 0) ∧ RdS w0 w' rb { s with st := a, sa := b, lo := c, hi := d } 1 := by
  have h3 := num3_store hin
  have hsz : (⟨(cfgN a b c d).toArray⟩ : ByteArray).size ≤ 100000 := by show (cfgN a b c d).toArray.size ≤ _; have := cfgN_len hin; simp; omega
  have HS := Lib.hid (fun W hW => scnum_some storeB _ _ h3.s hsz (by decide) W hW)
  have HWK := Lib.hid (fun W hW => scnum_none workersB _ h3.w hsz (by decide) W hW)
  have HPK := Lib.hid (fun W hW => scnum_none picksB _ h3.p hsz (by decide) W hW)
  have HT := Lib.hid hT
  have HR := Lib.hid h
  unfold storeB at HS
  unfold workersB at HWK
  unfold picksB at HPK
  clear h3 hsz hT h hin
  generalize (⟨(cfgN a b c d).toArray⟩ : ByteArray) = l at *
  go_enter Tryz.func30, Tryz.ntmps30
  go_wp2_with fail
  refine (HS.out _ HT.out).mono ?_
  rintro e w1 ⟨A, k, rfl, hm⟩
  have HM := Lib.hid hm
  have HT1 := Lib.hid (HT.out.up hm.below)
  have HR1 := Lib.hid (HR.out.up hm.below)
  clear hm HR HT
  go_wp2_with fail
  refine (HWK.out _ HT1.out).mono ?_
  rintro e w2 ⟨rfl, hb2⟩
  have HT2 := Lib.hid (HT1.out.up hb2)
  have HR2 := Lib.hid (HR1.out.up hb2)
  have HM2 := Lib.hid (own_later HM.out.own hb2)
  clear hb2 HT1 HR1 HM
  go_wp2_with fail
  refine (HPK.out _ HT2.out).mono ?_
  rintro e w3 ⟨rfl, hb3⟩
  have HR3 := Lib.hid (HR2.out.up hb3)
  have HM3 := Lib.hid (own_later HM2.out hb3)
  clear hb3 HT2 HR2 HM2
  obtain ⟨v, v2, vs, hB, hV⟩ := HR3.out.ex
  have HB := Lib.hid hB
  have HV := Lib.hid hV
  unfold rdArr at hB
  have c7 := hB.cell 7
  simp only [List.getElem?_toArray, List.getElem?_cons_succ, List.getElem?_cons_zero] at c7
  clear hB hV
  obtain ⟨g, k', hve, _, _, _, m0, _, _⟩ := own_at HM3.out (b := 0) (by simp)
  injection hve with hA _ hk
  subst hA
  subst hk
  obtain ⟨_, _, hve, _, _, _, m1, _, _⟩ := own_at HM3.out (b := 1) (by simp)
  injection hve with hA _ _
  injection hA with hA
  injection hA with hA _ _
  subst hA
  obtain ⟨_, _, hve, _, _, _, m2, _, _⟩ := own_at HM3.out (b := 2) (by simp)
  injection hve with hA _ _
  injection hA with hA
  injection hA with hA _ _
  subst hA
  obtain ⟨_, _, hve, _, _, _, m3, _, _⟩ := own_at HM3.out (b := 3) (by simp)
  injection hve with hA _ _
  injection hA with hA
  injection hA with hA _ _
  subst hA
  simp only [i64s, List.map_cons, List.map_nil, List.getElem?_cons_succ, List.getElem?_cons_zero] at m0 m1 m2 m3
  go_wp2
  refine still_start 17 (by kernel_rfl) (by kernel_rfl) ?_
  simp only [List.take_succ_cons, List.take_zero, List.drop_succ_cons, List.drop_zero]
  repeat still_step
  refine wpStill_nil ?_
  have hd : Below w3.heap.size w3 w3.drew := (Below.refl _ _).drew
  have HB4 := Lib.hid (HB.out.later hd)
  have HV4 := Lib.hid (HV.out.later hd)
  have HW4 := Lib.hid (And.intro HR3.out.rb (sub_trans HR3.out.below hd))
  clear c7 m0 m1 m2 m3 HB HV HR3 HM3 hd
  generalize w3.drew = WD at *
  have hB := HB4.out
  unfold rdArr at hB
  have c0 := hB.cell 0
  have c1 := hB.cell 1
  have c2 := hB.cell 2
  have c3 := hB.cell 3
  have c7 := hB.cell 7
  have f0 := hB.frozen
  simp only [List.getElem?_toArray, List.getElem?_cons_succ, List.getElem?_cons_zero] at c0 c1 c2 c3 c7
  clear hB
  go_wp2
  go_ret
  refine ⟨rfl, ?_⟩
  obtain ⟨g1, g2⟩ := scset (scset (scset (scset (scset (And.intro HB4.out HV4.out) 0 (.int .i64 a)) 1 (.int .i64 b)) 2 (.int .i64 c)) 3 (.int .i64 d)) 7 (.int .i64 1)
  refine ⟨⟨v, v2, vs, by simpa [rdArr] using g1, ⟨g2.ps, g2.pk, g2.row, g2.apart⟩⟩, HW4.out.1, ?_⟩
  exact ((((HW4.out.2.setCell (p := ⟨rb, 0, none⟩) HW4.out.1 _).setCell (p := ⟨rb, 1, none⟩) HW4.out.1 _).setCell (p := ⟨rb, 2, none⟩) HW4.out.1 _).setCell (p := ⟨rb, 3, none⟩) HW4.out.1 _).setCell (p := ⟨rb, 7, none⟩) HW4.out.1 _
/-- read: a line that says 'client' -/
theorem read_client (w0 w : World) (rb : Nat) (s : Sc) (h : RdS w0 w rb s 1) (hT : Tabs Tryz.prog w) (hn : s.ps.length ≤ 100000) :
    Calls Tryz.prog 30 #[.pointer (some ⟨rb, 0, none⟩), .string ⟨clientS.toArray⟩] w fun x w' => x = .returned (.int .i64 0) ∧ RdS w0 w' rb { s with ps := s.ps ++ [[]] } 1 := by
  have h3 := num3_client
  have HS := Lib.hid (fun W hW => scnum_none storeB _ h3.s (by decide) (by decide) W hW)
  have HWK := Lib.hid (fun W hW => scnum_none workersB _ h3.w (by decide) (by decide) W hW)
  have HPK := Lib.hid (fun W hW => scnum_none picksB _ h3.p (by decide) (by decide) W hW)
  have HT := Lib.hid hT
  have HR := Lib.hid h
  unfold storeB at HS
  unfold workersB at HWK
  unfold picksB at HPK
  clear h3 hT h
  unfold clientS at *
  go_enter Tryz.func30, Tryz.ntmps30
  go_wp2_with fail
  refine (HS.out _ HT.out).mono ?_
  rintro e w1 ⟨rfl, hb⟩
  have HT1 := Lib.hid (HT.out.up hb)
  have HR1 := Lib.hid (HR.out.up hb)
  clear hb HR HT
  go_wp2_with fail
  refine (HWK.out _ HT1.out).mono ?_
  rintro e w2 ⟨rfl, hb2⟩
  have HT2 := Lib.hid (HT1.out.up hb2)
  have HR2 := Lib.hid (HR1.out.up hb2)
  clear hb2 HT1 HR1
  go_wp2_with fail
  refine (HPK.out _ HT2.out).mono ?_
  rintro e w3 ⟨rfl, hb3⟩
  have HR3 := Lib.hid (HR2.out.up hb3)
  clear hb3 HT2 HR2
  obtain ⟨v, v2, vs, hB, hV⟩ := HR3.out.ex
  obtain ⟨A, k, rfl, _, _⟩ := own_form hV.ps
  have HB := Lib.hid hB
  have HV := Lib.hid hV
  unfold rdArr at hB
  have c7 := hB.cell 7
  have c4 := hB.cell 4
  simp only [List.getElem?_toArray, List.getElem?_cons_succ, List.getElem?_cons_zero] at c7 c4
  have hlow : w0.heap.size ≤ w3.heap.size := HR3.out.below.size
  clear hB hV
  go_wp2_with (at_builtin; go_must (refine wpList_append_oneN (w := w3) (n := s.ps.length) (xs := vs) elemProg (by decide) rfl _ _ rfl rfl HV.out.ps hlow rfl rfl rfl (by simp [Value.oneCell']) (by omega) (by unfold maxLen; omega) ?_); intro v' w4 hm4 hg4 hv4; refine Hid.out ?_)
  refine Lib.hid ?_
  have hne := own_ne HV.out.ps HB.out (by decide)
  have HB4 := Lib.hid (HB.out.grown hg4 (fun e => hne e.symm))
  have HV4 := Lib.hid (HV.out.client hg4 hm4 (by decide) (by decide))
  have HW4 := Lib.hid (And.intro HR3.out.rb (HR3.out.below.grown hg4 hlow fun g e => (HV.out.ps.lt g e).1))
  obtain ⟨A4, k4, rfl, _, _⟩ := own_form hm4
  clear hm4 hg4 hv4 c7 c4 HB HV HR3
  have hB := HB4.out
  unfold rdArr at hB
  have c4 := hB.cell 4
  have f4 := hB.frozen
  simp only [List.getElem?_toArray, List.getElem?_cons_succ, List.getElem?_cons_zero] at c4
  clear hB
  go_wp2
  go_ret
  refine ⟨rfl, ?_⟩
  obtain ⟨g1, g2⟩ := scset (And.intro HB4.out HV4.out) 4 (.slice A4 (s.ps.length + 1) k4)
  exact ⟨⟨_, v2, _, by simpa [rdArr] using g1, g2⟩, HW4.out.1, HW4.out.2.setCell (p := ⟨rb, 4, none⟩) HW4.out.1 _⟩
/-- read: the line of the workers -/
theorem read_workers (w0 w : World) (rb : Nat) (s : Sc) (a : Int) (h : RdS w0 w rb s 1) (hin : In64 a) (hT : Tabs Tryz.prog w) :
    Calls Tryz.prog 30 #[.pointer (some ⟨rb, 0, none⟩), .string ⟨(wkN a).toArray⟩] w fun x w' => x = .returned (.int .i64 0) ∧ RdS w0 w' rb { s with wk := a } 2 := by
  have h3 := num3_workers hin
  have hsz : (⟨(wkN a).toArray⟩ : ByteArray).size ≤ 100000 := by show (wkN a).toArray.size ≤ _; have h1 := itoa_l hin; have e : workersS.length = 7 := rfl; simp [wkN]; omega
  have hne : ((⟨(wkN a).toArray⟩ : ByteArray).toList == [99, 108, 105, 101, 110, 116]) = false := by
    rw [ByteArray.toList_eq]
    simp [wkN, workersS]
  have HS := Lib.hid (fun W hW => scnum_none storeB _ h3.s hsz (by decide) W hW)
  have HWK := Lib.hid (fun W hW => scnum_some workersB _ _ h3.w hsz (by decide) W hW)
  have HPK := Lib.hid (fun W hW => scnum_none picksB _ h3.p hsz (by decide) W hW)
  have HT := Lib.hid hT
  have HR := Lib.hid h
  unfold storeB at HS
  unfold workersB at HWK
  unfold picksB at HPK
  clear h3 hsz hT h hin
  generalize (⟨(wkN a).toArray⟩ : ByteArray) = l at *
  go_enter Tryz.func30, Tryz.ntmps30
  go_wp2_with fail
  refine (HS.out _ HT.out).mono ?_
  rintro e w1 ⟨rfl, hb⟩
  have HT1 := Lib.hid (HT.out.up hb)
  have HR1 := Lib.hid (HR.out.up hb)
  clear hb HR HT
  go_wp2_with fail
  refine (HWK.out _ HT1.out).mono ?_
  rintro e w2 ⟨A, k, rfl, hm⟩
  have HT2 := Lib.hid (HT1.out.up hm.below)
  have HR2 := Lib.hid (HR1.out.up hm.below)
  have HM2 := Lib.hid hm.own
  clear hm HT1 HR1
  go_wp2_with fail
  refine (HPK.out _ HT2.out).mono ?_
  rintro e w3 ⟨rfl, hb3⟩
  have HR3 := Lib.hid (HR2.out.up hb3)
  have HM3 := Lib.hid (own_later HM2.out hb3)
  clear hb3 HT2 HR2 HM2
  obtain ⟨v, v2, vs, hB, hV⟩ := HR3.out.ex
  have HB := Lib.hid hB
  have HV := Lib.hid hV
  unfold rdArr at hB
  have c5 := hB.cell 5
  have c7 := hB.cell 7
  have f5 := hB.frozen
  simp only [List.getElem?_toArray, List.getElem?_cons_succ, List.getElem?_cons_zero] at c7 c5
  clear hB hV
  obtain ⟨g, k', hve, _, _, _, m0, _, _⟩ := own_at HM3.out (b := 0) (by simp)
  injection hve with hA _ hk
  subst hA
  subst hk
  simp only [i64s, List.map_cons, List.map_nil, List.getElem?_cons_succ, List.getElem?_cons_zero] at m0
  clear HM3
  go_wp2
  go_ret
  refine ⟨rfl, ?_⟩
  obtain ⟨g1, g2⟩ := scset (scset (And.intro HB.out HV.out) 5 (.int .i64 a)) 7 (.int .i64 2)
  refine ⟨⟨v, v2, vs, by simpa [rdArr] using g1, ⟨g2.ps, g2.pk, g2.row, g2.apart⟩⟩, HR3.out.rb, ?_⟩
  exact (HR3.out.below.setCell (p := ⟨rb, 5, none⟩) HR3.out.rb _).setCell (p := ⟨rb, 7, none⟩) HR3.out.rb _
/-- read: the line of the picks -/
theorem read_picks (w0 w : World) (rb : Nat) (s : Sc) (ns : List Int) (h : RdS w0 w rb s 2) (h0 : ns ≠ []) (hin : ∀ x ∈ ns, In64 x) (hsz : (pkN ns).length ≤ 100000) (hT : Tabs Tryz.prog w) :
    Calls Tryz.prog 30 #[.pointer (some ⟨rb, 0, none⟩), .string ⟨(pkN ns).toArray⟩] w fun x w' => x = .returned (.int .i64 0) ∧ RdS w0 w' rb { s with pk := ns } 3 := by
  have h3 := num3_picks h0 hin
  have hsz : (⟨(pkN ns).toArray⟩ : ByteArray).size ≤ 100000 := by show (pkN ns).toArray.size ≤ _; simpa using hsz
  have HS := Lib.hid (fun W hW => scnum_none storeB _ h3.s hsz (by decide) W hW)
  have HWK := Lib.hid (fun W hW => scnum_none workersB _ h3.w hsz (by decide) W hW)
  have HPK := Lib.hid (fun W hW => scnum_some picksB _ _ h3.p hsz (by decide) W hW)
  have HT := Lib.hid hT
  have HR := Lib.hid h
  unfold storeB at HS
  unfold workersB at HWK
  unfold picksB at HPK
  clear h3 hsz hT h hin h0
  generalize (⟨(pkN ns).toArray⟩ : ByteArray) = l at *
  go_enter Tryz.func30, Tryz.ntmps30
  go_wp2_with fail
  refine (HS.out _ HT.out).mono ?_
  rintro e w1 ⟨rfl, hb⟩
  have HT1 := Lib.hid (HT.out.up hb)
  have HR1 := Lib.hid (HR.out.up hb)
  clear hb HR HT
  go_wp2_with fail
  refine (HWK.out _ HT1.out).mono ?_
  rintro e w2 ⟨rfl, hb2⟩
  have HT2 := Lib.hid (HT1.out.up hb2)
  have HR2 := Lib.hid (HR1.out.up hb2)
  clear hb2 HT1 HR1
  go_wp2_with fail
  refine (HPK.out _ HT2.out).mono ?_
  rintro e w3 ⟨A, k, rfl, hm⟩
  have HR3 := Lib.hid (HR2.out.up hm.below)
  have HM3 := Lib.hid (own_lower hm.own HR2.out.below.size)
  clear hm HT2 HR2
  obtain ⟨v, v2, vs, hB, hV⟩ := HR3.out.ex
  have HB := Lib.hid hB
  have HV := Lib.hid (hV.picks HM3.out)
  unfold rdArr at hB
  have c6 := hB.cell 6
  have c7 := hB.cell 7
  have f6 := hB.frozen
  simp only [List.getElem?_toArray, List.getElem?_cons_succ, List.getElem?_cons_zero] at c7 c6
  clear hB hV HM3
  generalize ns.length = nl at *
  go_wp2
  go_ret
  refine ⟨rfl, ?_⟩
  obtain ⟨g1, g2⟩ := scset (scset (And.intro HB.out HV.out) 6 (.slice A nl k)) 7 (.int .i64 3)
  refine ⟨⟨v, _, vs, by simpa [rdArr] using g1, ⟨g2.ps, g2.pk, g2.row, g2.apart⟩⟩, HR3.out.rb, ?_⟩
  exact (HR3.out.below.setCell (p := ⟨rb, 6, none⟩) HR3.out.rb _).setCell (p := ⟨rb, 7, none⟩) HR3.out.rb _
end Go.Proofs.YteljecehppeamaaGreatDoor
