/-
  Queues of numbers, walked: Len, Put, turn, Get. Condition: none.
-/
import Derived.Test.YtnikpgngaoaiiaaFifo
import Derived.Shelf.SlicesG.Cells
namespace Go.Proofs
open Go.Shelf
def Try.lrev_ren : Go.Shelf.Ren := ⟨fun | 35 => 35 | n => n, fun | 22 => 24 | 23 => 3 | 3 => 3 | 4 => 4 | 0 => 0 | n => n, fun | n => n⟩
theorem Try.lrev : Go.Proofs.SlLaysN.n35 Try.prog Try.lrev_ren := {
  mixed := by kernel_rfl
  f35 := ⟨Try.f35.name, by decide, Try.func35.trans (congrArg some (by kernel_rfl))⟩
  t0 := Try.underlying0
  a0 := Try.isAgg0
  z0 := Try.sizeOf0
  v0 := Try.zeroValue0
  t3 := Try.underlying3
  a3 := Try.isAgg3
  z3 := Try.sizeOf3
  v3 := Try.zeroValue3
  t4 := Try.underlying4
  a4 := Try.isAgg4
  z4 := Try.sizeOf4
  v4 := Try.zeroValue4
  t22 := Try.underlying24
  a22 := Try.isAgg24
  z22 := Try.sizeOf24
  v22 := Try.zeroValue24
  t23 := Try.underlying3
  a23 := Try.isAgg3
  z23 := Try.sizeOf3
  v23 := Try.zeroValue3 }
end Go.Proofs
namespace Go.Proofs.Ytnikpgngaoaiiaa
open Go.RowKit Go.Fw Go.Shelf
set_option maxHeartbeats 1000000
set_option maxRecDepth 4000
set_option linter.unusedVariables false
set_option linter.unusedSimpArgs false
theorem elemIntQ : ElemS Try.prog 24 3 (.int .i64 0) 1 8 := ⟨Try.underlying24, by kernel_rfl, rfl⟩
abbrev QI (w : World) (p B : Nat) (vf vb : Value) (f b : List Int) : Prop := QAt i64s 26 3 w p B vf vb f b
abbrev QIHas (w : World) (p B : Nat) (S : Nat → Prop) (L : List Int) : Prop := QHas i64s 26 3 w p B S L
abbrev QINew (w w' : World) (p B : Nat) (S : Nat → Prop) (L : List Int) : Prop := QNew i64s 26 3 w w' p B S L
theorem qilen_nil (w : World) : Calls Try.prog 11 #[.pointer none] w fun e w' => e = .returned (.int .i64 0) ∧ w = w' := by
  go_enter Try.func11, Try.ntmps11
  go_wp2
  go_ret
  exact ⟨rfl, rfl⟩
theorem qilen_any (p B : Nat) (S : Nat → Prop) (L : List Int) (w : World) (h : QIHas w p B S L) (hl : L.length ≤ 100000) : Calls Try.prog 11 #[.pointer (some ⟨p, 0, none⟩)] w fun e w' => e = .returned (.int .i64 (L.length : Int)) ∧ w.drew = w' := by
  obtain ⟨vf, vb, f, b, hq, rfl, rfl⟩ := h
  have c0 := hq.c0
  have c1 := hq.c1
  obtain ⟨Af, cf, rfl, _, _⟩ := own_form hq.front
  obtain ⟨Ab, cb, rfl, _, _⟩ := own_form hq.back
  have HQ := Lib.hid hq
  have hs : IntKind.i64.wrap ((f.length : Int) + (b.length : Int)) = (((f.reverse ++ b).length : Nat) : Int) := by
    simp at hl ⊢
    rw [IntWalk.i64_in _ ⟨by omega, by omega⟩]
  have HS := Lib.hid hs
  clear hq hl hs
  go_enter Try.func11, Try.ntmps11
  go_wp2
  refine still_all (by kernel_rfl) (by kernel_rfl) ?_
  repeat still_step
  refine wpStill_nil ?_
  go_wp2
  go_ret
  exact ⟨by rw [HS.out]; rfl, rfl⟩
theorem qiput_nil (x : Int) (w : World) : Calls Try.prog 9 #[.pointer none, .int .i64 x] w fun e w' => e = .returned (.bool false) ∧ w = w' := by
  go_enter Try.func9, Try.ntmps9
  go_wp2
  go_ret
  exact ⟨rfl, rfl⟩
theorem qiput_any (p B : Nat) (S : Nat → Prop) (L : List Int) (x : Int) (w : World) (h : QIHas w p B S L) (hB : B ≤ w.heap.size) (hl : L.length ≤ 100000) :
    Calls Try.prog 9 #[.pointer (some ⟨p, 0, none⟩), .int .i64 x] w fun e w' => e = .returned (.bool true) ∧ QINew w w' p B S (L ++ [x]) := by
  obtain ⟨vf, vb, f, b, hq, rfl, rfl⟩ := h
  have c1 := hq.c1
  have f1 := hq.blk.frozen 1
  have hbl : b.length ≤ 100000 := by simp at hl; omega
  have hown := hq.back
  have hnp := own_ne hq.back hq.blk (by decide)
  obtain ⟨Ab, cb, rfl, _, _⟩ := own_form hq.back
  have HQ := Lib.hid hq
  clear hq hl
  go_enter Try.func9, Try.ntmps9
  go_wp2_with (at_builtin; go_must (refine wpList_append_oneN (w := w) (n := b.length) (xs := i64s b) elemIntQ (by decide) rfl (.tmp 11) (.tmp 13) rfl rfl hown hB rfl rfl rfl (by simp [Value.oneCell']) (by omega) (by unfold maxLen; omega) ?_); intro v' w' hm' hg' hvb; obtain ⟨A3, k3, rfl, _, _⟩ := own_form hm'; have hb3 : Blk w' p 26 _ := HQ.out.blk.grown hg' (Ne.symm hnp); have q0 := hb3.cell 1; have q1 := hb3.frozen 1; simp at q0)
  go_ret
  have hK : Keep (QBl p vf (Value.slice Ab b.length cb)) w w' := grownK (w1 := w) (Keep.refl (fun _ => False) w) hg' (fun _ h => h.elim) fun k e => .inr (.inr e)
  have hnp3 := own_ne hm' hb3 (by decide)
  have hf3 : w'.ownsRow B 3 1 vf f.length (i64s f) := own_turn HQ.out.front fun k e => hg'.block k (HQ.out.lt k (.inr (.inl e))) (fun e2 => HQ.out.apart k e e2.symm)
  have hnf3 := own_ne hf3 hb3 (by decide)
  refine ⟨rfl, _, ⟨vf, .slice A3 (b.length + 1) k3, f, b ++ [x], ⟨by simpa using hb3.set_ 1 (.slice A3 (b.length + 1) k3), own_set (p := ⟨p, 1, none⟩) hf3 hnf3 _, ?_, ?_⟩, by simp, rfl⟩, hK.setCell (p := ⟨p, 1, none⟩) (.inl (.inl rfl)) _, ?_⟩
  · have ho4 := own_set (p := ⟨p, 1, none⟩) hm' hnp3 (.slice A3 (b.length + 1) k3)
    simpa [i64s] using ho4
  · intro k e e2
    rcases hvb with h1 | h1
    · exact HQ.out.apart k e (h1.symm.trans e2)
    · have := h1 k e2; have := HQ.out.lt k (.inr (.inl e)); omega
  · rintro k (rfl | e | e)
    · exact .inl (.inl rfl)
    · exact .inl (.inr (.inl e))
    · rcases hvb with h1 | h1
      · exact .inl (.inr (.inr (h1.symm.trans e)))
      · exact .inr (h1 k e)
theorem keep_setCells {L : Nat → Prop} {w : World} {g : Nat} (hg : L g) (q : Nat) (vs : List Value) : Keep L w ((w.drewN q).setCells g 0 vs) := by
  obtain ⟨h1, h2, h3, h4⟩ := size_setCells (g := g) vs (w.drewN q) 0
  exact ⟨h2, h3, h4, Nat.le_of_eq h1.symm, fun k hk hn => heap_setCells (fun e => hn (by rw [e]; exact hg)) vs (w.drewN q) 0⟩
theorem i64s_getD {l : List Int} {j : Nat} (h : j < l.length) : (i64s l)[j]? = some (.int .i64 (l.getD j 0)) := by simp [i64s, h]
theorem irev_any (B : Nat) (v : Value) (xs : List Int) (w : World) (h : w.ownsRow B 3 1 v xs.length (i64s xs)) (hn : xs.length ≤ 100000) :
    Calls Try.prog 35 #[v] w fun e w' => e = .returned (.tuple #[]) ∧ w'.ownsRow B 3 1 v xs.length (i64s xs.reverse) ∧ Keep (fun k => v.ownBlock = some k) w w' := by
  rcases Nat.eq_zero_or_pos xs.length with h0 | h0
  · obtain ⟨A, c, rfl, _, _⟩ := own_form h
    have hx : xs = [] := List.eq_nil_of_length_eq_zero h0
    subst hx
    have hcon := AnyG.slices_Reverse_int_empty Try.lrev A c w
    change Calls Try.prog 35 _ _ _ at hcon
    refine hcon.mono ?_
    rintro e w' ⟨rfl, rfl⟩
    exact ⟨rfl, h, Keep.refl _ _⟩
  · have hat := fun j (hj : j < xs.length) => own_at h hj
    obtain ⟨g, c, rfl, hB, hg, hnc, _⟩ := hat 0 h0
    have hcon := AnyG.slices_Reverse_int_cells Try.lrev g 0 xs.length c xs w (Nat.le_refl _) (by omega)
      (fun j hj => by
        obtain ⟨g', c', e1, _, _, _, e5, _⟩ := hat j hj
        injection e1 with e1
        injection e1 with e1
        injection e1 with e1
        subst e1
        rw [Nat.zero_add, e5, i64s_getD hj])
      (fun j hj => by
        obtain ⟨g', c', e1, _, _, _, _, e6, _⟩ := hat j hj
        injection e1 with e1
        injection e1 with e1
        injection e1 with e1
        subst e1
        rw [Nat.zero_add]
        exact e6)
    change Calls Try.prog 35 _ _ _ at hcon
    refine hcon.mono ?_
    rintro e w' ⟨rfl, q, rfl⟩
    rw [List.take_of_length_le (Nat.le_refl _)]
    refine ⟨rfl, ?_, keep_setCells (by rfl) q _⟩
    have h2 : (w.drewN q).ownsRow B 3 1 (.slice (some ⟨g, 0, none⟩) xs.length c) xs.length (i64s xs) := h
    have h3 := own_over h2 (m := xs.length) (vs := (xs.reverse.map (Value.int .i64))) (by simp) (Nat.le_refl _)
    rw [List.take_of_length_le (by simp)] at h3
    exact h3
theorem qiturn_any (p B : Nat) (vf vb : Value) (f b : List Int) (w : World) (h : QI w p B vf vb f b) (hl : f.length + b.length ≤ 100000) :
    Calls Try.prog 23 #[.pointer (some ⟨p, 0, none⟩)] w fun e w' => (∃ v, e = .returned v) ∧ ∃ vf' vb' f' b', QI w' p B vf' vb' f' b' ∧ f'.reverse ++ b' = f.reverse ++ b ∧ (f' = [] → f = [] ∧ b = []) ∧ Keep (QBl p vf vb) w w' ∧ ∀ k, QBl p vf' vb' k → QBl p vf vb k := by
  have c0 := h.c0
  have c1 := h.c1
  have f0 := h.blk.frozen 0
  have f1 := h.blk.frozen 1
  obtain ⟨Af, cf, rfl, _, _⟩ := own_form h.front
  obtain ⟨Ab, cb, hvb, _, _⟩ := own_form h.back
  subst hvb
  have HQ := Lib.hid h
  by_cases hf : f.length = 0
  · have hfn : f = [] := List.eq_nil_of_length_eq_zero hf
    subst hfn
    have hnb := own_ne h.back h.blk (by decide)
    have hb1 := (h.blk.set_ 0 (.slice Ab b.length cb)).set_ 1 (.slice none 0 0)
    have ho1 := own_set (p := ⟨p, 1, none⟩) (own_set (p := ⟨p, 0, none⟩) h.back hnb (.slice Ab b.length cb)) hnb (.slice none 0 0)
    have hk1 : Keep (QBl p (.slice Af 0 cf) (.slice Ab b.length cb)) w ((w.setCell ⟨p, 0, none⟩ (.slice Ab b.length cb)).setCell ⟨p, 1, none⟩ (.slice none 0 0)) := ((Keep.refl _ w).setCell (p := ⟨p, 0, none⟩) (.inl (.inl rfl)) _).setCell (p := ⟨p, 1, none⟩) (.inl (.inl rfl)) _
    have hrev := irev_any B (.slice Ab b.length cb) b _ ho1 (by simp at hl; omega)
    have HB := Lib.hid (And.intro hb1 (And.intro hk1 hrev))
    have HNB := Lib.hid hnb
    clear hb1 ho1 hk1 hrev h hnb
    go_enter Try.func23, Try.ntmps23
    go_wp2_with fail
    refine HB.out.2.2.mono ?_
    rintro e w' ⟨rfl, h1, h2⟩
    have H1 := Lib.hid (And.intro h1 h2)
    clear h1 h2
    go_wp2
    go_end0
    refine ⟨⟨_, rfl⟩, .slice Ab b.length cb, .slice none 0 0, b.reverse, [], ⟨?_, by simpa using H1.out.1, World.ownsRow_nil _ _ _ _, fun k _ e => by simp [Value.ownBlock] at e⟩, by simp, fun e => by simp at e; simp [e], HB.out.2.1.trans (H1.out.2.more2 fun k e => .inr (.inr e)), ?_⟩
    · have := H1.out.2.blk HB.out.1 (fun e => HNB.out e)
      simpa using this
    · rintro k (rfl | e | e)
      · exact .inl rfl
      · exact .inr (.inr e)
      · simp [Value.ownBlock] at e
  · have hf0 : ((f.length : Int) == 0) = false := by rw [beq_eq_false_iff_ne]; omega
    have hf1 : ¬ f.length = 0 := hf
    clear h hf
    go_enter Try.func23, Try.ntmps23
    go_wp2
    go_end0
    exact ⟨⟨_, rfl⟩, _, _, f, b, HQ.out, rfl, fun e => (hf1 (by rw [e]; rfl)).elim, Keep.refl _ _, fun k e => e⟩
theorem qiget_nil (w : World) : Calls Try.prog 6 #[.pointer none] w fun e w' => e = .returned (.tuple #[.int .i64 0, .bool false]) ∧ w = w' := by
  go_enter Try.func6, Try.ntmps6
  go_wp2_with fail
  refine (qilen_nil _).mono ?_
  rintro e w' ⟨rfl, rfl⟩
  go_wp2
  go_ret2
  exact ⟨rfl, rfl⟩
theorem qiget_empty (p B : Nat) (S : Nat → Prop) (w : World) (h : QIHas w p B S []) : Calls Try.prog 6 #[.pointer (some ⟨p, 0, none⟩)] w fun e w' => e = .returned (.tuple #[.int .i64 0, .bool false]) ∧ w.drew = w' := by
  go_enter Try.func6, Try.ntmps6
  go_wp2_with fail
  refine (qilen_any p B S [] _ h (by simp)).mono ?_
  rintro e w' ⟨rfl, rfl⟩
  go_wp2
  go_ret2
  exact ⟨rfl, rfl⟩
theorem qiget_any (p B : Nat) (S : Nat → Prop) (x : Int) (L : List Int) (w : World) (h : QIHas w p B S (x :: L)) (hl : (x :: L).length ≤ 100000) :
    Calls Try.prog 6 #[.pointer (some ⟨p, 0, none⟩)] w fun e w' => e = .returned (.tuple #[.int .i64 x, .bool true]) ∧ QINew w w' p B S L := by
  have hz : ((((x :: L).length : Nat) : Int) == 0) = false := by rw [beq_eq_false_iff_ne]; simp; omega
  generalize hlen : (x :: L).length = n at hz
  have HLEN := Lib.hid hlen
  have HLL := Lib.hid hl
  have HH := Lib.hid h
  clear hlen hl h
  go_enter Try.func6, Try.ntmps6
  go_wp2_with fail
  refine (qilen_any p B S (x :: L) _ HH.out HLL.out).mono ?_
  rintro e w' ⟨rfl, rfl⟩
  rw [HLEN.out]
  obtain ⟨vf, vb, f, b, hq, he, rfl⟩ := HH.out
  have hq1 : QI w.drew p B vf vb f b := ⟨hq.blk, hq.front, hq.back, hq.apart⟩
  have hfb : f.length + b.length ≤ 100000 := by have := congrArg List.length he; have := HLL.out; simp at *; omega
  have HE := Lib.hid he
  clear HH hq he
  go_wp2_with fail
  refine (qiturn_any p B vf vb f b _ hq1 hfb).mono ?_
  rintro e w1 ⟨⟨v1, rfl⟩, vf', vb', f', b', hq', he', hn', hk', hs'⟩
  have hne : f' ≠ [] := fun e => by
    obtain ⟨rfl, rfl⟩ := hn' e
    have := HE.out
    simp at this
  have hpos : 0 < f'.length := List.length_pos_iff.2 hne
  obtain ⟨m, hm⟩ : ∃ m, f'.length = m + 1 := ⟨f'.length - 1, by omega⟩
  have hml : m < f'.length := by omega
  have hmx : m ≤ 100000 := by have := congrArg List.length he'; simp at this; omega
  have hfm : f' = f'.take m ++ [f'[m]] := by
    conv => lhs; rw [← List.take_append_drop m f', List.drop_eq_getElem_cons hml, List.drop_eq_nil_of_le (by omega)]
  have hxl : x :: L = f'[m] :: ((f'.take m).reverse ++ b') := by
    have hrv : f'.reverse = f'[m] :: (f'.take m).reverse := by
      conv => lhs; rw [hfm]
      rw [List.reverse_append]
      rfl
    rw [HE.out, ← he', hrv]
    rfl
  injection hxl with hx1 hx2
  obtain ⟨g, c, rfl, hgB, hgs, hnc, hcell, _, _⟩ := own_at hq'.front hml
  have hc2 : w1.cell? ⟨g, m, none⟩ = some (.int .i64 x) := by rw [hcell, hx1]; simp [i64s, hml]
  have hsh := own_short (m := m) hq'.front (by omega)
  have hcs : (i64s f').take m = i64s (f'.take m) := by simp [i64s, List.map_take]
  rw [hcs] at hsh
  have c0 := hq'.c0
  have f0 := hq'.blk.frozen 0
  have hnb := own_ne hq'.back hq'.blk (by decide)
  have hnf := own_ne hq'.front hq'.blk (by decide)
  have hback := hq'.back
  rw [hm] at c0 hnc hml
  have HF := Lib.hid (And.intro hk' (And.intro hs' (And.intro hx2 (And.intro hsh (And.intro hq'.blk (And.intro hback hq'.apart))))))
  have HNN := Lib.hid (And.intro hnb hnf)
  have hw1 : IntKind.i64.wrap (((m + 1 : Nat) : Int) - 1) = (m : Int) := by rw [IntWalk.i64_in _ ⟨by omega, by omega⟩]; omega
  have hw2 : IntKind.i64.wrap (m : Int) = (m : Int) := IntWalk.i64_in _ ⟨by omega, by omega⟩
  have hlt1 : (m : Int) < (m : Int) + 1 := by omega
  have hle1 : (m : Int) ≤ (c : Int) := by omega
  clear hk' hs' hx1 hx2 hsh hq' hback hnb hnf hcell hcs hfm he' hn' hne hpos hm hq1 HE HLL HLEN hfb hgB hgs
  have hml2 : (f'.take m).length = m := by simp; omega
  have HML := Lib.hid hml2
  clear hml2
  go_wp2
  refine still_all (by kernel_rfl) (by kernel_rfl) ?_
  repeat still_step
  refine wpStill_nil ?_
  go_wp2
  refine still_start 12 (by kernel_rfl) (by kernel_rfl) ?_
  simp only [List.take_succ_cons, List.take_zero, List.drop_succ_cons, List.drop_zero]
  repeat still_step
  refine wpStill_nil ?_
  go_wp2
  go_ret2
  obtain ⟨hk', hs', hx2, hsh, hbk, hback, hap⟩ := HF.out
  have hbk2 : Blk (w1.drew.drew.setCell ⟨p, 0, none⟩ (.slice (some ⟨g, 0, none⟩) m c)) p 26 #[.slice (some ⟨g, 0, none⟩) m c, vb'] := by
    have h9 := (hbk.drew.drew).set_ 0 (.slice (some ⟨g, 0, none⟩) m c)
    simpa using h9
  have hsh2 : w1.drew.drew.ownsRow B 3 1 (.slice (some ⟨g, 0, none⟩) m c) m (i64s (f'.take m)) := hsh
  have hbk3 : w1.drew.drew.ownsRow B 3 1 vb' b'.length (i64s b') := hback
  refine ⟨rfl, _, ⟨_, vb', f'.take m, b', ⟨hbk2, ?_, own_set (p := ⟨p, 0, none⟩) hbk3 HNN.out.1 _, fun k e => hap k e⟩, hx2, rfl⟩, ?_, ?_⟩
  · rw [HML.out]
    exact own_set (p := ⟨p, 0, none⟩) hsh2 (fun e => HNN.out.2 e) _
  · have hk2 : Keep (QBl p vf vb) w w1 := ⟨hk'.os, hk'.tape, hk'.output, hk'.size, hk'.block⟩
    exact hk2.drew.drew.setCell (p := ⟨p, 0, none⟩) (.inl (.inl rfl)) _
  · rintro k hk
    exact .inl (hs' k hk)
end Go.Proofs.Ytnikpgngaoaiiaa
