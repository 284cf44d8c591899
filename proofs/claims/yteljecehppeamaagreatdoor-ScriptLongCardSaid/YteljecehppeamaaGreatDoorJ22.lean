/-
  2 texts of this claim, joined; each says itself what it proves. Condition: as each text says.
-/
import Derived.Test.YteljecehppeamaaGreatDoorJ21
/-
  The reference's Bare of a script, walked (chapter 42). Condition: none.
-/
namespace Go.Fw
open Go.RowKit
set_option linter.unusedVariables false
set_option linter.unusedSimpArgs false
/-- the rows of programs that are being made, and of the one at work, apart from them -/
structure BaRows (B : Nat) (tp tc : TypeId) (w : World) (v vp : Value) (ps : List (List Cl)) (p : List Cl) (vs : List Value) : Prop where
  psr : w.ownsRow B tp 1 v ps.length vs
  row : ∀ (i : Nat) (h : i < ps.length), ∃ u, vs[i]? = some u ∧ w.ownsRow B tc 11 u ps[i].length (cls ps[i])
  pr : w.ownsRow B tc 11 vp p.length (cls p)
  apart : ∀ (i : Nat) u, i < ps.length → vs[i]? = some u → u.ownBlock = none ∨ u.ownBlock ≠ vp.ownBlock
theorem BaRows.later {B : Nat} {tp tc : TypeId} {w w' : World} {v vp : Value} {ps : List (List Cl)} {p : List Cl} {vs : List Value} (h : BaRows B tp tc w v vp ps p vs) (hb : Below w.heap.size w w') : BaRows B tp tc w' v vp ps p vs :=
  ⟨own_later h.psr hb, fun i hi => by obtain ⟨u, h1, h2⟩ := h.row i hi; exact ⟨u, h1, own_later h2 hb⟩, own_later h.pr hb, h.apart⟩
theorem BaRows.set {B : Nat} {tp tc : TypeId} {w : World} {v vp : Value} {ps : List (List Cl)} {p : List Cl} {vs : List Value} (h : BaRows B tp tc w v vp ps p vs) {rb : Nat} {t : TypeId} {cs : Array Value} (hb : Blk w rb t cs) (h1 : tp ≠ t) (h2 : tc ≠ t) (i : Nat) (u : Value) :
    BaRows B tp tc (w.setCell ⟨rb, i, none⟩ u) v vp ps p vs :=
  ⟨own_set (p := ⟨rb, i, none⟩) h.psr (own_ne h.psr hb h1) u, fun j hj => by
    obtain ⟨q, g1, g2⟩ := h.row j hj
    exact ⟨q, g1, own_set (p := ⟨rb, i, none⟩) g2 (own_ne g2 hb h2) u⟩, own_set (p := ⟨rb, i, none⟩) h.pr (own_ne h.pr hb h2) u, h.apart⟩
/-- one call more -/
theorem BaRows.call {B : Nat} {tp tc : TypeId} {w w' : World} {v vp vp' : Value} {ps : List (List Cl)} {p : List Cl} {y : Cl} {vs : List Value} (h : BaRows B tp tc w v vp ps p vs) (hg : w.grownBy w' vp.ownBlock) (hm : w'.ownsRow B tc 11 vp' (p.length + 1) (cls (p ++ [y])))
    (hn : vp'.ownBlock = vp.ownBlock ∨ ∀ k, vp'.ownBlock = some k → w.heap.size ≤ k) (h1 : tp ≠ tc) : BaRows B tp tc w' v vp' ps (p ++ [y]) vs := by
  refine ⟨h.psr.kept hg (own_own_ne h.psr h.pr h1), fun i hi => ?_, by rw [List.length_append]; exact hm, fun i u hi hu => ?_⟩
  · obtain ⟨u, g1, g2⟩ := h.row i hi
    exact ⟨u, g1, g2.kept hg (h.apart i u hi g1)⟩
  · rcases hn with e | e
    · rw [e]; exact h.apart i u hi hu
    · obtain ⟨q, q1, q2⟩ := h.row i hi
      rw [hu] at q1
      injection q1 with q1
      subst q1
      cases ho : u.ownBlock with
      | none => exact .inl rfl
      | some j =>
        refine .inr fun hc => ?_
        have := (q2.lt j ho).2
        have := e j hc.symm
        omega
/-- the program at work is put behind the others -/
theorem BaRows.push {B : Nat} {tp tc : TypeId} {w w' : World} {v v' vp : Value} {ps : List (List Cl)} {p : List Cl} {vs : List Value} (h : BaRows B tp tc w v vp ps p vs) (hg : w.grownBy w' v.ownBlock) (hm : w'.ownsRow B tp 1 v' (ps.length + 1) (vs ++ [vp])) (h1 : tc ≠ tp) :
    BaRows B tp tc w' v' (.slice none 0 0) (ps ++ [p]) [] (vs ++ [vp]) := by
  have hl : vs.length = ps.length := by have := h.psr.1; simpa using this
  refine ⟨by rw [List.length_append]; exact hm, fun i hi => ?_, World.ownsRow_nil _ _ _ _, fun i u hi hu => ?_⟩
  · rw [List.length_append, List.length_singleton] at hi
    by_cases hlt : i < ps.length
    · obtain ⟨u, g1, g2⟩ := h.row i hlt
      have e : (ps ++ [p])[i]'(by simp; omega) = ps[i] := List.getElem_append_left hlt
      refine ⟨u, by rw [List.getElem?_append_left (by omega)]; exact g1, ?_⟩
      rw [e]
      exact g2.kept hg (own_own_ne g2 h.psr h1)
    · obtain rfl : i = ps.length := by omega
      have e : (ps ++ [p])[ps.length]'(by simp) = p := by simp
      refine ⟨vp, by rw [← hl]; simp, ?_⟩
      rw [e]
      exact h.pr.kept hg (own_own_ne h.pr h.psr h1)
  · cases hb : u.ownBlock
    · exact .inl rfl
    · exact .inr (by simp [Value.ownBlock])
theorem baRows_nil (B : Nat) (tp tc : TypeId) (w : World) : BaRows B tp tc w (.slice none 0 0) (.slice none 0 0) [] [] [] :=
  ⟨World.ownsRow_nil _ _ _ _, fun i hi => by simp at hi, World.ownsRow_nil _ _ _ _, fun i u hi => by simp at hi⟩
theorem BaRows.set7 {B : Nat} {tp tc : TypeId} {w : World} {v vp : Value} {ps : List (List Cl)} {p : List Cl} {vs : List Value} (h : BaRows B tp tc w v vp ps p vs) {b : Nat} {t : TypeId} {u0 u1 u2 u3 u4 u5 u6 : Value} (hb : Blk w b t #[u0, u1, u2, u3, u4, u5, u6]) (h1 : tp ≠ t) (h2 : tc ≠ t) (v0 v1 v2' v3 v4 v5 v6 : Value) :
    BaRows B tp tc (set7 w b v0 v1 v2' v3 v4 v5 v6) v vp ps p vs := by
  have one : ∀ {W : World} {cs : Array Value}, (Blk W b t cs ∧ BaRows B tp tc W v vp ps p vs) → ∀ i u, Blk (W.setCell ⟨b, i, none⟩ u) b t (cs.setIfInBounds i u) ∧ BaRows B tp tc (W.setCell ⟨b, i, none⟩ u) v vp ps p vs := fun h i u => ⟨h.1.set_ i u, h.2.set h.1 h1 h2 i u⟩
  exact (one (one (one (one (one (one (one ⟨hb, h⟩ 0 v0) 1 v1) 2 v2') 3 v3) 4 v4) 5 v5) 6 v6).2
theorem BaRows.prg {B : Nat} {tp tc : TypeId} {w : World} {A : Option Addr} {n c : Nat} {vp : Value} {ps : List (List Cl)} {p : List Cl} {vs : List Value} (h : BaRows B tp tc w (.slice A n c) vp ps p vs) (hn : n = ps.length) : PrgAt w A n ps := by
  subst hn
  refine ⟨vs, Reads.of_own h.psr, rfl, fun i hi => ?_⟩
  obtain ⟨u, g1, g2⟩ := h.row i hi
  obtain ⟨A', c', rfl, g3, g4⟩ := own_form g2
  exact ⟨A', c', g1, g3, g4, Reads.of_own g2⟩
end Go.Fw
namespace Go.Proofs.YteljecehppeamaaGreatDoor
open Go.RowKit Go.Fw Go.Shelf
set_option maxHeartbeats 2000000
set_option maxRecDepth 100000
set_option linter.unusedVariables false
set_option linter.unusedSimpArgs false
/-- the blocks of Bare, and the rows that it makes -/
structure BaI (w W : World) (s : Sc) (a : Array Value) (A2 : Option Addr) (n2 c2 : Nat) (v vp : Value) (ps : List (List Cl)) (p : List Cl) (vs : List Value) : Prop where
  b0 : Blk W w.heap.size 27 a
  b1 : Blk W (w.heap.size + 1) 27 zero7
  b2 : Blk W (w.heap.size + 2) 27 #[.int .i64 s.st, .int .i64 s.sa, .int .i64 s.lo, .int .i64 s.hi, v, .int .i64 s.wk, .slice A2 n2 c2]
  rows : BaRows w.heap.size 46 50 W v vp ps p vs
  below : Below w.heap.size w W
theorem BaI.later {w W W' : World} {s : Sc} {a : Array Value} {A2 : Option Addr} {n2 c2 : Nat} {v vp : Value} {ps : List (List Cl)} {p : List Cl} {vs : List Value} (h : BaI w W s a A2 n2 c2 v vp ps p vs) (hb : Below W.heap.size W W') : BaI w W' s a A2 n2 c2 v vp ps p vs :=
  ⟨h.b0.later hb, h.b1.later hb, h.b2.later hb, h.rows.later hb, sub_trans h.below hb⟩
theorem rscbare_any (s : Sc) (A A2 : Option Addr) (n c n2 c2 : Nat) (w : World) (hA : ScAt w A A2 n c n2 c2 s) (hpl : ∀ p ∈ s.ps, p.length ≤ 1000000) :
    Calls Tryz.prog 13 #[.agg (scArr s A A2 n c n2 c2)] w fun x w' => ∃ A' c', x = .returned (.agg (scArr s.bare A' A2 n c' n2 c2)) ∧ ScAt w' A' A2 n c' n2 c2 s.bare ∧ Below w.heap.size w w' := by
  have hz0 := Blk.new_at w 27 (scArr s A A2 n c n2 c2) (g := w.heap.size) rfl
  have HG := Lib.hid hz0
  have HA := Lib.hid hA
  have HPN := Lib.hid hpl
  have HPL := Lib.hid hA.ps.len
  have hnle := hA.nle
  clear hA hz0 hpl
  unfold scArr at HG
  have c0 := HG.out.cell 0
  have c1 := HG.out.cell 1
  have c2' := HG.out.cell 2
  have c3 := HG.out.cell 3
  have c4 := HG.out.cell 4
  have c5 := HG.out.cell 5
  have c6 := HG.out.cell 6
  simp only [List.getElem?_toArray, List.getElem?_cons_succ, List.getElem?_cons_zero] at c0 c1 c2' c3 c4 c5 c6
  unfold scArr
  go_enter Tryz.func13, Tryz.ntmps13
  go_wp2
  obtain ⟨WX, hWX⟩ : ∃ WX, ((w.alloc (.cells #[.int .i64 s.st, .int .i64 s.sa, .int .i64 s.lo, .int .i64 s.hi, .slice A n c, .int .i64 s.wk, .slice A2 n2 c2] 27)).alloc (.cells #[.int .i64 0, .int .i64 0, .int .i64 0, .int .i64 0, .slice none 0 0, .int .i64 0, .slice none 0 0] 27)).alloc (.cells #[.int .i64 s.st, .int .i64 s.sa, .int .i64 s.lo, .int .i64 s.hi, .slice none 0 0, .int .i64 s.wk, .slice A2 n2 c2] 27) = WX := ⟨_, rfl⟩
  rw [hWX]
  have hI : BaI w WX s #[.int .i64 s.st, .int .i64 s.sa, .int .i64 s.lo, .int .i64 s.hi, .slice A n c, .int .i64 s.wk, .slice A2 n2 c2] A2 n2 c2 (.slice none 0 0) (.slice none 0 0) [] [] [] := by
    rw [← hWX]
    exact ⟨(HG.out.alloc _).alloc _, (Blk.new_at _ _ _ (by simp)).alloc _, Blk.new_at _ _ _ (by simp), baRows_nil _ _ _ _, sub_alloc (sub_alloc (sub_alloc (Below.refl _ _) _) _) _⟩
  have HI := Lib.hid hI
  clear hI hWX c0 c1 c2' c3 c4 c5 c6 HG
  simp only [Nat.add_assoc, Nat.reduceAdd]
  generalize hav : (#[.int .i64 s.st, .int .i64 s.sa, .int .i64 s.lo, .int .i64 s.hi, .slice A n c, .int .i64 s.wk, .slice A2 n2 c2] : Array Value) = av at *
  have HAV := Lib.hid hav
  clear hav
  go_loopw [4] (fun i wr => ∃ (k : Nat), k ≤ n ∧ i = .int .i64 k ∧ ∃ v vs, BaI w wr s av A2 n2 c2 v (.slice none 0 0) ((s.ps.take k).map fun p => p.map bareC) [] vs) (fun i _ => n - (intOf i).toNat)
  case atStart => exact ⟨0, by omega, rfl, _, _, by rw [List.take_zero]; exact HI.out⟩
  case round =>
    obtain ⟨k, hk, rfl, v, vs, hI⟩ := hrel
    have hb0 := hI.b0
    rw [← HAV.out] at hb0
    have c4 := hb0.cell 4
    simp only [List.getElem?_toArray, List.getElem?_cons_succ, List.getElem?_cons_zero] at c4
    clear hb0
    obtain ⟨Av, cv, rfl, _, _⟩ := own_form hI.rows.psr
    by_cases hlt : k < n
    · have hkl : k < s.ps.length := by have := HPL.out; omega
      obtain ⟨ad, A', c', rfl, hadl, hc1, hpc, hcm, hrd⟩ := HA.out.ps.at_ hkl
      have HAC : Hid (∀ W, Below w.heap.size w W → W.cell? (ad.add k) = some (.slice A' s.ps[k].length c')) := Lib.hid (fun W hW => (hW.cell (p := ad.add k) (by rw [block_of_add]; exact hadl)).trans hc1)
      have HPNk := Lib.hid (HPN.out _ (List.getElem_mem hkl))
      have HTK : Hid ((s.ps.take (k + 1)).map (fun p => p.map bareC) = (s.ps.take k).map (fun p => p.map bareC) ++ [s.ps[k].map bareC]) := Lib.hid (by rw [List.take_succ_eq_append_getElem hkl, List.map_append]; rfl)
      have HRD := Lib.hid hrd
      have HII := Lib.hid hI
      unfold maxLen at hcm
      clear hrd hc1 hI
      generalize s.ps[k] = p at *
      generalize (s.ps.take k).map (fun p => p.map bareC) = done at *
      go_wp2
      go_loopw [5, 6] (fun vp i wq => ∃ (j : Nat), j ≤ p.length ∧ i = .int .i64 j ∧ BaI w wq s av A2 n2 c2 (.slice Av done.length cv) vp done ((p.take j).map bareC) vs) (fun _ i _ => p.length - (intOf i).toNat)
      case atStart => exact ⟨0, by omega, rfl, by rw [List.take_zero]; exact HII.out⟩
      case round =>
        clear c4
        obtain ⟨j, hj, rfl, hI⟩ := hrel
        have hb0 := hI.b0
        rw [← HAV.out] at hb0
        have c4 := hb0.cell 4
        simp only [List.getElem?_toArray, List.getElem?_cons_succ, List.getElem?_cons_zero] at c4
        clear hb0
        obtain ⟨Ap, cp, rfl, _, _⟩ := own_form hI.rows.pr
        have hcj := HAC.out _ hI.below
        have HIJ := Lib.hid hI
        clear hI
        by_cases hjt : j < p.length
        · obtain ⟨bl, off, rfl, _, q0, q1, q2, q3, q4, q5, q6, q7, q8, q9, q10⟩ := cl_at (HRD.out.up HIJ.out.below) hjt
          have HXB := Lib.hid (fun W => rbare_any p[j] W)
          have HTJ : Hid ((p.take (j + 1)).map bareC = (p.take j).map bareC ++ [bareC p[j]]) := Lib.hid (by rw [List.take_succ_eq_append_getElem hjt, List.map_append]; rfl)
          have HLJ : Hid (((p.take j).map bareC).length = j) := Lib.hid (by simp; omega)
          generalize bareC p[j] = y at *
          generalize p[j] = x at *
          generalize (p.take j).map bareC = pj at *
          unfold Cl.val Cl.arr at HXB
          go_wp2_with fail
          refine (HXB.out _).mono ?_
          rintro e w5 ⟨rfl, hb5⟩
          have hI5 := HIJ.out.later hb5
          have hlow : w.heap.size ≤ w5.heap.size := hI5.below.size
          have HI5 := Lib.hid hI5
          have hpn : pj.length ≤ 1000000 := by have h1 := HPNk.out; have h2 := HLJ.out; omega
          clear hb5 hI5 q0 q1 q2 q3 q4 q5 q6 q7 q8 q9 q10 HXB c4 hcj
          go_wp2_with (at_builtin; go_must (refine wpList_append_oneN (w := w5) (n := pj.length) (cs := y.arr) (xs := cls pj) elemCall (by decide) rfl _ _ rfl rfl HI5.out.rows.pr hlow rfl rfl rfl (by simp [Value.oneCell', Cl.arr]) (by omega) (by unfold maxLen; omega) ?_); intro v' w6 hm6 hg6 hv6; refine Hid.out ?_)
          refine Lib.hid ?_
          have hm7 : w6.ownsRow w.heap.size 50 11 v' (pj.length + 1) (cls (pj ++ [y])) := by rw [← cls_snoc]; exact hm6
          have hI6 : BaI w w6 s av A2 n2 c2 (.slice Av done.length cv) v' done (pj ++ [y]) vs :=
            ⟨HI5.out.b0.grown hg6 (fun e => own_ne HI5.out.rows.pr HI5.out.b0 (by decide) e.symm), HI5.out.b1.grown hg6 (fun e => own_ne HI5.out.rows.pr HI5.out.b1 (by decide) e.symm), HI5.out.b2.grown hg6 (fun e => own_ne HI5.out.rows.pr HI5.out.b2 (by decide) e.symm), HI5.out.rows.call hg6 hm7 hv6 (by decide), HI5.out.below.grown hg6 hlow (fun g e => (HI5.out.rows.pr.lt g e).1)⟩
          have HI6 := Lib.hid hI6
          clear hm6 hm7 hg6 hv6 hI6
          go_wp2
          go_roundw
          case rel => exact ⟨j + 1, by omega, by go_num, by rw [HTJ.out]; exact HI6.out⟩
          case measure => simp [intOf]; omega
        · have hje : p.take j = p := List.take_of_length_le (by omega)
          rw [hje] at HIJ
          rw [List.length_map] at HIJ
          have hjp : j = p.length := by omega
          have hb2 := HIJ.out.b2
          have o4 := hb2.cell 4
          simp only [List.getElem?_toArray, List.getElem?_cons_succ, List.getElem?_cons_zero] at o4
          have hlow := HIJ.out.below.size
          have hdl : done.length ≤ 1000000 := by have h2 := congrArg List.length HTK.out; simp at h2; omega
          clear hb2 hje
          subst hjp
          rw [List.take_length] at *
          simp only [List.length_map] at *
          go_wp2_with (at_builtin; go_must (refine wpList_append_oneN (n := done.length) (cs := #[.slice Ap p.length cp]) (xs := vs) elemProg (by decide) rfl _ _ rfl rfl HIJ.out.rows.psr hlow rfl rfl rfl (by simp [Value.oneCell']) (by omega) (by unfold maxLen; omega) ?_); intro v' w6 hm6 hg6 hv6; refine Hid.out ?_)
          refine Lib.hid ?_
          obtain ⟨A7, c7, rfl, _, _⟩ := own_form hm6
          have hrp := HIJ.out.rows.push hg6 hm6 (by decide)
          have hb2 := HIJ.out.b2.grown hg6 (fun e => own_ne HIJ.out.rows.psr HIJ.out.b2 (by decide) e.symm)
          have hb1 := HIJ.out.b1.grown hg6 (fun e => own_ne HIJ.out.rows.psr HIJ.out.b1 (by decide) e.symm)
          have hb0 := HIJ.out.b0.grown hg6 (fun e => own_ne HIJ.out.rows.psr HIJ.out.b0 (by decide) e.symm)
          have hbl := HIJ.out.below.grown hg6 hlow (fun g e => (HIJ.out.rows.psr.lt g e).1)
          have o5 := hb2.cell 4
          have of5 := hb2.frozen
          simp only [List.getElem?_toArray, List.getElem?_cons_succ, List.getElem?_cons_zero] at o5
          have HN : Hid (BaI w (w6.setCell ⟨w.heap.size + 2, 4, none⟩ (.slice A7 (done.length + 1) c7)) s av A2 n2 c2 (.slice A7 (done.length + 1) c7) (.slice none 0 0) (done ++ [p.map bareC]) [] (vs ++ [.slice Ap p.length cp])) := by
            refine Lib.hid ⟨hb0.far (p := ⟨w.heap.size + 2, 4, none⟩) (by show w.heap.size ≠ w.heap.size + 2; omega) _, hb1.far (p := ⟨w.heap.size + 2, 4, none⟩) (by show w.heap.size + 1 ≠ w.heap.size + 2; omega) _, ?_, hrp.set hb2 (by decide) (by decide) 4 _, hbl.setCell (p := ⟨w.heap.size + 2, 4, none⟩) (by show w.heap.size ≤ w.heap.size + 2; omega) _⟩
            have := hb2.set_ 4 (.slice A7 (done.length + 1) c7)
            simpa using this
          clear hm6 hg6 hv6 hrp hb2 hb1 hb0 hbl o4
          go_wp2
          go_roundw
          case rel => exact ⟨k + 1, by omega, by go_num, _, _, by rw [HTK.out]; exact HN.out⟩
          case measure => simp [intOf]; omega
    · have hke : k = n := by omega
      subst hke
      have HTA : Hid ((s.ps.take k).map (fun p => p.map bareC) = s.bare.ps) := Lib.hid (by rw [HPL.out, List.take_length]; rfl)
      have HLN : Hid (s.bare.ps.length = k) := Lib.hid (by show (s.ps.map _).length = k; rw [List.length_map]; exact HPL.out.symm)
      rw [HTA.out] at hI
      rw [HLN.out] at hI
      have hb2 := hI.b2
      have o0 := hb2.cell 0
      have o1 := hb2.cell 1
      have o2 := hb2.cell 2
      have o3 := hb2.cell 3
      have o4 := hb2.cell 4
      have o5 := hb2.cell 5
      have o6 := hb2.cell 6
      have hb1 := hI.b1
      unfold zero7 at hb1
      have z0 := hb1.cell 0
      have z1 := hb1.cell 1
      have z2 := hb1.cell 2
      have z3 := hb1.cell 3
      have z4 := hb1.cell 4
      have z5 := hb1.cell 5
      have z6 := hb1.cell 6
      have zf := hb1.frozen
      simp only [List.getElem?_toArray, List.getElem?_cons_succ, List.getElem?_cons_zero] at o0 o1 o2 o3 o4 o5 o6 z0 z1 z2 z3 z4 z5 z6
      have hrw := hI.rows.set7 hb1 (by decide) (by decide) (.int .i64 s.st) (.int .i64 s.sa) (.int .i64 s.lo) (.int .i64 s.hi) (.slice Av k cv) (.int .i64 s.wk) (.slice A2 n2 c2)
      have hbl := set7_below hI.below (b := w.heap.size + 1) (by omega) (.int .i64 s.st) (.int .i64 s.sa) (.int .i64 s.lo) (.int .i64 s.hi) (.slice Av k cv) (.int .i64 s.wk) (.slice A2 n2 c2)
      have hbk := set7_blk hb1 (.int .i64 s.st) (.int .i64 s.sa) (.int .i64 s.lo) (.int .i64 s.hi) (.slice Av k cv) (.int .i64 s.wk) (.slice A2 n2 c2)
      have HF := Lib.hid (And.intro hbk (And.intro hbl (ScAt.mk (n2 := n2) (c2 := c2) (c := cv) (s := s.bare) (hrw.prg HLN.out.symm) (HA.out.pk.up hbl) HA.out.nle HA.out.pkle)))
      clear hI hb1 hb2 hrw hbl hbk
      go_wp2
      refine st7_then (M := fun W => Blk W (w.heap.size + 1) 27 #[.int .i64 s.st, .int .i64 s.sa, .int .i64 s.lo, .int .i64 s.hi, .slice Av k cv, .int .i64 s.wk, .slice A2 n2 c2] ∧ Below w.heap.size w W ∧ ScAt W Av A2 k cv n2 c2 s.bare) HF.out fun W hM => ?_
      clear z0 z1 z2 z3 z4 z5 z6 zf
      have z0 := hM.1.cell 0
      have z1 := hM.1.cell 1
      have z2 := hM.1.cell 2
      have z3 := hM.1.cell 3
      have z4 := hM.1.cell 4
      have z5 := hM.1.cell 5
      have z6 := hM.1.cell 6
      simp only [List.getElem?_toArray, List.getElem?_cons_succ, List.getElem?_cons_zero] at z0 z1 z2 z3 z4 z5 z6
      exact bodyPost_ret (v := .agg #[.int .i64 s.st, .int .i64 s.sa, .int .i64 s.lo, .int .i64 s.hi, .slice Av k cv, .int .i64 s.wk, .slice A2 n2 c2]) (by simp [results, Tryz.results13, go_sem, z0, z1, z2, z3, z4, z5, z6]; try rfl) rfl ⟨Av, cv, rfl, hM.2.2, hM.2.1⟩
end Go.Proofs.YteljecehppeamaaGreatDoor
/-
  Chapter 42's example, and which scripts are small enough, walked. Conditions: as for the reader.
-/
namespace Go.Fw
open Go.RowKit
set_option linter.unusedVariables false
set_option linter.unusedSimpArgs false
def clA : Cl := ⟨7, ⟨#[97]⟩, 0, 0, 0, 0, 0, 0, 0, 0, 0⟩
def scA : Sc := ⟨1, 4, 4, 4, [[clA]], 0, []⟩
theorem clA_ok : clA.ok := ⟨by unfold In64 clA; decide, by unfold In64 clA; decide, by unfold In64 clA; decide, by unfold In64 clA; decide, ⟨by unfold In64 clA; decide, by unfold In64 clA; decide, by unfold In64 clA; decide, by unfold In64 clA; decide, by unfold In64 clA; decide, by unfold In64 clA; decide⟩, by unfold clA; decide⟩
theorem clA_E : textE clA = 0 := by decide
theorem scA_ok : scA.ok := by
  refine ⟨⟨by unfold In64 scA; decide, by unfold In64 scA; decide, by unfold In64 scA; decide, by unfold In64 scA; decide⟩, fun p hp x hx => ?_, by unfold In64 scA; decide, fun x hx => by cases hx⟩
  have h1 : p = [clA] := by simpa [scA] using hp
  subst h1
  have h2 : x = clA := by simpa using hx
  subst h2
  exact ⟨clA_ok, by decide⟩
theorem scA_bare : scA.bare = scA := by simp [Sc.bare, scA, bareC, clA]
theorem scA_E : scE scA.st scA.sa scA.lo scA.hi scA.ps scA.wk = 0 := by decide
theorem scA_raw : rawN scA.lines = [115, 116, 111, 114, 101, 32, 49, 32, 52, 32, 52, 32, 52, 10, 99, 108, 105, 101, 110, 116, 10, 114, 101, 97, 100, 32, 97, 10, 119, 111, 114, 107, 101, 114, 115, 32, 48, 10] := by decide +kernel
theorem raw_run {s : Sc} (hok : s.ok) (hE : scE s.st s.sa s.lo s.hi s.ps s.wk = 0) : wordsB 10 s.raw = s.lines.map asB ++ [ByteArray.empty] ∧ Run Sc.zero 0 (s.lines.map asB) s.bare (if s.pk = [] then 2 else 3) := by
  have h := (scE_zero hE).2
  exact ⟨raw_words (lines_no10 h), run_script hok h⟩
theorem bareC_ok {x : Cl} (h : x.ok) (hk : 1 ≤ x.k ∧ x.k ≤ 8) : (bareC x).ok := by
  have z := zero_in
  have hz : (ByteArray.empty).size ≤ 100000 := by decide
  obtain ⟨h1, h2, h3, h4, h5, h6⟩ := h
  unfold bareC
  repeat' split
  all_goals (refine ⟨?_, ?_, ?_, ?_, ⟨?_, ?_, ?_, ?_, ?_, ?_⟩, ?_⟩ <;> first | exact z | exact hz | assumption | exact h5.1 | exact h5.2.1 | exact h5.2.2.1 | exact h5.2.2.2.1 | exact h5.2.2.2.2.1 | exact h5.2.2.2.2.2 | (unfold In64; simp only; omega))
theorem bareC_id (x : Cl) : (bareC x).id.size ≤ x.id.size := by
  unfold bareC
  repeat' split
  all_goals first | exact Nat.le_refl _ | exact Nat.zero_le _
theorem bare_ok {s : Sc} (h : s.ok) (hE : scE s.st s.sa s.lo s.hi s.ps s.wk = 0) : s.bare.ok := by
  refine ⟨h.cfg, fun q hq x hx => ?_, h.wk, h.pk⟩
  obtain ⟨p, hp, rfl⟩ := List.mem_map.1 hq
  obtain ⟨y, hy, rfl⟩ := List.mem_map.1 hx
  have h2 := h.ps p hp y hy
  have h3 := kind_of ((scE_zero hE).2 p hp y hy)
  exact ⟨bareC_ok h2.1 (by omega), Nat.le_trans (bareC_id y) h2.2⟩
theorem rawN_length : ∀ (ls : List (List UInt8)) (m : Nat), (∀ l ∈ ls, l.length ≤ m) → (rawN ls).length ≤ ls.length * (m + 1)
  | [], m, _ => by simp [rawN]
  | l :: ls, m, h => by
    rw [rawN_cons, List.length_append, List.length_append, show (l :: ls).length * (m + 1) = ls.length * (m + 1) + (m + 1) by rw [List.length_cons, Nat.succ_mul]]
    have h1 := h l (by simp)
    have h2 := rawN_length ls m fun x hx => h x (by simp [hx])
    have e : ([10] : List UInt8).length = 1 := rfl
    omega
theorem rawN_progs : ∀ (ps : List (List Cl)) (m : Nat), (∀ p ∈ ps, p.length ≤ 20 ∧ ∀ x ∈ p, (lineN x).length ≤ 400) → ps.length ≤ m → (rawN (ps.flatMap progLs)).length ≤ m * 9000
  | [], m, _, _ => by simp [rawN]
  | p :: ps, m, h, hm => by
    have hp := h p (by simp)
    have h1 : (rawN (progLs p)).length ≤ (p.length + 1) * 401 := by
      have := rawN_length (progLs p) 400 fun l hl => by
        unfold progLs at hl
        rcases List.mem_cons.1 hl with rfl | hl
        · decide
        · obtain ⟨x, hx, rfl⟩ := List.mem_map.1 hl
          exact hp.2 x hx
      simpa [progLs] using this
    obtain ⟨m', rfl⟩ : ∃ m', m = m' + 1 := ⟨m - 1, by simp at hm; omega⟩
    have h2 := rawN_progs ps m' (fun q hq => h q (by simp [hq])) (by simpa using hm)
    rw [List.flatMap_cons, rawN_app, List.length_append]
    have h3 : (p.length + 1) * 401 ≤ 21 * 401 := Nat.mul_le_mul_right _ (by have := hp.1; omega)
    omega
/-- a script that is small enough to look at -/
structure Sc.small (s : Sc) : Prop where
  n : s.ps.length ≤ 33
  pk : s.pk.length ≤ 200
  ps : ∀ p ∈ s.ps, p.length ≤ 20 ∧ ∀ x ∈ p, x.id.size ≤ 40
theorem small_raw {s : Sc} (hs : s.small) (hok : s.ok) (hE : scE s.st s.sa s.lo s.hi s.ps s.wk = 0) : (rawN s.lines).length ≤ 8000000 ∧ (∀ p ∈ s.ps, ∀ x ∈ p, (lineN x).length ≤ 400) ∧ (textN s.pk).length ≤ 90000 := by
  have ht := textN_len (l := s.pk) hok.pk
  have hp := hs.pk
  have hl : ∀ p ∈ s.ps, ∀ x ∈ p, (lineN x).length ≤ 400 := fun p hp x hx => lineN_len (hok.ps p hp x hx).1 ((scE_zero hE).2 p hp x hx)
  refine ⟨?_, hl, by omega⟩
  unfold Sc.lines
  rw [rawN_cons, List.length_append, List.length_append, rawN_app, List.length_append, rawN_cons, List.length_append, List.length_append]
  have h1 := cfgN_len hok.cfg
  have h2 := rawN_progs s.ps 33 (fun p hp => ⟨(hs.ps p hp).1, hl p hp⟩) hs.n
  have h3 : (wkN s.wk).length ≤ 40 := by unfold wkN; rw [List.length_append, List.length_cons]; have := Lib.itoa_length_le s.wk hok.wk.1 hok.wk.2; have e : workersS.length = 7 := rfl; omega
  have h4 : (rawN (pkLs s.pk)).length ≤ 10000 := by
    unfold pkLs
    split
    · simp [rawN]
    · rw [rawN_one]
      unfold pkN
      have e : picksS.length = 5 := rfl
      rw [List.length_append, List.length_append, List.length_cons, e]
      simp
      omega
  simp only [List.length_cons, List.length_nil]
  omega
end Go.Fw
namespace Go.Proofs.YteljecehppeamaaGreatDoor
open Go.RowKit Go.Fw Go.Shelf
set_option maxHeartbeats 2000000
set_option maxRecDepth 100000
set_option linter.unusedVariables false
set_option linter.unusedSimpArgs false
theorem short_any (w : World) : Calls Tryz.prog 15 #[] w fun x w' => x = .returned (.string scA.raw) ∧ w = w' := by
  have e : scA.raw = ⟨#[115, 116, 111, 114, 101, 32, 49, 32, 52, 32, 52, 32, 52, 10, 99, 108, 105, 101, 110, 116, 10, 114, 101, 97, 100, 32, 97, 10, 119, 111, 114, 107, 101, 114, 115, 32, 48, 10]⟩ := by unfold Sc.raw; rw [scA_raw]
  rw [e]
  go_enter Tryz.func15, Tryz.ntmps15
  go_wp2
  go_ret
  exact ⟨rfl, rfl⟩
/-- what few tells -/
def FewPost (s : Sc) (w : World) (x : Ending) (w' : World) : Prop := (∃ b, x = .returned (.bool b) ∧ (b = true → s.small)) ∧ Below w.heap.size w w'
theorem few_any (s : Sc) (A A2 : Option Addr) (n c n2 c2 : Nat) (w : World) (hP : PrgAt w A n s.ps) (hn : n ≤ maxLen) (hn2 : n2 = s.pk.length) (hm2 : n2 ≤ maxLen) (hz : ∀ p ∈ s.ps, ∀ x ∈ p, x.id.size ≤ maxLen) :
    Calls Tryz.prog 6 #[.agg (scArr s A A2 n c n2 c2)] w (FewPost s w) := by
  have HB := Lib.hid (sub_alloc (Below.refl _ w) (.cells (scArr s A A2 n c n2 c2) 27))
  have HG := Lib.hid (Blk.new_at w 27 (scArr s A A2 n c n2 c2) (g := w.heap.size) rfl)
  have HP := Lib.hid (hP.up HB.out)
  have HPL := Lib.hid hP.len
  have HN2 := Lib.hid hn2
  have HZ := Lib.hid hz
  unfold maxLen at hn hm2
  clear hP hn2 hz
  unfold scArr at *
  have c4 := HG.out.cell 4
  have c6 := HG.out.cell 6
  simp only [List.getElem?_toArray, List.getElem?_cons_succ, List.getElem?_cons_zero] at c4 c6
  go_enter Tryz.func6, Tryz.ntmps6
  go_wp2
  obtain ⟨WX, hWX⟩ : ∃ WX, (w.alloc (.cells #[.int .i64 s.st, .int .i64 s.sa, .int .i64 s.lo, .int .i64 s.hi, .slice A n c, .int .i64 s.wk, .slice A2 n2 c2] 27)) = WX := ⟨_, rfl⟩
  rw [hWX] at HB HG HP ⊢
  clear c4 c6 hWX
  go_loopw [10] (fun i wr => ∃ (k : Nat), k ≤ n ∧ i = .int .i64 k ∧ Below WX.heap.size WX wr ∧ Hid (∀ p ∈ s.ps.take k, p.length ≤ 20 ∧ ∀ x ∈ p, x.id.size ≤ 40)) (fun i _ => n - (intOf i).toNat)
  case atStart => exact ⟨0, by omega, rfl, Below.refl _ _, Lib.hid (fun p hp => by rw [List.take_zero] at hp; cases hp)⟩
  case round =>
    obtain ⟨k, hk, rfl, hbr, HK⟩ := hrel
    have hg := HG.out.later hbr
    have c4 := hg.cell 4
    have c6 := hg.cell 6
    simp only [List.getElem?_toArray, List.getElem?_cons_succ, List.getElem?_cons_zero] at c4 c6
    clear hg
    by_cases hlt : k < n
    · have hkl : k < s.ps.length := by have := HPL.out; omega
      obtain ⟨ad, A', c', rfl, hadl, hc, hpc, hcm, hrd⟩ := (HP.out.up hbr).at_ hkl
      have HZP := Lib.hid (HZ.out _ (List.getElem_mem hkl))
      have HTK : Hid (s.ps.take (k + 1) = s.ps.take k ++ [s.ps[k]]) := Lib.hid (List.take_succ_eq_append_getElem hkl)
      have HRD := Lib.hid hrd
      unfold maxLen at hcm
      clear hrd
      generalize s.ps[k] = p at *
      by_cases hpz : 20 < p.length
      · have hI : (20 : Int) < (p.length : Int) := by omega
        go_wp2
        go_ret
        exact ⟨⟨false, rfl, fun h => by cases h⟩, sub_trans HB.out hbr⟩
      · have hI : ¬ (20 : Int) < (p.length : Int) := by omega
        go_wp2
        clear c4 c6 hc
        go_loopw [19] (fun i wq => ∃ (j : Nat), j ≤ p.length ∧ i = .int .i64 j ∧ Below wr.heap.size wr wq ∧ Hid (∀ x ∈ p.take j, x.id.size ≤ 40)) (fun i _ => p.length - (intOf i).toNat)
        case atStart => exact ⟨0, by omega, rfl, Below.refl _ _, Lib.hid (fun x hx => by rw [List.take_zero] at hx; cases hx)⟩
        case round =>
          obtain ⟨j, hj, rfl, hbq, HJ⟩ := hrel
          by_cases hjt : j < p.length
          · obtain ⟨bl, off, rfl, _, q0, q1, q2, q3, q4, q5, q6, q7, q8, q9, q10⟩ := cl_at (HRD.out.up hbq) hjt
            have hxz := HZP.out _ (List.getElem_mem hjt)
            have HTJ : Hid (p.take (j + 1) = p.take j ++ [p[j]]) := Lib.hid (List.take_succ_eq_append_getElem hjt)
            unfold maxLen at hxz
            generalize p[j] = x at *
            have hbq2 := sub_alloc hbq (.cells x.arr 50)
            by_cases hx40 : 40 < x.id.size
            · have hI2 : (40 : Int) < (x.id.size : Int) := by omega
              go_wp2
              go_ret
              exact ⟨⟨false, rfl, fun h => by cases h⟩, sub_trans HB.out (sub_trans hbr hbq2)⟩
            · have hI2 : ¬ (40 : Int) < (x.id.size : Int) := by omega
              have HJ2 : Hid (∀ y ∈ p.take (j + 1), y.id.size ≤ 40) := Lib.hid (fun y hy => by
                rw [HTJ.out] at hy
                rcases List.mem_append.1 hy with hy | hy
                · exact HJ.out y hy
                · rw [List.mem_singleton.1 hy]; omega)
              go_wp2
              go_roundw
              case rel => exact ⟨j + 1, by omega, by go_num, hbq2, HJ2⟩
              case measure => simp [intOf]; omega
          · have HK2 : Hid (∀ q ∈ s.ps.take (k + 1), q.length ≤ 20 ∧ ∀ x ∈ q, x.id.size ≤ 40) := Lib.hid (fun q hq => by
              rw [HTK.out] at hq
              rcases List.mem_append.1 hq with hq | hq
              · exact HK.out q hq
              · rw [List.mem_singleton.1 hq]
                exact ⟨by omega, fun x hx => HJ.out x (by rw [List.take_of_length_le (by omega)]; exact hx)⟩)
            go_wp2
            go_roundw
            case rel => exact ⟨k + 1, by omega, by go_num, sub_trans hbr hbq, HK2⟩
            case measure => simp [intOf]; omega
    · have HKA : Hid (∀ p ∈ s.ps, p.length ≤ 20 ∧ ∀ x ∈ p, x.id.size ≤ 40) := Lib.hid (fun p hp => HK.out p (by rw [List.take_of_length_le (by have := HPL.out; omega)]; exact hp))
      by_cases h33 : n ≤ 33
      · have hI : (n : Int) ≤ 33 := by omega
        by_cases h200 : n2 ≤ 200
        · have hI2 : (n2 : Int) ≤ 200 := by omega
          go_wp2
          go_ret
          exact ⟨⟨true, rfl, fun _ => ⟨by have := HPL.out; omega, by have := HN2.out; omega, HKA.out⟩⟩, sub_trans HB.out hbr⟩
        · have hI2 : ¬ (n2 : Int) ≤ 200 := by omega
          go_wp2
          go_ret
          exact ⟨⟨false, rfl, fun h => by cases h⟩, sub_trans HB.out hbr⟩
      · have hI : ¬ (n : Int) ≤ 33 := by omega
        go_wp2
        go_ret
        exact ⟨⟨false, rfl, fun h => by cases h⟩, sub_trans HB.out hbr⟩
end Go.Proofs.YteljecehppeamaaGreatDoor
