/-
  script's reader: call, and read of a call's line, walked (chapter 42). Conditions: as for the reader.
-/
import Derived.Test.YteljecehppeamaaGreatDoorJ19
import Derived.Test.YteljecehppeamaaGreatDoorJ16
namespace Go.Fw
open Go.RowKit
set_option linter.unusedVariables false
set_option linter.unusedSimpArgs false
theorem wp_append_oneN {P : Program} {s : Nat} {w : World} {o : Oper} {a : Act} {K : Act → World → Prop} {Q : Exit → Act → World → Prop} {t e : TypeId} {z : Value} {bytes : Nat} (hT : ElemS P t e z s bytes) (hs0 : 0 < s)
    (sl x : Operand) (ho : o.op = .call { callee := .builtin .append, args := #[sl, x], argTypes := #[t, t] })
    {v : Value} {n B g : Nat} {xs : List Value} (hs : a.eval sl = v) (hm : w.ownsRow B e s v n xs) (hB : B ≤ w.heap.size) {cs : Array Value} (hr : Reads w w.heap.size s (some ⟨g, 0, none⟩) 1 cs.toList) (hx : a.eval x = .slice (some ⟨g, 0, none⟩) 1 1) (h1 : ∀ u ∈ cs.toList, u.oneCell' = true)
    (hlen : (n + 1) * bytes ≤ 140737488355328) (hle : n + 1 ≤ maxLen)
    (h : ∀ v' w', w'.ownsRow B e s v' (n + 1) (xs ++ cs.toList) → w.grownBy w' v.ownBlock → (v'.ownBlock = v.ownBlock ∨ ∀ k, v'.ownBlock = some k → w.heap.size ≤ k) → K (a.put o.dst v') w') :
    o.wp P a w K Q := by
  obtain ⟨i, hi, hz, hsz, hby⟩ := info_parts hT.info
  refine wp_append_any w sl x t ho B e i z s bytes hT.under hi hz hsz hby hT.cells hs0 v n xs hs hm _ _ 1 1 cs.toList hx hr h1 hle hlen hB fun v' w' h2 h3 h4 => h v' w' h2 h3 ?_
  rcases h4 with h4 | h4
  · exact .inl h4
  · refine .inr fun k hk => ?_
    rw [h4] at hk
    injection hk with hk
    omega
/-- one call more, in the last program -/
theorem ScRows.call {B : Nat} {tp tc ti : TypeId} {w w' : World} {v v2 v' u : Value} {s : Sc} {vs : List Value} {ps : List (List Cl)} {p : List Cl} {y : Cl} (h : ScRows B tp tc ti w v v2 s vs) (hs : s.ps = ps ++ [p]) (hu : vs[ps.length]? = some u) (hg : w.grownBy w' u.ownBlock)
    (hm : w'.ownsRow B tc 11 v' (p.length + 1) (cls (p ++ [y]))) (hn : v'.ownBlock = u.ownBlock ∨ ∀ k, v'.ownBlock = some k → w.heap.size ≤ k) (h1 : tc ≠ tp) (h2 : ti ≠ tp) (h3 : ti ≠ tc) :
    ∃ g k, v = .slice (some ⟨g, 0, none⟩) (ps.length + 1) k ∧ B ≤ g ∧ g < w.heap.size ∧ ps.length + 1 ≤ k ∧ k ≤ maxLen ∧ w.cell? ⟨g, ps.length, none⟩ = some u ∧ w'.cell? ⟨g, ps.length, none⟩ = some u ∧ w'.frozen? ⟨g, ps.length, none⟩ = false ∧
      ScRows B tp tc ti (w'.setCell ⟨g, ps.length, none⟩ v') v v2 { s with ps := ps ++ [p ++ [y]] } (vs.set ps.length v') := by
  have hl := h.vlen
  have hsl : s.ps.length = ps.length + 1 := by rw [hs]; simp
  have hrow := h.ps
  rw [hsl] at hrow
  have hlast : ∃ u0, vs[ps.length]? = some u0 ∧ w.ownsRow B tc 11 u0 p.length (cls p) := by
    obtain ⟨u0, g1, g2⟩ := h.row ps.length (by omega)
    have e : s.ps[ps.length]'(by omega) = p := by simp [hs]
    rw [e] at g2
    exact ⟨u0, g1, g2⟩
  obtain ⟨u0, g1, hur⟩ := hlast
  rw [hu] at g1
  injection g1 with g1
  subst g1
  have hrow' : w'.ownsRow B tp 1 v (ps.length + 1) vs := by
    have hne := own_own_ne hrow hur (Ne.symm h1)
    exact hrow.kept hg hne
  obtain ⟨g, k, hv, hBg, hgl, hnk, hc, hf, hset⟩ := own_at hrow' (b := ps.length) (by omega)
  have hc0 : w.cell? ⟨g, ps.length, none⟩ = some u := by
    obtain ⟨g', k', hv', _, _, _, hc', _, _⟩ := own_at hrow (b := ps.length) (by omega)
    rw [hv] at hv'
    injection hv' with hv'
    injection hv' with hv'
    injection hv' with hv' _ _
    subst hv'
    rw [hc', hu]
  have hgw : g < w.heap.size := World.block_lt_of_cell? w _ hc0
  have hvb : v.ownBlock = some g := by rw [hv]; rfl
  have hkm : k ≤ maxLen := by
    obtain ⟨A', c', hv', _, hm'⟩ := own_form hrow
    rw [hv] at hv'
    injection hv' with _ _ hv'
    omega
  refine ⟨g, k, hv, hBg, hgw, hnk, hkm, hc0, by rw [hc, hu], hf, ?_⟩
  have hfar : ∀ {v0 : Value} {e : TypeId} {sz n0 : Nat} {xs : List Value}, e ≠ tp → w'.ownsRow B e sz v0 n0 xs → (w'.setCell ⟨g, ps.length, none⟩ v').ownsRow B e sz v0 n0 xs := fun hne ho => by
    refine own_set (p := ⟨g, ps.length, none⟩) ho ?_ v'
    rcases own_own_ne ho hrow' hne with e | e
    · rw [e]; simp
    · rw [hvb] at e; exact e
  refine ⟨?_, ?_, fun i hi => ?_, fun i a b hi ha hb => ?_⟩
  · have := hset v'
    show (w'.setCell ⟨g, ps.length, none⟩ v').ownsRow B tp 1 v (ps ++ [p ++ [y]]).length (vs.set ps.length v')
    rw [List.length_append]
    exact this
  · exact hfar h2 (h.pk.kept hg (own_own_ne h.pk hur h3))
  · have hi2 : i < (ps ++ [p ++ [y]]).length := hi
    rw [List.length_append, List.length_singleton] at hi2
    by_cases hlt : i < ps.length
    · obtain ⟨q, q1, q2⟩ := h.row i (by omega)
      refine ⟨q, by rw [List.getElem?_set_ne (by omega)]; exact q1, ?_⟩
      have e1 : (ps ++ [p ++ [y]])[i]'(by simp; omega) = ps[i] := List.getElem_append_left hlt
      have e2 : s.ps[i]'(by omega) = ps[i] := by simp [hs, List.getElem_append_left hlt]
      show (w'.setCell ⟨g, ps.length, none⟩ v').ownsRow B tc 11 q ((ps ++ [p ++ [y]])[i]'(by simp; omega)).length (cls ((ps ++ [p ++ [y]])[i]'(by simp; omega)))
      rw [e1]
      rw [e2] at q2
      refine hfar h1 (q2.kept hg ?_)
      refine h.apart i q u (by omega) q1 ?_
      rw [hsl]
      exact hu
    · obtain rfl : i = ps.length := by omega
      have e1 : (ps ++ [p ++ [y]])[ps.length]'(by simp) = p ++ [y] := by simp
      refine ⟨v', by rw [List.getElem?_set_self (by omega)], ?_⟩
      show (w'.setCell ⟨g, ps.length, none⟩ v').ownsRow B tc 11 v' ((ps ++ [p ++ [y]])[ps.length]'(by simp)).length (cls ((ps ++ [p ++ [y]])[ps.length]'(by simp)))
      rw [e1, List.length_append]
      exact hfar h1 hm
  · have hi2 : i + 1 < (ps ++ [p ++ [y]]).length := hi
    rw [List.length_append, List.length_singleton] at hi2
    have e : (ps ++ [p ++ [y]]).length - 1 = ps.length := by simp
    have hb2 : (vs.set ps.length v')[(ps ++ [p ++ [y]]).length - 1]? = some b := hb
    rw [e, List.getElem?_set_self (by omega)] at hb2
    injection hb2 with hb2
    subst hb2
    rw [List.getElem?_set_ne (by omega)] at ha
    have hap := h.apart i a u (by omega) ha (by rw [hsl]; exact hu)
    rcases hn with e | e
    · rw [e]; exact hap
    · obtain ⟨q, q1, q2⟩ := h.row i (by omega)
      rw [ha] at q1
      injection q1 with q1
      subst q1
      cases ho : a.ownBlock with
      | none => exact .inl rfl
      | some j =>
        refine .inr fun hc => ?_
        have := (q2.lt j ho).2
        have := e j hc.symm
        omega
end Go.Fw
namespace Go.Proofs.YteljecehppeamaaGreatDoor
open Go.RowKit Go.Fw Go.Shelf
set_option maxHeartbeats 2000000
set_option maxRecDepth 100000
set_option linter.unusedVariables false
set_option linter.unusedSimpArgs false
/-- what does not turn while a call is put down -/
def CallS (rb cb : Nat) (cs : Array Value) (y : Cl) (W : World) : Prop := Blk W rb 74 cs ∧ Blk W cb 50 y.arr
theorem call_any (w0 w : World) (rb : Nat) (s : Sc) (ps : List (List Cl)) (p : List Cl) (x : Cl) (h : RdS w0 w rb s 1) (hs : s.ps = ps ++ [p]) (hx : x.ok) (he : textE x = 0) (hR : Ready w) (hp1 : ps.length ≤ 100000) (hp2 : p.length ≤ 100000) :
    Calls Tryz.prog 50 #[.pointer (some ⟨rb, 0, none⟩), .string (lineB x)] w fun e w' => e = .returned (.int .i64 0) ∧ RdS w0 w' rb { s with ps := ps ++ [p ++ [bareC x]] } 1 := by
  have hlp := lparse_any (lineB x) w hR (by have h1 := lineN_len hx he; have h2 := congrArg List.length (lineB_eq x); have h3 : (lineB x).data.toList.length = (lineB x).size := rfl; omega)
  rw [parse_line hx he] at hlp
  have HLP := Lib.hid hlp
  have HR := Lib.hid h
  have HS := Lib.hid hs
  clear hlp h hs hR hx he
  generalize lineB x = l at *
  generalize bareC x = y at *
  unfold Cl.val Cl.arr at HLP
  go_enter Tryz.func50, Tryz.ntmps50
  go_wp2_with fail
  refine HLP.out.mono ?_
  rintro e w1 ⟨rfl, hb1⟩
  have HR1 := Lib.hid (HR.out.up hb1)
  have HRA := Lib.hid (HR1.out.up (sub_alloc (Below.refl _ _) (.cells y.arr 50)))
  have HCB := Lib.hid (Blk.new_at w1 50 y.arr (g := w1.heap.size) rfl)
  clear hb1 HR
  obtain ⟨v, v2, vs, hB1, hV1⟩ := HR1.out.ex
  have HNE : Hid (∀ u, vs[ps.length]? = some u → u.ownBlock ≠ some w1.heap.size) := Lib.hid (fun u hu e => by
    obtain ⟨u', h1, h2⟩ := hV1.row ps.length (by rw [HS.out]; simp)
    rw [hu] at h1
    injection h1 with h1
    subst h1
    have := (h2.lt _ e).2
    omega)
  have hB := hB1.later (sub_alloc (Below.refl _ _) (.cells y.arr 50))
  have hV := hV1.later (sub_alloc (Below.refl _ _) (.cells y.arr 50))
  clear hB1 hV1
  obtain ⟨A, k, hve, _, hkm⟩ := own_form hV.ps
  have hsl : s.ps.length = ps.length + 1 := by rw [HS.out]; simp
  have HB := Lib.hid hB
  have HV := Lib.hid hV
  subst hve
  unfold rdArr at hB
  have c4 := hB.cell 4
  simp only [List.getElem?_toArray, List.getElem?_cons_succ, List.getElem?_cons_zero] at c4
  clear hB hV
  rw [hsl] at c4
  unfold Cl.arr at c4
  go_wp2
  obtain ⟨WA, hWA⟩ : ∃ WA, w1.alloc (.cells y.arr 50) = WA := ⟨_, rfl⟩
  have hW2 : w1.alloc (.cells #[.int .i64 y.k, .string y.id, .int .i64 y.tick, .int .i64 y.value, .int .i64 y.handle, .int .i64 y.a, .int .i64 y.b, .int .i64 y.c, .int .i64 y.d, .int .i64 y.e, .int .i64 y.f] 50) = WA := hWA
  rw [hW2]
  rw [hW2] at c4
  rw [hWA] at HCB HB HV HRA
  generalize w1.heap.size = cb at *
  have hd : Below WA.heap.size WA WA.drew := (Below.refl _ _).drew
  have HBD := Lib.hid (HB.out.later hd)
  have HVD := Lib.hid (HV.out.later hd)
  have HCD := Lib.hid (HCB.out.later hd)
  have HWD := Lib.hid (And.intro HRA.out.rb (sub_trans HRA.out.below hd))
  clear hWA hW2 c4 HB HV HRA HCB HR1 HLP hd
  generalize hWD : WA.drew = WD at *
  have HWDE := Lib.hid hWD
  clear hWD
  obtain ⟨u, hu0, hur⟩ := HVD.out.row ps.length (by omega)
  have e9 : s.ps[ps.length]'(by omega) = p := by simp [HS.out]
  rw [e9] at hur
  obtain ⟨A', k', rfl, _, hkm'⟩ := own_form hur
  have hps := HVD.out.ps
  rw [hsl] at hps
  obtain ⟨g, k9, hve, hg0, hgl, hgk, hcu, _, _⟩ := own_at hps (b := ps.length) (by omega)
  injection hve with hA _ hk9
  subst hA
  subst hk9
  rw [hu0] at hcu
  have hgn : g < WD.heap.size := hgl
  obtain ⟨WB, hWB⟩ : ∃ WB, WD.alloc (.cells y.arr 50) = WB := ⟨_, rfl⟩
  have hWB2 : WD.alloc (.cells #[.int .i64 y.k, .string y.id, .int .i64 y.tick, .int .i64 y.value, .int .i64 y.handle, .int .i64 y.a, .int .i64 y.b, .int .i64 y.c, .int .i64 y.d, .int .i64 y.e, .int .i64 y.f] 50) = WB := hWB
  have hbB : Below WD.heap.size WD WB := by rw [← hWB]; exact sub_alloc (Below.refl _ _) _
  have HCU : Hid (WD.cell? ⟨g, ps.length, none⟩ = some (.slice A' p.length k') ∧ WB.cell? ⟨g, ps.length, none⟩ = some (.slice A' p.length k')) := Lib.hid ⟨hcu, (hbB.cell (p := ⟨g, ps.length, none⟩) hgn).trans hcu⟩
  have HSS : Hid (CallS rb cb (rdArr s (.slice (some ⟨g, 0, none⟩) (ps.length + 1) k) v2 1) y WD ∧ CallS rb cb (rdArr s (.slice (some ⟨g, 0, none⟩) (ps.length + 1) k) v2 1) y WB) := by
    rw [hsl] at HBD
    exact Lib.hid ⟨⟨HBD.out, HCD.out⟩, HBD.out.later hbB, HCD.out.later hbB⟩
  have HRN : Hid (Reads WB WB.heap.size 11 (some ⟨WD.heap.size, 0, none⟩) 1 y.arr.toList) := Lib.hid (by rw [← hWB]; exact reads_newS WD 50 y.arr 11 1 WD.heap.size _ rfl rfl (by simp))
  have HVB := Lib.hid (HVD.out.later hbB)
  have HUB := Lib.hid (own_later hur hbB)
  have HWB := Lib.hid (And.intro HWD.out.1 (And.intro (sub_trans HWD.out.2 hbB) hu0))
  have HZ := Lib.hid hWB2
  clear hu0 hur e9 hkm' hps hg0 hgl hgk hcu hgn hbB hWB hWB2
  have hw : IntKind.i64.wrap (ps.length : Int) = (ps.length : Int) := IntWalk.i64_in _ ⟨by omega, by omega⟩
  have hp0 : 0 ≤ (ps.length : Int) := by omega
  have hpl : (ps.length : Int) < (ps.length : Int) + 1 := by omega
  have hpt : (ps.length : Int).toNat = ps.length := by omega
  have hS := HSS.out.1
  obtain ⟨m, hm⟩ : ∃ m, m = ps.length := ⟨_, rfl⟩
  refine any_start (S := CallS rb cb (rdArr s (.slice (some ⟨g, 0, none⟩) (ps.length + 1) k) v2 1) y) (by kernel_rfl) (by rw [HWDE.out]; exact hS) ?_
  rw [HWDE.out]
  simp only [List.length_cons, List.length_nil, Nat.reduceAdd, List.size_toArray]
  refine any_pure 0 (v := ?_) rfl (by kernel_rfl) (by intro _ _ _ h; exact h) (by assumption) (by rfl) (fun W hW => ?_) ?_
  rotate_left
  · first | (go_simp; done) | (go_simp; with_reducible rfl)
  try simp only [Act.put, List.setIfInBounds_toArray, List.set_cons_zero, List.set_cons_succ]
  refine any_pure 1 (v := ?_) rfl (by kernel_rfl) (by intro _ _ _ h; exact h) (by assumption) (by rfl) (fun W hW => ?_) ?_
  rotate_left
  · first | (go_simp; done) | (go_simp; with_reducible rfl)
  try simp only [Act.put, List.setIfInBounds_toArray, List.set_cons_zero, List.set_cons_succ]
  refine any_pure 2 (v := ?_) rfl (by kernel_rfl) (by intro _ _ _ h; exact h) (by assumption) (by rfl) (fun W hW => ?_) ?_
  rotate_left
  · first | (go_simp; done) | (go_simp; with_reducible rfl)
  try simp only [Act.put, List.setIfInBounds_toArray, List.set_cons_zero, List.set_cons_succ]
  refine any_pure 3 (v := ?_) rfl (by kernel_rfl) (by intro _ _ _ h; exact h) (by assumption) (by rfl) (fun W hW => ?_) ?_
  rotate_left
  · first | (go_simp; done) | (go_simp; with_reducible rfl)
  try simp only [Act.put, List.setIfInBounds_toArray, List.set_cons_zero, List.set_cons_succ]
  refine any_pure 4 (v := ?_) rfl (by kernel_rfl) (by intro _ _ _ h; exact h) (by assumption) (by rfl) (fun W hW => ?_) ?_
  rotate_left
  · have c4 := hW.1.cell 4; simp only [rdArr, List.getElem?_toArray, List.getElem?_cons_succ, List.getElem?_cons_zero] at c4; first | (go_simp; done) | (go_simp; with_reducible rfl)
  try simp only [Act.put, List.setIfInBounds_toArray, List.set_cons_zero, List.set_cons_succ]
  refine any_pure 5 (v := ?_) rfl (by kernel_rfl) (by intro _ _ _ h; exact h) (by assumption) (by rfl) (fun W hW => ?_) ?_
  rotate_left
  · first | (go_simp; done) | (go_simp; with_reducible rfl)
  try simp only [Act.put, List.setIfInBounds_toArray, List.set_cons_zero, List.set_cons_succ]
  refine any_pure 6 (v := ?_) rfl (by kernel_rfl) (by intro _ _ _ h; exact h) (by assumption) (by rfl) (fun W hW => ?_) ?_
  rotate_left
  · first | (go_simp; done) | (go_simp; with_reducible rfl)
  try simp only [Act.put, List.setIfInBounds_toArray, List.set_cons_zero, List.set_cons_succ]
  refine any_pure 7 (v := ?_) rfl (by kernel_rfl) (by intro _ _ _ h; exact h) (by assumption) (by rfl) (fun W hW => ?_) ?_
  rotate_left
  · first | (go_simp; done) | (go_simp; with_reducible rfl)
  try simp only [Act.put, List.setIfInBounds_toArray, List.set_cons_zero, List.set_cons_succ]
  refine any_pure 8 (v := ?_) rfl (by kernel_rfl) (by intro _ _ _ h; exact h) (by assumption) (by rfl) (fun W hW => ?_) ?_
  rotate_left
  · first | (go_simp; done) | (go_simp; with_reducible rfl)
  try simp only [Act.put, List.setIfInBounds_toArray, List.set_cons_zero, List.set_cons_succ]
  refine any_pure 9 (v := ?_) rfl (by kernel_rfl) (by intro _ _ _ h; exact h) (by assumption) (by rfl) (fun W hW => ?_) ?_
  rotate_left
  · first | (go_simp; done) | (go_simp; with_reducible rfl)
  try simp only [Act.put, List.setIfInBounds_toArray, List.set_cons_zero, List.set_cons_succ]
  refine any_pure 10 (v := ?_) rfl (by kernel_rfl) (by intro _ _ _ h; exact h) (by assumption) (by rfl) (fun W hW => ?_) ?_
  rotate_left
  · first | (go_simp; done) | (go_simp; with_reducible rfl)
  try simp only [Act.put, List.setIfInBounds_toArray, List.set_cons_zero, List.set_cons_succ]
  refine any_pure 11 (v := ?_) rfl (by kernel_rfl) (by intro _ _ _ h; exact h) (by assumption) (by rfl) (fun W hW => ?_) ?_
  rotate_left
  · have c4 := hW.1.cell 4; simp only [rdArr, List.getElem?_toArray, List.getElem?_cons_succ, List.getElem?_cons_zero] at c4; first | (go_simp; done) | (go_simp; with_reducible rfl)
  try simp only [Act.put, List.setIfInBounds_toArray, List.set_cons_zero, List.set_cons_succ]
  refine any_pure 12 (v := ?_) rfl (by kernel_rfl) (by intro _ _ _ h; exact h) (by assumption) (by rfl) (fun W hW => ?_) ?_
  rotate_left
  · first | (go_simp; done) | (go_simp; with_reducible rfl)
  try simp only [Act.put, List.setIfInBounds_toArray, List.set_cons_zero, List.set_cons_succ]
  refine any_pure 13 (v := ?_) rfl (by kernel_rfl) (by intro _ _ _ h; exact h) (by assumption) (by rfl) (fun W hW => ?_) ?_
  rotate_left
  · first | (go_simp; done) | (go_simp; with_reducible rfl)
  try simp only [Act.put, List.setIfInBounds_toArray, List.set_cons_zero, List.set_cons_succ]
  refine any_pure 14 (v := ?_) rfl (by kernel_rfl) (by intro _ _ _ h; exact h) (by assumption) (by rfl) (fun W hW => ?_) ?_
  rotate_left
  · first | (go_simp; done) | (go_simp; with_reducible rfl)
  try simp only [Act.put, List.setIfInBounds_toArray, List.set_cons_zero, List.set_cons_succ]
  refine any_pure 16 (v := ?_) rfl (by kernel_rfl) (by intro _ _ _ h; exact h) (by assumption) (by rfl) (fun W hW => ?_) ?_
  rotate_left
  · obtain ⟨c0, c1, c2, c3, c4, c5, c6, c7, c8, c9, c10⟩ := hW.2.c11; first | (go_simp; done) | (go_simp; with_reducible rfl)
  try simp only [Act.put, List.setIfInBounds_toArray, List.set_cons_zero, List.set_cons_succ]
  refine any_two 15 17 (by kernel_rfl) rfl rfl (by rfl) (by rfl) (fun K hK => ?_) (fun K hK => ?_)
  · skip
    have cA := HCU.out.1
    have cB := HCU.out.2
    go_simp
    refine hK _ _ (by first | exact HSS.out.1 | exact HSS.out.2) ?_
    clear hK cA cB
    try simp only [Act.put, List.setIfInBounds_toArray, List.set_cons_zero, List.set_cons_succ]
    refine any_one 17 (by kernel_rfl) rfl (by rfl) (fun K hK => ?_)
    go_simp
    rw [HZ.out]
    have hS := HSS.out.2
    refine hK _ _ hS ?_
    clear hK
    try simp only [Act.put, List.setIfInBounds_toArray, List.set_cons_zero, List.set_cons_succ]
    refine any_one 18 (by kernel_rfl) rfl (by rfl) (fun K hK => ?_)
    refine wp_append_oneN (w := WB) (g := WD.heap.size) elemCall (by decide) (.tmp 39) (.tmp 41) rfl rfl HUB.out HWB.out.2.1.size HRN.out rfl (by simp [Value.oneCell', Cl.arr]) (by omega) (by unfold maxLen; omega) ?_
    intro v' w' hm' hg' hn'
    have hm2 : w'.ownsRow w0.heap.size 50 11 v' (p.length + 1) (cls (p ++ [y])) := by rw [← cls_snoc]; exact hm'
    have hvb := HVB.out
    rw [hsl] at hvb
    obtain ⟨g5, k5, hv5, q1, q2, q3, q4, q5, q6, q7, q8⟩ := hvb.call HS.out HWB.out.2.2 hg' hm2 hn' (by decide) (by decide) (by decide)
    injection hv5 with e1 _ _
    injection e1 with e1
    injection e1 with e1 _ _
    subst e1
    obtain ⟨A7, k7, rfl, _, _⟩ := own_form hm2
    have hS : CallS rb cb (rdArr s (.slice (some ⟨g, 0, none⟩) (ps.length + 1) k) v2 1) y w' := ⟨HSS.out.2.1.grown hg' (fun e => own_ne HUB.out HSS.out.2.1 (by decide) e.symm), HSS.out.2.2.grown hg' (fun e => HNE.out _ HWB.out.2.2 e.symm)⟩
    have hS9 : CallS rb cb (rdArr s (.slice (some ⟨g, 0, none⟩) (ps.length + 1) k) v2 1) y (w'.setCell ⟨g, ps.length, none⟩ (.slice A7 (p.length + 1) k7)) := ⟨hS.1.far (p := ⟨g, ps.length, none⟩) (fun e => own_ne hvb.ps HSS.out.2.1 (by decide) (by rw [e]; rfl)) _, hS.2.far (p := ⟨g, ps.length, none⟩) (fun e => own_ne hvb.ps HSS.out.2.2 (by decide) (by rw [e]; rfl)) _⟩
    have HQ := Lib.hid (And.intro q8 (And.intro hS9 ((HWB.out.2.1.grown hg' HWB.out.2.1.size (fun j e => (HUB.out.lt j e).1)).setCell (p := ⟨g, ps.length, none⟩) q1 (.slice A7 (p.length + 1) k7))))
    clear hm' hg' hn' hm2 hvb q1 q2 q3 q4 q5 q8 hS9
    refine hK _ _ hS ?_
    clear hK
    try simp only [Act.put, List.setIfInBounds_toArray, List.set_cons_zero, List.set_cons_succ]
    refine any_pure 19 (v := ?_) rfl (by kernel_rfl) (by intro _ _ _ h; exact h) (by assumption) (by rfl) (fun W hW => ?_) ?_
    rotate_left
    · first | (go_simp; done) | (go_simp; with_reducible rfl)
    try simp only [Act.put, List.setIfInBounds_toArray, List.set_cons_zero, List.set_cons_succ]
    refine any_one 20 (by kernel_rfl) rfl (by rfl) (fun K hK => ?_)
    go_simp
    refine hK _ _ HQ.out.2.1 ?_
    clear hK q6 q7
    try simp only [Act.put, List.setIfInBounds_toArray, List.set_cons_zero, List.set_cons_succ]
    refine any_done (by kernel_rfl) ?_
    go_wp2
    go_ret
    exact ⟨rfl, ⟨⟨_, v2, _, HQ.out.2.1.1, HQ.out.1⟩, HWB.out.1, HQ.out.2.2⟩⟩
  · skip
    go_simp
    rw [HZ.out]
    have hS := HSS.out.2
    refine hK _ _ hS ?_
    clear hK
    try simp only [Act.put, List.setIfInBounds_toArray, List.set_cons_zero, List.set_cons_succ]
    refine any_one 15 (by kernel_rfl) rfl (by rfl) (fun K hK => ?_)
    have cA := HCU.out.1
    have cB := HCU.out.2
    go_simp
    refine hK _ _ (by first | exact HSS.out.1 | exact HSS.out.2) ?_
    clear hK cA cB
    try simp only [Act.put, List.setIfInBounds_toArray, List.set_cons_zero, List.set_cons_succ]
    refine any_one 18 (by kernel_rfl) rfl (by rfl) (fun K hK => ?_)
    refine wp_append_oneN (w := WB) (g := WD.heap.size) elemCall (by decide) (.tmp 39) (.tmp 41) rfl rfl HUB.out HWB.out.2.1.size HRN.out rfl (by simp [Value.oneCell', Cl.arr]) (by omega) (by unfold maxLen; omega) ?_
    intro v' w' hm' hg' hn'
    have hm2 : w'.ownsRow w0.heap.size 50 11 v' (p.length + 1) (cls (p ++ [y])) := by rw [← cls_snoc]; exact hm'
    have hvb := HVB.out
    rw [hsl] at hvb
    obtain ⟨g5, k5, hv5, q1, q2, q3, q4, q5, q6, q7, q8⟩ := hvb.call HS.out HWB.out.2.2 hg' hm2 hn' (by decide) (by decide) (by decide)
    injection hv5 with e1 _ _
    injection e1 with e1
    injection e1 with e1 _ _
    subst e1
    obtain ⟨A7, k7, rfl, _, _⟩ := own_form hm2
    have hS : CallS rb cb (rdArr s (.slice (some ⟨g, 0, none⟩) (ps.length + 1) k) v2 1) y w' := ⟨HSS.out.2.1.grown hg' (fun e => own_ne HUB.out HSS.out.2.1 (by decide) e.symm), HSS.out.2.2.grown hg' (fun e => HNE.out _ HWB.out.2.2 e.symm)⟩
    have hS9 : CallS rb cb (rdArr s (.slice (some ⟨g, 0, none⟩) (ps.length + 1) k) v2 1) y (w'.setCell ⟨g, ps.length, none⟩ (.slice A7 (p.length + 1) k7)) := ⟨hS.1.far (p := ⟨g, ps.length, none⟩) (fun e => own_ne hvb.ps HSS.out.2.1 (by decide) (by rw [e]; rfl)) _, hS.2.far (p := ⟨g, ps.length, none⟩) (fun e => own_ne hvb.ps HSS.out.2.2 (by decide) (by rw [e]; rfl)) _⟩
    have HQ := Lib.hid (And.intro q8 (And.intro hS9 ((HWB.out.2.1.grown hg' HWB.out.2.1.size (fun j e => (HUB.out.lt j e).1)).setCell (p := ⟨g, ps.length, none⟩) q1 (.slice A7 (p.length + 1) k7))))
    clear hm' hg' hn' hm2 hvb q1 q2 q3 q4 q5 q8 hS9
    refine hK _ _ hS ?_
    clear hK
    try simp only [Act.put, List.setIfInBounds_toArray, List.set_cons_zero, List.set_cons_succ]
    refine any_pure 19 (v := ?_) rfl (by kernel_rfl) (by intro _ _ _ h; exact h) (by assumption) (by rfl) (fun W hW => ?_) ?_
    rotate_left
    · first | (go_simp; done) | (go_simp; with_reducible rfl)
    try simp only [Act.put, List.setIfInBounds_toArray, List.set_cons_zero, List.set_cons_succ]
    refine any_one 20 (by kernel_rfl) rfl (by rfl) (fun K hK => ?_)
    go_simp
    refine hK _ _ HQ.out.2.1 ?_
    clear hK q6 q7
    try simp only [Act.put, List.setIfInBounds_toArray, List.set_cons_zero, List.set_cons_succ]
    refine any_done (by kernel_rfl) ?_
    go_wp2
    go_ret
    exact ⟨rfl, ⟨⟨_, v2, _, HQ.out.2.1.1, HQ.out.1⟩, HWB.out.1, HQ.out.2.2⟩⟩
end Go.Proofs.YteljecehppeamaaGreatDoor
