/- Lemmas of this claim. Conditions: as each says. -/
import Derived.Test.YtpfmpaolgmoajaaGreatK25
set_option linter.unusedVariables false
set_option linter.unusedSimpArgs false
set_option maxHeartbeats 4000000
set_option maxRecDepth 20000
set_option linter.defProp false
open Go.Proofs.Tryz
namespace Go.Fw
open Go.RowKit open Go.Proofs hiding intOf
end Go.Fw
namespace Go.Proofs.YtpfmpaolgmoajaaGreat.lawTopLinear
open Go.ChangeShapes Go.WideShapes Go.ChangeAt Go.RowKit Go.Fw
theorem own : ownKnob prog.godebug = none := by kernel_rfl
theorem laidOut : laidOutB prog = true := by kernel_rfl
set_option maxRecDepth 100000 in
theorem lifted (os : Os) (started : os.Started) (H : Type) (enc : TypeId × Value → H) :
    ReturnsInHanded {} checked os 4 .any (Rows.topLinearSpec.pre6 enc prog f4 Rows.topLinearRow.domain false) (Rows.topLinearSpec.post enc prog f4 false true false false) := by
  refine returnsInHanded_of_change_sized (C := checked) own started (by kernel_rfl) func4
    (ChangeSpec.witness6 (enc := enc) (C := checked) false ⟨#[], #[.agg #[.int .i64 0, .int .i64 0, .int .i64 0, .int .i64 0], .slice none 0 0, .int .i64 0, .slice none 0 0], []⟩ 8 (by kernel_rfl) (by kernel_rfl) (by kernel_rfl) (by kernel_rfl)) ?_
  intro W base args ds gs before hval0 hW hcnd hsz0 _
  have hsz : (DataW.weightsEach prog (f4.params.toList ++ Rows.topLinearSpec.plain.varTypes prog) (ds ++ gs)).all (· ≤ reachBytes) = true := hsz0
  clear hsz0
  have hval : ∀ (j : Nat) t v, f4.params[j]? = some t → args[j]? = some v → Value.okWide prog W .any base t v := hval0
  have hW' := hW
  obtain ⟨p, q, hA0, hV, rfl, hfz, hnd⟩ := hW
  have hA : DataW.TrodAll enc prog W 0 (fun _ => true) true f4.params.toList args.toList ds p := hA0
  rw [params4] at hA hval hsz
  obtain ⟨v0, vs0, d0, ds0, p0, q0, hargs, rfl, rfl, h0, r0⟩ := trodAll_cons hA
  obtain ⟨v1, vs1, d1, ds1, p1, q1, rfl, rfl, rfl, h1, r1⟩ := trodAll_cons r0
  obtain ⟨v2, vs2, d2, ds2, p2, q2, rfl, rfl, rfl, h2, r2⟩ := trodAll_cons r1
  obtain ⟨v3, vs3, d3, ds3, p3, q3, rfl, rfl, rfl, h3, r3⟩ := trodAll_cons r2
  obtain ⟨rfl, rfl, rfl⟩ := trodAll_nil r3
  obtain rfl : args = #[v0, v1, v2, v3] := by cases args; simp_all
  obtain ⟨rfl, rfl⟩ := trodVars_none hV
  have k0 := h0
  have lt0 := sc h0
  obtain ⟨sa0, sb0, sc0, sd0, rfl, hc0⟩ := MV (hval 0 23 v0 rfl rfl) h0
  have k1 := h1
  have lt1 := sc h1
  obtain ⟨A1, c1, n1, ps1, rfl, hP1, hx1⟩ := MW (hval 1 24 v1 rfl rfl) h1
  have k2 := h2
  have lt2 := sc h2
  obtain ⟨n2, rfl, hn2⟩ := Ls underlying3 (hval 2 3 v2 rfl rfl) h2
  have k3 := h3
  have lt3 := sc h3
  obtain ⟨A3, c3, l3, rfl, hl3, hs3, hr3⟩ := Hq underlying25 underlying3 (by kernel_rfl) (hval 3 25 v3 rfl rfl) h3
  have hbe : prog.bytesOf 40 = 24 := by kernel_rfl
  have hreach : n1 ≤ 10000000000000 := Hn h1 fun elems spare he => by
    have h9 := sized_slice hsz (j := 1) (t := 24) (e := 40) (elems := elems) (spare := spare) rfl (by rw [he]; rfl) underlying24
    rwa [hbe] at h9
  clear hA0 hval0
  refine (uj sa0 sb0 sc0 sd0 A1 c1 n1 ps1 n2 l3 A3 c3 W hc0 hP1 hx1 hn2 hr3 hs3 hl3 hreach).mono fun e W' ⟨he, bel⟩ => ?_
  subst he
  exact ⟨_, rfl, _, _, _, [], _, [], hW', trodAll_mk1 (shut_bool underlying4 _), (trodAll_cons_mk (Below.trod laidOut (by kernel_rfl) (of_decide_eq_true (by kernel_rfl)) k0 bel lt0) (trodAll_cons_mk (Below.trod laidOut (by kernel_rfl) (of_decide_eq_true (by kernel_rfl)) k1 bel lt1) (trodAll_cons_mk (Below.trod laidOut (by kernel_rfl) (of_decide_eq_true (by kernel_rfl)) k2 bel lt2) (trodAll_cons_mk (Below.trod laidOut (by kernel_rfl) (of_decide_eq_true (by kernel_rfl)) k3 bel lt3) trodAll_mk0)))), rfl, bel.frame _, fun h => by cases h⟩
theorem and2 {a b : Bool} (h : a = true) (k : b = true) : (a && b) = true := by rw [h, k]; rfl
set_option maxRecDepth 100000 in
set_option maxHeartbeats 4000000 in
theorem closed : joinedFacts prog 4 f4 Rows.topLinearSpec Rows.topLinearRow = true := by
  unfold joinedFacts
  repeat' (with_reducible refine and2 ?_ ?_)
  all_goals (as_aux_lemma => kernel_rfl)
set_option maxRecDepth 100000 in
theorem named : prog.funcNamed Rows.topLinearRow.func = some 4 := by kernel_rfl
theorem over : Rows.topLinearRow.holds Tryz.pinned (OpenSpec.ofChange Rows.topLinearSpec) :=
  OpenClaim.holds_of_wide 4 f4 rfl rfl rfl rfl rfl rfl rfl ⟨rfl, rfl, rfl, rfl, rfl⟩ rfl rfl rfl rfl rfl named func4 closed
    (of_decide_eq_true (by kernel_rfl)) (by unfold Func.isWrapper; first | (rw [if_pos (by decide +kernel)]; kernel_rfl) | (rw [if_neg (by decide +kernel)]; exact ⟨rfl, rfl⟩))
    (fun os started H enc _ => lifted os started H enc)
theorem proved : Rows.TopLinearSaid := over
#print axioms proved
end Go.Proofs.YtpfmpaolgmoajaaGreat.lawTopLinear
namespace Go.Fw
open Go.RowKit open Go.Proofs hiding intOf
end Go.Fw
