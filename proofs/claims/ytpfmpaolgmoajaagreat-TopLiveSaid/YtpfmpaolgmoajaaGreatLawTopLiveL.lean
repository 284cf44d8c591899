/- Lemmas of this claim. Conditions: as each says. -/
import Derived.Test.YtpfmpaolgmoajaaGreatL15
set_option linter.unusedVariables false
set_option linter.unusedSimpArgs false
set_option maxHeartbeats 4000000
set_option maxRecDepth 20000
set_option linter.defProp false
open Go.Proofs.Tryz
namespace Go.Fw
open Go.RowKit open Go.Proofs hiding intOf
end Go.Fw
namespace Go.Proofs.YtpfmpaolgmoajaaGreat.lawTopLive
open Go.ChangeShapes Go.WideShapes Go.ChangeAt Go.RowKit Go.Fw
theorem own:ownKnob prog.godebug=none:=zR
theorem laidOut:laidOutB prog=true:=zR
set_option maxRecDepth 100000 in
theorem lifted(os:Os)(started:os.Started)(H:Type)(enc:TypeId×Value->H):
  ReturnsInHanded {} checked os 3 .any (Rows.topLiveSpec.pre6 enc prog f3 Rows.topLiveRow.domain false) (Rows.topLiveSpec.post enc prog f3 false true false false):=by
 refine returnsInHanded_of_change_sized (C:=checked) own started zR func3
  (ChangeSpec.witness6 (enc:=enc) (C:=checked) false ⟨#[],#[.agg #[I 0,I 0,I 0,I 0],.slice none 0 0,I 0,.slice none 0 0],[]⟩ 8 zR zR zR zR) ?_
 intro W k b s gs u f hW ai l _;have i:(DataW.weightsEach prog (f3.params.toList++Rows.topLiveSpec.plain.varTypes prog) (s++gs)).all (·<=reachBytes)=true:=l;have a:∀(j:Nat) t v,f3.params[j]?=some t->b[j]?=some v->Value.okWide prog W .any k t v:=f;have w:=hW;obtain⟨p,q,x,hV,rfl,a1,a2⟩:=hW;have y:DataW.TrodAll enc prog W 0 (λ_=>true) true f3.params.toList b.toList s p:=x;rw[params3]at y a i;obtain⟨z,a3,d0,a4,p0,q0,ag,rfl,rfl,m,r0⟩:=trodAll_cons y;obtain⟨A,a5,d1,a6,p1,q1,rfl,rfl,rfl,g,r1⟩:=trodAll_cons r0;obtain⟨B,a7,d2,a8,p2,q2,rfl,rfl,rfl,n,r2⟩:=trodAll_cons r1;obtain⟨D,a9,d3,ba,p3,q3,rfl,rfl,rfl,o,r3⟩:=trodAll_cons r2;obtain⟨rfl,rfl,rfl⟩:=trodAll_nil r3;obtain rfl:b=#[z,A,B,D]:=by cases b;simp_all
 obtain⟨rfl,rfl⟩:=trodVars_none hV;have k0:=m;have F:=sc m;obtain⟨G,L,N,O,rfl,P⟩:=MV (a 0 23 z rfl rfl) m;have k1:=g;have Q:=sc g;obtain⟨A1,c1,R,S,rfl,T,U⟩:=MW (a 1 24 A rfl rfl) g;have k2:=n;have X:=sc n;obtain⟨n2,rfl,aa⟩:=Ls underlying3 (a 2 3 B rfl rfl) n;have k3:=o;have ab:=sc o;obtain⟨A3,c3,l3,rfl,ac,ad,ae⟩:=Hq underlying25 underlying3 zR (a 3 25 D rfl rfl) o;have af:prog.bytesOf 40=24:=zR;have d:R<=10000000000000:=Hn g λelems spare r=>by
  have h9:=sized_slice i (j:=1) (t:=24) (e:=40) (elems:=elems) (spare:=spare) rfl (by rw[r];rfl) underlying24
  rwa [af]at h9
 refine(Uu G L N O A1 c1 R S n2 l3 A3 c3 W P T U aa ae ad ac d).mono λe W' ⟨r,c⟩=>?_;subst r;exact⟨_,rfl,_,_,_,[],_,[],w,trodAll_mk1 (shut_bool underlying4 _),(trodAll_cons_mk (Below.trod laidOut zR (QL zR) k0 c F) (trodAll_cons_mk (Below.trod laidOut zR (QL zR) k1 c Q) (trodAll_cons_mk (Below.trod laidOut zR (QL zR) k2 c X) (trodAll_cons_mk (Below.trod laidOut zR (QL zR) k3 c ab) trodAll_mk0)))),rfl,c.frame _,λh=>by cases h⟩
theorem and2{a b:Bool}(h:a=true)(k:b=true):(a&&b)=true:=by rw[h,k];rfl
set_option maxRecDepth 100000 in
set_option maxHeartbeats 4000000 in
theorem closed:joinedFacts prog 3 f3 Rows.topLiveSpec Rows.topLiveRow=true:=by
 unfold joinedFacts
 repeat' (with_reducible refine and2 ?_ ?_)
 all_goals (as_aux_lemma=>kernel_rfl)
set_option maxRecDepth 100000 in
theorem named:prog.funcNamed Rows.topLiveRow.func=some 3:=zR
theorem over:Rows.topLiveRow.holds Tryz.pinned (OpenSpec.ofChange Rows.topLiveSpec):=
 OpenClaim.holds_of_wide 3 f3 rfl rfl rfl rfl rfl rfl rfl ⟨rfl,rfl,rfl,rfl,rfl⟩ rfl rfl rfl rfl rfl named func3 closed
  (QL zR) (by unfold Func.isWrapper;first|(rw[OB (by decide+kernel)];kernel_rfl)|(rw[Oz (by decide+kernel)];exact⟨rfl,rfl⟩))
  (λc a H b _=>lifted c a H b)
theorem proved:Rows.TopLiveSaid:=over
#print axioms proved
end Go.Proofs.YtpfmpaolgmoajaaGreat.lawTopLive
namespace Go.Fw
open Go.RowKit open Go.Proofs hiding intOf
end Go.Fw
