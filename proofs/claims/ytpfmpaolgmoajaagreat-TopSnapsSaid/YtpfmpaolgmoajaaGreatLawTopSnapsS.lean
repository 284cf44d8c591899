/- Lemmas of this claim. Conditions: as each says. -/
import Derived.Test.YtpfmpaolgmoajaaGreatS27
set_option linter.unusedVariables false
set_option linter.unusedSimpArgs false
set_option maxHeartbeats 4000000
set_option maxRecDepth 20000
set_option linter.defProp false
open Go.Proofs.Tryz
namespace Go.Fw
open Go.RowKit open Go.Proofs hiding intOf
end Go.Fw
namespace Go.Proofs.YtpfmpaolgmoajaaGreat.lawTopSnaps
open Go.ChangeShapes Go.WideShapes Go.ChangeAt Go.RowKit Go.Fw
theorem own:ownKnob prog.godebug=none:=zR
theorem laidOut:laidOutB prog=true:=zR
set_option maxRecDepth 100000 in
theorem lifted(os:Os)(started:os.Started)(H:Type)(enc:TypeId×Value->H):
  ReturnsInHanded {} checked os 5 .any (Rows.topSnapsSpec.pre6 enc prog f5 Rows.topSnapsRow.domain false) (Rows.topSnapsSpec.post enc prog f5 false true false false):=by
 refine returnsInHanded_of_change_sized (C:=checked) own started zR func5
  (ChangeSpec.witness6 (enc:=enc) (C:=checked) false ⟨#[],#[.agg #[I 0,I 0,I 0,I 0],.slice none 0 0,I 0,.slice none 0 0,I 0,I 0],[]⟩ 8 zR zR zR zR) ?_
 intro W k c w gs x f hW aq l _;have i:(DataW.weightsEach prog (f5.params.toList++Rows.topSnapsSpec.plain.varTypes prog) (w++gs)).all (·<=reachBytes)=true:=l;have a:∀(j:Nat) t v,f5.params[j]?=some t->c[j]?=some v->Value.okWide prog W .any k t v:=f;have y:=hW;obtain⟨p,q,z,hV,rfl,bf,bg⟩:=hW;have A:DataW.TrodAll enc prog W 0 (λ_=>true) true f5.params.toList c.toList w p:=z;rw[params5]at A a i;obtain⟨B,bh,d0,bi,p0,q0,ao,rfl,rfl,m,r0⟩:=trodAll_cons A;obtain⟨D,bj,d1,bk,p1,q1,rfl,rfl,rfl,g,r1⟩:=trodAll_cons r0;obtain⟨F,bl,d2,bm,p2,q2,rfl,rfl,rfl,n,r2⟩:=trodAll_cons r1;obtain⟨G,bn,d3,bo,p3,q3,rfl,rfl,rfl,o,r3⟩:=trodAll_cons r2;obtain⟨L,bp,d4,bq,p4,q4,rfl,rfl,rfl,r,r4⟩:=trodAll_cons r3;obtain⟨N,br,d5,bs,p5,q5,rfl,rfl,rfl,s,r5⟩:=trodAll_cons r4;obtain⟨rfl,rfl,rfl⟩:=trodAll_nil r5;obtain rfl:c=#[B,D,F,G,L,N]:=by cases c;simp_all
 obtain⟨rfl,rfl⟩:=trodVars_none hV;have k0:=m;have O:=sc m;obtain⟨P,Q,R,S,rfl,T⟩:=MV (a 0 23 B rfl rfl) m;have k1:=g;have U:=sc g;obtain⟨A1,c1,X,aa,rfl,ab,ac⟩:=MW (a 1 24 D rfl rfl) g;have k2:=n;have ad:=sc n;obtain⟨n2,rfl,ae⟩:=Ls underlying3 (a 2 3 F rfl rfl) n;have k3:=o;have af:=sc o;obtain⟨A3,c3,l3,rfl,ag,ah,ai⟩:=Hq underlying25 underlying3 zR (a 3 25 G rfl rfl) o;have k4:=r;have aj:=sc r;obtain⟨n4,rfl,ak⟩:=Ls underlying2 (a 4 2 L rfl rfl) r;have k5:=s;have al:=sc s;obtain⟨n5,rfl,am⟩:=Ls underlying2 (a 5 2 N rfl rfl) s;have an:prog.bytesOf 40=24:=zR;have d:X<=10000000000000:=Hn g λelems spare u=>by
  have h9:=sized_slice i (j:=1) (t:=24) (e:=40) (elems:=elems) (spare:=spare) rfl (by rw[u];rfl) underlying24
  rwa [an]at h9
 refine(Ts P Q R S A1 c1 X aa n2 l3 A3 c3 n4 n5 W T ab ac ae ai ah ag ak am d).mono λe W' ⟨u,b⟩=>?_;subst u;exact⟨_,rfl,_,_,_,[],_,[],y,trodAll_mk1 (shut_bool underlying4 _),(trodAll_cons_mk (TN laidOut zR (QL zR) k0 b O) (trodAll_cons_mk (TN laidOut zR (QL zR) k1 b U) (trodAll_cons_mk (TN laidOut zR (QL zR) k2 b ad) (trodAll_cons_mk (TN laidOut zR (QL zR) k3 b af) (trodAll_cons_mk (TN laidOut zR (QL zR) k4 b aj) (trodAll_cons_mk (TN laidOut zR (QL zR) k5 b al) trodAll_mk0)))))),rfl,b.frame _,λh=>by cases h⟩
theorem and2{a b:Bool}(h:a=true)(k:b=true):(a&&b)=true:=by rw[h,k];rfl
set_option maxRecDepth 100000 in
set_option maxHeartbeats 4000000 in
theorem closed:joinedFacts prog 5 f5 Rows.topSnapsSpec Rows.topSnapsRow=true:=by
 unfold joinedFacts
 repeat' (with_reducible refine and2 ?_ ?_)
 all_goals (as_aux_lemma=>kernel_rfl)
set_option maxRecDepth 100000 in
theorem named:prog.funcNamed Rows.topSnapsRow.func=some 5:=zR
theorem over:Rows.topSnapsRow.holds Tryz.pinned (OpenSpec.ofChange Rows.topSnapsSpec):=
 OpenClaim.holds_of_wide 5 f5 rfl rfl rfl rfl rfl rfl rfl ⟨rfl,rfl,rfl,rfl,rfl⟩ rfl rfl rfl rfl rfl named func5 closed
  (QL zR) (by unfold Func.isWrapper;first|(rw[OB (by decide+kernel)];kernel_rfl)|(rw[Oz (by decide+kernel)];exact⟨rfl,rfl⟩))
  (λc a H b _=>lifted c a H b)
theorem proved:Rows.TopSnapsSaid:=over
#print axioms proved
end Go.Proofs.YtpfmpaolgmoajaaGreat.lawTopSnaps
namespace Go.Fw
open Go.RowKit open Go.Proofs hiding intOf
end Go.Fw
