/- Lemmas of this claim. Conditions: as each says. -/
import Derived.Test.YtpfmpaolgmoajaaGreatS14
set_option linter.unusedVariables false
set_option linter.unusedSimpArgs false
set_option maxHeartbeats 4000000
set_option maxRecDepth 20000
set_option linter.defProp false
open Go.Proofs.Tryz
namespace Go.Fw
open Go.RowKit open Go.Proofs hiding intOf
variable {a b m D5 nn:Nat}{d:Array Et}(k:Nat)(wx w0:World)(off N0 B0:Nat)
section
open Go.Shelf Go.Sort Go.Lib
set_option maxRecDepth 1000000
set_option maxHeartbeats 8000000
def xi(k:Nat)(w0:World)(B0 off N0 a b s m en:Nat)(d:Array Et)(wx:World):Prop:=∃d1,d1.size=N0/\SE k w0 B0 off d1 wx/\(∀t,d1[t]! =fw (λt=>d[t]!) s m en t)/\PermIn a b d d1
def LN(k:Nat)(w0:World)(B0 off N0 a D5 b:Nat)(d d1:Array Et)(wx:World):Prop:=∃d2,d2.size=N0/\SE k w0 B0 off d2 wx/\PermIn a D5 d1 d2/\SortedIn (ltOf bY) a D5 d2
def xi.P8{k:Nat}{w0 wx:World}{B0 off N0 s:Nat}(hA:we (ltOf bY) d a m b D5 s)(hl:SortedIn (ltOf bY) a m d)(hr:SortedIn (ltOf bY) m b d)(h:xi k w0 B0 off N0 a b s m (m+D5-s) d wx):
  ∃d1,d1.size=N0/\SE k w0 B0 off d1 wx/\PermIn a b d d1/\SortedIn (ltOf bY) a s d1/\SortedIn (ltOf bY) s D5 d1/\SortedIn (ltOf bY) D5 (m+D5-s) d1/\SortedIn (ltOf bY) (m+D5-s) b d1/\∀i j,a<=i->i<D5->D5<=j->j<b->ltOf bY d1[j]! d1[i]! =false:=by
 obtain⟨d1,c,e,f,g⟩:=h;exact⟨d1,c,e,g,CA gJ hA hl hr f⟩
def Nl{s0 r0 s:Nat}(ham:a<m)(hmb:m<b)(hmid:D5=(a+b)/2)(hn:nn=D5+m)(hc1:D5<m->s0+b=nn/\r0=D5)(hc2:m<=D5->s0=a/\r0=m)(h1:s0<=s)(h2:s<=r0)
  (hlow:s0<s->ltOf bY d[nn-s]! d[s-1]! =false)(hhigh:s<r0->ltOf bY d[nn-s-1]! d[s]! =true):we (ltOf bY) d a m b D5 s:=by
 have e:m+D5=nn:=zO;by_cases h:D5<m
 ·have g:=hc1 h;exact⟨zO,zO,zO,zO,zO,zO,zO,zO,λc f=>by rw[e];exact hlow zO,λc f=>by rw[e];exact hhigh zO⟩
 ·have g:=hc2 zO;exact⟨zO,zO,zO,zO,zO,zO,zO,zO,λc f=>by rw[e];exact hlow zO,λc f=>by rw[e];exact hhigh zO⟩
def NU{p s0 r0 N0 h:Nat}(ham:a<m)(hmb:m<b)(hb:b<=N0)(hmid:D5=(a+b)/2)(hn:nn=D5+m)(hp:p+1=nn)(hx1:s0+b>=nn)(hx2:r0<=D5/\r0<=m/\a<=s0)(hc2:m<=D5->s0=a/\r0=m)(h1:s0<=h)(h2:h<r0):
  ∃q:Nat,(p:Int)-(h:Int)=(q:Int)/\q+h+1=nn/\q<N0/\h<N0/\nn-h-1=q/\nn-(h+1)=q:=by
 refine⟨p-h,zO,zO,?_,zO,zO,zO⟩;by_cases h:D5<m
 ·omega
 ·have:=hc2 zO;omega
def Nm{s:Nat}(h:we (ltOf bY) d a m b D5 s)(hn:nn=D5+m):∃en:Nat,(nn:Int)-(s:Int)=(en:Int)/\en=m+D5-s/\a<=s/\s<=m/\s<=D5/\m<=en/\D5<=en/\en<=b/\en+s=nn:=by
 obtain⟨c,e,f,g,i,j,k,l,_,_⟩:=h;exact⟨nn-s,zO,zO,zO,zO,zO,zO,zO,zO,zO⟩
def EZ(k:Nat)(w0:World)(B0 off cap g:Nat)(cb:Array Value)(N0:Nat)(n:Nat):Prop:=∀(a m b:Nat) (d:Array Et) (w:World),d.size=N0->b-a<=n->SE k w0 B0 off d w->a<m->m<b->b<=N0->SortedIn (ltOf bY) a m d->SortedIn (ltOf bY) m b d->
 C 334 #[V B0 off N0 cap,I a,I m,I b,.func (.func g) #[] cb] w λe c=>ku k w0 B0 off a b d e c
def LO(zE:∀w,(Go.sizeOf 224).run prog w=.ok k w)(w0:World)(B0 off cap g:Nat)(cb:Array Value)(N0:Nat)(d0 d:Array Et)(R:no k w0 B0 off d0)(hs:d0.size=N0)(hsd:d.size=N0)(hsz:N0<1000000)(eg:∀args w,(callFunc g args).run prog w=.ok (.enter g args) w)(hcmp:pB k g cb B0 off N0 w0)(n:Nat)(ih:EZ k w0 B0 off cap g cb N0 n)
  (a m b:Nat)(w:World)(hbn:b-a<=n+1)(S:SE k w0 B0 off d w)(ham:a<m)(hmb:m<b)(hb:b<=N0)(hl:SortedIn (ltOf bY) a m d)(hr:SortedIn (ltOf bY) m b d)(hne1:m≠a+1)(hne2:b≠m+1):
  C 334 #[V B0 off N0 cap,I a,I m,I b,.func (.func g) #[] cb] w λe w'=>ku k w0 B0 off a b d e w':=by
 have S0:=S;have HC:Aside _:=hcmp;have a4:=Z2 hl hr;have a5:=Z1 ih;have bf:=Z1 (λa m b w=>LK k zE w0 B0 off cap g cb N0 d0 d R hs hsd zO a m b w);obtain⟨c,bs,a6,bt,dn⟩:=nL (i:=a) (j:=b) zO;have dp:a<c:=zO;obtain⟨B,bu,a7⟩:∃B:Nat,(c:Int)+(m:Int)=(B:Int)/\B=c+m:=⟨c+m,zO,rfl⟩;obtain⟨p,bv,a8⟩:∃p:Nat,(B:Int)-1=(p:Int)/\p+1=B:=⟨B-1,zO,zO⟩;obtain⟨L,N,O,P,a9⟩:∃L N:Nat,(c<m->L+b=B/\N=c)/\(m<=c->L=a/\N=m)/\L<=N:=by
  by_cases h:c<m
  ·exact⟨B-b,c,λ_=>⟨zO,rfl⟩,λh=>zO,zO⟩
  ·exact⟨a,m,λh=>zO,λ_=>⟨rfl,rfl⟩,zO⟩
 have ba:L+b>=B:=by
  by_cases h:c<m
  ·have:=O h;omega
  ·have:=P zO;omega
 have bb:N<=c/\N<=m/\a<=L:=by
  by_cases h:c<m
  ·have:=O h;omega
  ·have:=P zO;omega
 have G:=Z7 a6 a7 a8 O P ba bb;obtain⟨am,bw⟩:∃x:Int,(m:Int)-(a:Int)=x:=⟨_,rfl⟩;have bx:(am==1)=false:=zT;have bz:0<=am/\am<=1000000:=zO;obtain⟨bm,b0⟩:∃x:Int,(b:Int)-(m:Int)=x:=⟨_,rfl⟩;have b8:(bm==1)=false:=zT;have b9:0<=bm/\bm<=1000000:=zO;have ca:B<=2000000:=zO;have cc:p<B:=zO;obtain⟨x0,bc⟩:∃x:Int,(B:Int)-(b:Int)=x:=⟨_,rfl⟩;have bi: -1000000<=x0/\x0<=2000000:=zO;have ce:=Z1 bc;have bd:=Z1 hbn;have c1:prog.follows Departure.mixedOrders=true:=zR;have aE:∀w,(isAgg 224).run prog w=.ok true w:=λw=>zR;clear S hcmp hl hr ih a6 a7 a8 O P ba bb hne1 hne2 hbn
 go_in
 go_upto_if 140 with fail
 go_cut [20,21] (λu v wx=>u=I L/\v=I N/\wx=w)
 case first=>as_aux_lemma=>
  by_cases h:c<m
  ·have hz:(c:Int)<(m:Int):=zO;go_wp2;go_meet;have H:=G.o.2.2.2.1 h;have h0:=ce.o;exact⟨by congr 1;omega,by congr 1;omega,rfl⟩
  ·have hz:¬(c:Int)<(m:Int):=zO;go_wp2;go_meet;have H:=G.o.2.2.2.2.1 zO;exact⟨by congr 1;omega,by congr 1;omega,rfl⟩
 case rest=>as_aux_lemma=>
  obtain⟨rfl,rfl,rfl⟩:=hcut;clear bc bi;go_wp2;go_loopg [20,21] (N-L) (λkx s1 s2 wr=>∃(s r:Nat),s1=I s/\s2=I r/\L<=s/\s<=r/\r<=N/\r-s<=kx/\Aside (SWK Et.cells k w0 B0 off d wr)/\Hid ((L<s->ltOf bY d[B-s]! d[s-1]! =false)/\(r<N->ltOf bY d[B-r-1]! d[r]! =true)))
  case atStart=>exact⟨L,N,rfl,rfl,OA _,a9,OA _,OA _,S0,⟨λh=>zO,λh=>zO⟩⟩
  case round=>
   clear S0;obtain⟨s,r,rfl,rfl,al,dq,an,cf,X,HE⟩:=hrel;by_cases cg:s<r
   ·have c7:(s:Int)<(r:Int):=zO;obtain⟨h,dr,ch,ci,cj⟩:=nL cg;clear ch;obtain⟨q,ds,ck,c8,c9,au,av⟩:=NU ham hmb hb G.o.1 G.o.2.1 G.o.2.2.1 G.o.2.2.2.2.2.1 G.o.2.2.2.2.2.2 G.o.2.2.2.2.1 (show L<=h from OJ al ci) (OV cj an);have be:=Z2 au av;clear ck au av;have da:((q:Int):Int).toNat=q:=zO;have db:(0:Int)<=(q:Int):=zO;have dc:(q:Int)<(N0:Int):=zO;have dd:IntKind.i64.wrap ((q:Int))=(q:Int):=by rw[OX];omega
    have de:((h:Int):Int).toNat=h:=zO;have df:(0:Int)<=(h:Int):=zO;have dg:(h:Int)<(N0:Int):=zO;have dh:IntKind.i64.wrap ((h:Int))=(h:Int):=by rw[OX];omega
    obtain⟨ao,af⟩:∃x,x=d[q]!:=⟨_,rfl⟩;obtain⟨ap,ag⟩:∃x,x=d[h]!:=⟨_,rfl⟩;have ah:=X.o.ld R zO prog (q) zO;have ai:=X.o.ld R zO prog (h) zO;rw[<-af]at ah;rw[<-ag]at ai;have Q:=X.o.cmp HC.o zO ao ap;have aq:ltOf bY ao ap=decide (bY ao ap<0):=rfl;have HX:=Z3 af ag aq;clear af ag aq;generalize bY ao ap=cv at Q HX;by_cases hv:cv<0
    ·as_aux_lemma=>
      have ak:=decide_eq_true hv;go_wp2_with fail
      go_quiet_grown (first|(go_at_fn g;refine Calls.grown_of (Q _ _)))
      have D:=X.o.grown nq osq;clear ah ai Q X;generalize grow (wr.drewN nq) osq=w2 at D ⊢;clear nq osq;go_wp2
      go_roundg (h-s)
      case measure=>omega
      case rel=>exact⟨s,h,rfl,rfl,al,zO,zO,OA _,D,⟨HE.o.1,λ_=>by
       rw[be.o.1,<-HX.o.1,<-HX.o.2.1,HX.o.2.2];exact ak⟩⟩
    ·as_aux_lemma=>
      have ak:=decide_eq_false hv;go_wp2_with fail
      go_quiet_grown (first|(go_at_fn g;refine Calls.grown_of (Q _ _)))
      have D:=X.o.grown nq osq;clear ah ai Q X;generalize grow (wr.drewN nq) osq=w2 at D ⊢;clear nq osq;go_wp2
      go_roundg (r-(h+1))
      case measure=>omega
      case rel=>exact⟨h+1,r,by go_num,rfl,zO,zO,an,OA _,D,⟨λ_=>by
       rw[be.o.2,RF,<-HX.o.1,<-HX.o.2.1,HX.o.2.2];exact ak,HE.o.2⟩⟩
   ·obtain rfl:s=r:=zO;have hA:=Nl ham hmb G.o.1 G.o.2.1 G.o.2.2.2.1 G.o.2.2.2.2.1 al an HE.o.1 HE.o.2;obtain⟨y,bk,aw,b1,b2,b3,b4,b5,b6,b7⟩:=Nm hA G.o.2.1;have HA:=Z2 hA aw;clear hA aw al an cf;obtain⟨q1,O⟩:∃q,q=decide (s<m/\m<y):=⟨_,rfl⟩;have ab:=Z1 O;clear O;go_upto_region 39 with fail
    clear bk bs bt bu bv a9 bw bx bz b0 b8 b9 ca cc b7;go_cut [185] (λv wx=>v=.bool q1/\wr=wx)
    case first=>as_aux_lemma=>
     by_cases T:s<m
     ·have ac:(s:Int)<(m:Int):=zO;by_cases z:m<y
      ·have ad:(m:Int)<(y:Int):=zO;go_wp2;go_meet;exact⟨by rw[ab.o];simp[T,z],rfl⟩
      ·have ad:¬(m:Int)<(y:Int):=zO;go_wp2;go_meet;exact⟨by rw[ab.o];simp[T,z],rfl⟩
     ·have ac:¬(s:Int)<(m:Int):=zO;go_wp2;go_meet;exact⟨by rw[ab.o];simp[T],rfl⟩
    case rest=>as_aux_lemma=>
     obtain⟨rfl,rfl⟩:=hcut
     go_upto_if 185 with fail
     go_cut [] (λwx=>xi k w0 B0 off N0 a b s m y d wx)
     case first=>as_aux_lemma=>
      cases q1 with
      |true=>
       have H:=ab.o;have f:s<m/\m<y:=by simpa using H.symm
       have HR:=Z1 (bf.o s m y wr X.o f.1 f.2 zO);clear H f;go_wp2_with fail;refine HR.o.mono ?_;rintro e w2 ⟨rfl,d',D,z,U⟩;have F:=Z3 D z U;clear D z U;go_wp2;go_meet;have U:=F.o.2.2 a b zO zO hb;exact⟨d',U.1.trans hsd,F.o.1,F.o.2.1,U⟩
      |false=>
       have H:=ab.o;have f:¬(s<m/\m<y):=by simpa using H.symm
       have HN:=Z1 f;clear H f;go_wp2;go_meet;refine⟨d,hsd,X.o,λt=>?_,permIn_refl _ _ _⟩;have f:=HN.o;by_cases T:s<m
       ·obtain rfl:m=y:=zO;exact(Cz _ _ _ _).symm
       ·obtain rfl:s=m:=zO;exact(Cy _ _ _ _).symm
     case rest=>as_aux_lemma=>
      have aa:=hcut;rw[HA.o.2]at aa;obtain⟨d1,e1,e2,e3,e4,e5,e6,e7,e8⟩:=aa.P8 HA.o.1 a4.o.1 a4.o.2;rw[<-HA.o.2]at e6 e7;have l:=Z8 e1 e2 e3 e4 e5 e6 e7 e8;clear hcut aa e1 e2 e3 e4 e5 e6 e7 e8 HE;obtain⟨q2,P⟩:∃q,q=decide (a<s/\s<c):=⟨_,rfl⟩;have ae:=Z1 P;clear P;go_upto_region 41 with fail
      go_cut [199] (λv wx=>v=.bool q2/\wc=wx)
      case first=>as_aux_lemma=>
       by_cases T:a<s
       ·have ac:(a:Int)<(s:Int):=zO;by_cases z:s<c
        ·have ad:(s:Int)<(c:Int):=zO;go_wp2;go_meet;exact⟨by rw[ae.o];simp[T,z],rfl⟩
        ·have ad:¬(s:Int)<(c:Int):=zO;go_wp2;go_meet;exact⟨by rw[ae.o];simp[T,z],rfl⟩
       ·have ac:¬(a:Int)<(s:Int):=zO;go_wp2;go_meet;exact⟨by rw[ae.o];simp[T],rfl⟩
      case rest=>as_aux_lemma=>
       obtain⟨rfl,rfl⟩:=hcut
       go_upto_if 199 with fail
       rename_i wy _;go_cut [] (λwx=>LN k w0 B0 off N0 a c b d d1 wx)
       case first=>as_aux_lemma=>
        cases q2 with
        |true=>
         have H:=ae.o;have f:a<s/\s<c:=by simpa using H.symm
         have HR:=Z1 (a5.o a s c d1 _ l.o.1 (by have:=bd.o;omega) l.o.2.1 f.1 f.2 zO l.o.2.2.2.1 l.o.2.2.2.2.1);clear H f;go_wp2_with fail;refine HR.o.mono ?_;rintro e w2 ⟨rfl,d',D,U,z⟩;have F:=Z3 D z U;clear D z U;go_wp2;go_meet;exact⟨d',F.o.2.2.1.trans l.o.1,F.o.1,F.o.2.2,F.o.2.1⟩
        |false=>
         have H:=ae.o;have f:¬(a<s/\s<c):=by simpa using H.symm
         have HN:=Z1 f;clear H f;go_wp2;go_meet;refine⟨d1,l.o.1,l.o.2.1,permIn_refl _ _ _,?_⟩;have f:=HN.o;by_cases T:a<s
         ·obtain rfl:s=c:=zO;exact l.o.2.2.2.1
         ·obtain rfl:a=s:=zO;exact l.o.2.2.2.2.1
       case rest=>as_aux_lemma=>
        obtain⟨d2,f1,f2,f3,f4⟩:=hcut;have f5:=kP f3 l.o.2.2.2.2.2.1 (.inr (OA _));have f6:=kP f3 l.o.2.2.2.2.2.2.1 (.inr b5);have A:=Z6 f1 f2 f3 f4 f5 f6;clear f1 f2 f3 f4 f5 f6;have az:∀d3 wx,SE k w0 B0 off d3 wx->PermIn c b d2 d3->SortedIn (ltOf bY) c b d3->ku k w0 B0 off a b d (.returned (.tuple #[])) wx:=λd3 wx g1 g2 g3=>by
         have hj:=IO (d1:=d1) zO zO (by rw[l.o.1];exact hb) A.o.2.2.1 A.o.2.2.2.1 g2 g3 l.o.2.2.2.2.2.2.2;exact⟨rfl,d3,g1,permIn_trans _ _ _ _ _ l.o.2.2.1 hj.1,hj.2⟩
        have HF:=Z1 az;clear az;by_cases T:c<y
        ·have ac:(c:Int)<(y:Int):=zO;by_cases z:y<b
         ·have ad:(y:Int)<(b:Int):=zO;have HR:=Z1 (λW hW=>a5.o c y b d2 W A.o.1 (by have:=bd.o;omega) hW T z hb A.o.2.2.2.2.1 A.o.2.2.2.2.2);go_wp2_with fail;refine(HR.o _ A.o.2.1).mono ?_;rintro e w2 ⟨rfl,d',D,U,z⟩;have F:=Z1 (HF.o d' _ D U z);clear D z U;go_wp2;exact Pf (v:=.tuple #[]) (by simp[results,results334,go_sem]) rfl F.o
         ·have ad:¬(y:Int)<(b:Int):=zO;have F:=Z1 (HF.o d2 _ A.o.2.1 (permIn_refl _ _ _) (by rw[show b=y by omega];exact A.o.2.2.2.2.1));go_wp2;exact Pf (v:=.tuple #[]) (by simp[results,results334,go_sem]) rfl F.o
        ·have ac:¬(c:Int)<(y:Int):=zO;have F:=Z1 (HF.o d2 _ A.o.2.1 (permIn_refl _ _ _) (by rw[show c=y by omega];exact A.o.2.2.2.2.2));go_wp2;exact Pf (v:=.tuple #[]) (by simp[results,results334,go_sem]) rfl F.o
def LP(zE:∀w,(Go.sizeOf 224).run prog w=.ok k w)(w0:World)(B0 off cap g:Nat)(cb:Array Value)(N0:Nat)(d0:Array Et)(R:no k w0 B0 off d0)(hs:d0.size=N0)(hsz:N0<1000000)(eg:∀args w,(callFunc g args).run prog w=.ok (.enter g args) w)(hcmp:pB k g cb B0 off N0 w0)(n:Nat):EZ k w0 B0 off cap g cb N0 n:=by
 induction n with
 |zero=>intro a m b d w _ c _ i e;omega
 |succ n ih=>
  intro a m b d w c i e j q f l o;by_cases h:m=a+1
  ·exact EY k zE w0 B0 off cap g cb N0 d0 d R hs c hsz eg hcmp a m b w e h zO f o
  ·by_cases p:b=m+1
   ·exact IV k zE w0 B0 off cap g cb N0 d0 d R hs c hsz eg hcmp a m b w e p j h f l
   ·exact LO k zE w0 B0 off cap g cb N0 d0 d R hs c hsz eg hcmp n ih a m b w i e j q f l o h p
end
end Go.Fw
