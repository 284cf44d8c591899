/- Lemmas of this claim. Conditions: as each says. -/
import Derived.Test.YtpfmpaolgmoajaaGreatL08
set_option linter.unusedVariables false
set_option linter.unusedSimpArgs false
set_option maxHeartbeats 4000000
set_option maxRecDepth 20000
set_option linter.defProp false
open Go.Proofs.Tryz
namespace Go.Fw
open Go.RowKit open Go.Proofs hiding intOf
variable {k:K2}{a b m D5 nn h i room:Nat}{d:Array Et}{p ep:Int}{x:Ld}{q:Qm}{parts:List (List Et)}{L:Nat->Prop}{w':World}{T:Nat->Tg}{ls:List (K2×Ld)}{r:List Int}(w:World)(tp lb B0 off N0:Nat)(z:Nd)(wx w0:World)(n:Nat)(l cs:List (Option Nat))(cb:Array Value)(cap:Nat)(A:Option Addr)
section
open Go.Shelf Go.Sort Go.Lib
set_option maxRecDepth 1000000
set_option maxHeartbeats 8000000
def xi(k:Nat)(w0:World)(B0 off N0 a b s m en:Nat)(d:Array Et)(wx:World):Prop:=∃d1,d1.size=N0/\SE k w0 B0 off d1 wx/\(∀t,d1[t]! =fw (λt=>d[t]!) s m en t)/\PermIn a b d d1
def LN(k:Nat)(w0:World)(B0 off N0 a D5 b:Nat)(d d1:Array Et)(wx:World):Prop:=∃d2,d2.size=N0/\SE k w0 B0 off d2 wx/\PermIn a D5 d1 d2/\SortedIn (ltOf bY) a D5 d2
def xi.P8{k:Nat}{w0 wx:World}{B0 off N0 s:Nat}(hA:we (ltOf bY) d a m b D5 s)(hl:SortedIn (ltOf bY) a m d)(hr:SortedIn (ltOf bY) m b d)(h:xi k w0 B0 off N0 a b s m (m+D5-s) d wx):
  ∃d1,d1.size=N0/\SE k w0 B0 off d1 wx/\PermIn a b d d1/\SortedIn (ltOf bY) a s d1/\SortedIn (ltOf bY) s D5 d1/\SortedIn (ltOf bY) D5 (m+D5-s) d1/\SortedIn (ltOf bY) (m+D5-s) b d1/\∀i j,a<=i->i<D5->D5<=j->j<b->ltOf bY d1[j]! d1[i]! =false:=by
 obtain⟨d1,c,e,f,g⟩:=h;exact⟨d1,c,e,g,CA gJ hA hl hr f⟩
def Nl{s0 r0 s:Nat}(ham:a<m)(hmb:m<b)(hmid:D5=(a+b)/2)(hn:nn=D5+m)(hc1:D5<m->s0+b=nn/\r0=D5)(hc2:m<=D5->s0=a/\r0=m)(h1:s0<=s)(h2:s<=r0)
  (hlow:s0<s->ltOf bY d[nn-s]! d[s-1]! =false)(hhigh:s<r0->ltOf bY d[nn-s-1]! d[s]! =true):we (ltOf bY) d a m b D5 s:=by
 have e:m+D5=nn:=zO;by_cases h:D5<m
 ·have g:=hc1 h;exact⟨zO,zO,zO,zO,zO,zO,zO,zO,λc f=>by rw[e];exact hlow zO,λc f=>by rw[e];exact hhigh zO⟩
 ·have g:=hc2 zO;exact⟨zO,zO,zO,zO,zO,zO,zO,zO,λc f=>by rw[e];exact hlow zO,λc f=>by rw[e];exact hhigh zO⟩
def NU{p s0 r0 N0:Nat}(ham:a<m)(hmb:m<b)(hb:b<=N0)(hmid:D5=(a+b)/2)(hn:nn=D5+m)(hp:p+1=nn)(hx1:s0+b>=nn)(hx2:r0<=D5/\r0<=m/\a<=s0)(hc2:m<=D5->s0=a/\r0=m)(h1:s0<=h)(h2:h<r0):
  ∃q:Nat,(p:Int)-(h:Int)=(q:Int)/\q+h+1=nn/\q<N0/\h<N0/\nn-h-1=q/\nn-(h+1)=q:=by
 refine⟨p-h,zO,zO,?_,zO,zO,zO⟩;by_cases h:D5<m
 ·omega
 ·have:=hc2 zO;omega
def Nm{s:Nat}(h:we (ltOf bY) d a m b D5 s)(hn:nn=D5+m):∃en:Nat,(nn:Int)-(s:Int)=(en:Int)/\en=m+D5-s/\a<=s/\s<=m/\s<=D5/\m<=en/\D5<=en/\en<=b/\en+s=nn:=by
 obtain⟨c,e,f,g,i,j,k,l,_,_⟩:=h;exact⟨nn-s,zO,zO,zO,zO,zO,zO,zO,zO,zO⟩
def EZ(k:Nat)(w0:World)(B0 off cap g:Nat)(cb:Array Value)(N0:Nat)(n:Nat):Prop:=∀(a m b:Nat) (d:Array Et) (w:World),d.size=N0->b-a<=n->SE k w0 B0 off d w->a<m->m<b->b<=N0->SortedIn (ltOf bY) a m d->SortedIn (ltOf bY) m b d->
 C 334 #[V B0 off N0 cap,I a,I m,I b,.func (.func g) #[] cb] w λe c=>ku k w0 B0 off a b d e c
def LO(k:Nat)(zE:∀w,(Go.sizeOf 224).run prog w=.ok k w)(w0:World)(B0 off cap g:Nat)(cb:Array Value)(N0:Nat)(d0 d:Array Et)(R:no k w0 B0 off d0)(hs:d0.size=N0)(hsd:d.size=N0)(hsz:N0<1000000)(eg:∀args w,(callFunc g args).run prog w=.ok (.enter g args) w)(hcmp:pB k g cb B0 off N0 w0)(n:Nat)(ih:EZ k w0 B0 off cap g cb N0 n)
  (a m b:Nat)(w:World)(hbn:b-a<=n+1)(S:SE k w0 B0 off d w)(ham:a<m)(hmb:m<b)(hb:b<=N0)(hl:SortedIn (ltOf bY) a m d)(hr:SortedIn (ltOf bY) m b d)(hne1:m≠a+1)(hne2:b≠m+1):
  C 334 #[V B0 off N0 cap,I a,I m,I b,.func (.func g) #[] cb] w λe w'=>ku k w0 B0 off a b d e w':=by
 have S0:=S;have HC:Aside _:=hcmp;have a4:=Z2 hl hr;have a5:=Z1 ih;have bf:=Z1 (λa m b w=>LK k zE w0 B0 off cap g cb N0 d0 d R hs hsd zO a m b w);obtain⟨c,bs,a6,bt,dn⟩:=nL (i:=a) (j:=b) zO;have dp:a<c:=zO;obtain⟨B,bu,a7⟩:∃B:Nat,(c:Int)+(m:Int)=(B:Int)/\B=c+m:=⟨c+m,zO,rfl⟩;obtain⟨p,bv,a8⟩:∃p:Nat,(B:Int)-1=(p:Int)/\p+1=B:=⟨B-1,zO,zO⟩;obtain⟨L,N,O,P,a9⟩:∃L N:Nat,(c<m->L+b=B/\N=c)/\(m<=c->L=a/\N=m)/\L<=N:=by
  by_cases h:c<m
  ·exact⟨B-b,c,λ_=>⟨zO,rfl⟩,λh=>zO,zO⟩
  ·exact⟨a,m,λh=>zO,λ_=>⟨rfl,rfl⟩,zO⟩
 have ba:L+b>=B:=by
  by_cases h:c<m
  ·have:=O h;omega
  ·have:=P zO;omega
 have bb:N<=c/\N<=m/\a<=L:=by
  by_cases h:c<m
  ·have:=O h;omega
  ·have:=P zO;omega
 have G:=Z7 a6 a7 a8 O P ba bb;obtain⟨am,bw⟩:∃x:Int,(m:Int)-(a:Int)=x:=⟨_,rfl⟩;have bx:(am==1)=false:=zT;have bz:0<=am/\am<=1000000:=zO;obtain⟨bm,b0⟩:∃x:Int,(b:Int)-(m:Int)=x:=⟨_,rfl⟩;have b8:(bm==1)=false:=zT;have b9:0<=bm/\bm<=1000000:=zO;have ca:B<=2000000:=zO;have cc:p<B:=zO;obtain⟨x0,bc⟩:∃x:Int,(B:Int)-(b:Int)=x:=⟨_,rfl⟩;have bi: -1000000<=x0/\x0<=2000000:=zO;have ce:=Z1 bc;have bd:=Z1 hbn;have c1:prog.follows Departure.mixedOrders=true:=zR;have aE:∀w,(isAgg 224).run prog w=.ok true w:=λw=>zR;clear S hcmp hl hr ih a6 a7 a8 O P ba bb hne1 hne2 hbn
 go_in
 go_upto_if 140 with fail
 go_cut [20,21] (λu v wx=>u=I L/\v=I N/\wx=w)
 case first=>as_aux_lemma=>
  by_cases h:c<m
  ·have hz:(c:Int)<(m:Int):=zO;go_wp2;go_meet;have H:=G.o.2.2.2.1 h;have h0:=ce.o;exact⟨by congr 1;omega,by congr 1;omega,rfl⟩
  ·have hz:¬(c:Int)<(m:Int):=zO;go_wp2;go_meet;have H:=G.o.2.2.2.2.1 zO;exact⟨by congr 1;omega,by congr 1;omega,rfl⟩
 case rest=>as_aux_lemma=>
  obtain⟨rfl,rfl,rfl⟩:=hcut;clear bc bi;go_wp2;go_loopg [20,21] (N-L) (λkx s1 s2 wr=>∃(s r:Nat),s1=I s/\s2=I r/\L<=s/\s<=r/\r<=N/\r-s<=kx/\Aside (SWK Et.cells k w0 B0 off d wr)/\Hid ((L<s->ltOf bY d[B-s]! d[s-1]! =false)/\(r<N->ltOf bY d[B-r-1]! d[r]! =true)))
  case atStart=>exact⟨L,N,rfl,rfl,OA _,a9,OA _,OA _,S0,⟨λh=>zO,λh=>zO⟩⟩
  case round=>
   clear S0;obtain⟨s,r,rfl,rfl,al,dq,an,cf,X,HE⟩:=hrel;by_cases cg:s<r
   ·have c7:(s:Int)<(r:Int):=zO;obtain⟨h,dr,ch,ci,cj⟩:=nL cg;clear ch;obtain⟨q,ds,ck,c8,c9,au,av⟩:=NU ham hmb hb G.o.1 G.o.2.1 G.o.2.2.1 G.o.2.2.2.2.2.1 G.o.2.2.2.2.2.2 G.o.2.2.2.2.1 (show L<=h from OJ al ci) (OV cj an);have be:=Z2 au av;clear ck au av;have da:((q:Int):Int).toNat=q:=zO;have db:(0:Int)<=(q:Int):=zO;have dc:(q:Int)<(N0:Int):=zO;have dd:IntKind.i64.wrap ((q:Int))=(q:Int):=by rw[OX];omega
    have de:((h:Int):Int).toNat=h:=zO;have df:(0:Int)<=(h:Int):=zO;have dg:(h:Int)<(N0:Int):=zO;have dh:IntKind.i64.wrap ((h:Int))=(h:Int):=by rw[OX];omega
    obtain⟨ao,af⟩:∃x,x=d[q]!:=⟨_,rfl⟩;obtain⟨ap,ag⟩:∃x,x=d[h]!:=⟨_,rfl⟩;have ah:=X.o.ld R zO prog (q) zO;have ai:=X.o.ld R zO prog (h) zO;rw[<-af]at ah;rw[<-ag]at ai;have Q:=X.o.cmp HC.o zO ao ap;have aq:ltOf bY ao ap=decide (bY ao ap<0):=rfl;have HX:=Z3 af ag aq;clear af ag aq;generalize bY ao ap=cv at Q HX;by_cases hv:cv<0
    ·as_aux_lemma=>
      have ak:=decide_eq_true hv;go_wp2_with fail
      go_quiet_grown (first|(go_at_fn g;refine Calls.grown_of (Q _ _)))
      have D:=X.o.grown nq osq;clear ah ai Q X;generalize grow (wr.drewN nq) osq=w2 at D ⊢;clear nq osq;go_wp2
      go_roundg (h-s)
      case measure=>omega
      case rel=>exact⟨s,h,rfl,rfl,al,zO,zO,OA _,D,⟨HE.o.1,λ_=>by
       rw[be.o.1,<-HX.o.1,<-HX.o.2.1,HX.o.2.2];exact ak⟩⟩
    ·as_aux_lemma=>
      have ak:=decide_eq_false hv;go_wp2_with fail
      go_quiet_grown (first|(go_at_fn g;refine Calls.grown_of (Q _ _)))
      have D:=X.o.grown nq osq;clear ah ai Q X;generalize grow (wr.drewN nq) osq=w2 at D ⊢;clear nq osq;go_wp2
      go_roundg (r-(h+1))
      case measure=>omega
      case rel=>exact⟨h+1,r,by go_num,rfl,zO,zO,an,OA _,D,⟨λ_=>by
       rw[be.o.2,RF,<-HX.o.1,<-HX.o.2.1,HX.o.2.2];exact ak,HE.o.2⟩⟩
   ·obtain rfl:s=r:=zO;have hA:=Nl ham hmb G.o.1 G.o.2.1 G.o.2.2.2.1 G.o.2.2.2.2.1 al an HE.o.1 HE.o.2;obtain⟨y,bk,aw,b1,b2,b3,b4,b5,b6,b7⟩:=Nm hA G.o.2.1;have HA:=Z2 hA aw;clear hA aw al an cf;obtain⟨q1,O⟩:∃q,q=decide (s<m/\m<y):=⟨_,rfl⟩;have ab:=Z1 O;clear O;go_upto_region 39 with fail
    clear bk bs bt bu bv a9 bw bx bz b0 b8 b9 ca cc b7;go_cut [185] (λv wx=>v=.bool q1/\wr=wx)
    case first=>as_aux_lemma=>
     by_cases T:s<m
     ·have ac:(s:Int)<(m:Int):=zO;by_cases z:m<y
      ·have ad:(m:Int)<(y:Int):=zO;go_wp2;go_meet;exact⟨by rw[ab.o];simp[T,z],rfl⟩
      ·have ad:¬(m:Int)<(y:Int):=zO;go_wp2;go_meet;exact⟨by rw[ab.o];simp[T,z],rfl⟩
     ·have ac:¬(s:Int)<(m:Int):=zO;go_wp2;go_meet;exact⟨by rw[ab.o];simp[T],rfl⟩
    case rest=>as_aux_lemma=>
     obtain⟨rfl,rfl⟩:=hcut
     go_upto_if 185 with fail
     go_cut [] (λwx=>xi k w0 B0 off N0 a b s m y d wx)
     case first=>as_aux_lemma=>
      cases q1 with
      |true=>
       have H:=ab.o;have f:s<m/\m<y:=by simpa using H.symm
       have HR:=Z1 (bf.o s m y wr X.o f.1 f.2 zO);clear H f;go_wp2_with fail;refine HR.o.mono ?_;rintro e w2 ⟨rfl,d',D,z,U⟩;have F:=Z3 D z U;clear D z U;go_wp2;go_meet;have U:=F.o.2.2 a b zO zO hb;exact⟨d',U.1.trans hsd,F.o.1,F.o.2.1,U⟩
      |false=>
       have H:=ab.o;have f:¬(s<m/\m<y):=by simpa using H.symm
       have HN:=Z1 f;clear H f;go_wp2;go_meet;refine⟨d,hsd,X.o,λt=>?_,permIn_refl _ _ _⟩;have f:=HN.o;by_cases T:s<m
       ·obtain rfl:m=y:=zO;exact(Cz _ _ _ _).symm
       ·obtain rfl:s=m:=zO;exact(Cy _ _ _ _).symm
     case rest=>as_aux_lemma=>
      have aa:=hcut;rw[HA.o.2]at aa;obtain⟨d1,e1,e2,e3,e4,e5,e6,e7,e8⟩:=aa.P8 HA.o.1 a4.o.1 a4.o.2;rw[<-HA.o.2]at e6 e7;have l:=Z8 e1 e2 e3 e4 e5 e6 e7 e8;clear hcut aa e1 e2 e3 e4 e5 e6 e7 e8 HE;obtain⟨q2,P⟩:∃q,q=decide (a<s/\s<c):=⟨_,rfl⟩;have ae:=Z1 P;clear P;go_upto_region 41 with fail
      go_cut [199] (λv wx=>v=.bool q2/\wc=wx)
      case first=>as_aux_lemma=>
       by_cases T:a<s
       ·have ac:(a:Int)<(s:Int):=zO;by_cases z:s<c
        ·have ad:(s:Int)<(c:Int):=zO;go_wp2;go_meet;exact⟨by rw[ae.o];simp[T,z],rfl⟩
        ·have ad:¬(s:Int)<(c:Int):=zO;go_wp2;go_meet;exact⟨by rw[ae.o];simp[T,z],rfl⟩
       ·have ac:¬(a:Int)<(s:Int):=zO;go_wp2;go_meet;exact⟨by rw[ae.o];simp[T],rfl⟩
      case rest=>as_aux_lemma=>
       obtain⟨rfl,rfl⟩:=hcut
       go_upto_if 199 with fail
       rename_i wy _;go_cut [] (λwx=>LN k w0 B0 off N0 a c b d d1 wx)
       case first=>as_aux_lemma=>
        cases q2 with
        |true=>
         have H:=ae.o;have f:a<s/\s<c:=by simpa using H.symm
         have HR:=Z1 (a5.o a s c d1 _ l.o.1 (by have:=bd.o;omega) l.o.2.1 f.1 f.2 zO l.o.2.2.2.1 l.o.2.2.2.2.1);clear H f;go_wp2_with fail;refine HR.o.mono ?_;rintro e w2 ⟨rfl,d',D,U,z⟩;have F:=Z3 D z U;clear D z U;go_wp2;go_meet;exact⟨d',F.o.2.2.1.trans l.o.1,F.o.1,F.o.2.2,F.o.2.1⟩
        |false=>
         have H:=ae.o;have f:¬(a<s/\s<c):=by simpa using H.symm
         have HN:=Z1 f;clear H f;go_wp2;go_meet;refine⟨d1,l.o.1,l.o.2.1,permIn_refl _ _ _,?_⟩;have f:=HN.o;by_cases T:a<s
         ·obtain rfl:s=c:=zO;exact l.o.2.2.2.1
         ·obtain rfl:a=s:=zO;exact l.o.2.2.2.2.1
       case rest=>as_aux_lemma=>
        obtain⟨d2,f1,f2,f3,f4⟩:=hcut;have f5:=kP f3 l.o.2.2.2.2.2.1 (.inr (OA _));have f6:=kP f3 l.o.2.2.2.2.2.2.1 (.inr b5);have A:=Z6 f1 f2 f3 f4 f5 f6;clear f1 f2 f3 f4 f5 f6;have az:∀d3 wx,SE k w0 B0 off d3 wx->PermIn c b d2 d3->SortedIn (ltOf bY) c b d3->ku k w0 B0 off a b d (.returned (.tuple #[])) wx:=λd3 wx g1 g2 g3=>by
         have hj:=IO (d1:=d1) zO zO (by rw[l.o.1];exact hb) A.o.2.2.1 A.o.2.2.2.1 g2 g3 l.o.2.2.2.2.2.2.2;exact⟨rfl,d3,g1,permIn_trans _ _ _ _ _ l.o.2.2.1 hj.1,hj.2⟩
        have HF:=Z1 az;clear az;by_cases T:c<y
        ·have ac:(c:Int)<(y:Int):=zO;by_cases z:y<b
         ·have ad:(y:Int)<(b:Int):=zO;have HR:=Z1 (λW hW=>a5.o c y b d2 W A.o.1 (by have:=bd.o;omega) hW T z hb A.o.2.2.2.2.1 A.o.2.2.2.2.2);go_wp2_with fail;refine(HR.o _ A.o.2.1).mono ?_;rintro e w2 ⟨rfl,d',D,U,z⟩;have F:=Z1 (HF.o d' _ D U z);clear D z U;go_wp2;exact Pf (v:=.tuple #[]) (by simp[results,results334,go_sem]) rfl F.o
         ·have ad:¬(y:Int)<(b:Int):=zO;have F:=Z1 (HF.o d2 _ A.o.2.1 (permIn_refl _ _ _) (by rw[show b=y by omega];exact A.o.2.2.2.2.1));go_wp2;exact Pf (v:=.tuple #[]) (by simp[results,results334,go_sem]) rfl F.o
        ·have ac:¬(c:Int)<(y:Int):=zO;have F:=Z1 (HF.o d2 _ A.o.2.1 (permIn_refl _ _ _) (by rw[show c=y by omega];exact A.o.2.2.2.2.2));go_wp2;exact Pf (v:=.tuple #[]) (by simp[results,results334,go_sem]) rfl F.o
def LP(k:Nat)(zE:∀w,(Go.sizeOf 224).run prog w=.ok k w)(w0:World)(B0 off cap g:Nat)(cb:Array Value)(N0:Nat)(d0:Array Et)(R:no k w0 B0 off d0)(hs:d0.size=N0)(hsz:N0<1000000)(eg:∀args w,(callFunc g args).run prog w=.ok (.enter g args) w)(hcmp:pB k g cb B0 off N0 w0)(n:Nat):EZ k w0 B0 off cap g cb N0 n:=by
 induction n with
 |zero=>intro a m b d w _ c _ i e;omega
 |succ n ih=>
  intro a m b d w c i e j q f l o;by_cases h:m=a+1
  ·exact EY k zE w0 B0 off cap g cb N0 d0 d R hs c hsz eg hcmp a m b w e h zO f o
  ·by_cases p:b=m+1
   ·exact IV k zE w0 B0 off cap g cb N0 d0 d R hs c hsz eg hcmp a m b w e p j h f l
   ·exact LO k zE w0 B0 off cap g cb N0 d0 d R hs c hsz eg hcmp n ih a m b w i e j q f l o h p
end
section
open Go.Sort
section
variable {α:Type} [Inhabited α]
inductive eQ(lt:α->α->Bool)(bs n:Nat)(d:Array α):Nat->Prop
 |nil (lo:Nat):n<=lo->eQ lt bs n d lo
 |cons (lo:Nat):lo<n->SortedIn lt lo (min (lo+bs) n) d->eQ lt bs n d (lo+bs)->eQ lt bs n d lo
inductive kQ(lt:α->α->Bool)(bs:Nat)(d:Array α):Nat->Prop
 |zero:kQ lt bs d 0
 |snoc (a:Nat):kQ lt bs d a->SortedIn lt a (a+bs) d->kQ lt bs d (a+bs)
variable {lt:α→α→Bool} {bs n a b:Nat} {d d':Array α}
def eQ.open_(h:eQ lt bs n d a)(ha:a<n):SortedIn lt a (min (a+bs) n) d/\eQ lt bs n d (a+bs):=by
 cases h with
 |nil _ h=>omega
 |cons _ h1 h2 h3=>exact⟨h2,h3⟩
def eQ.B7{x:Nat}(h:eQ lt bs n d x)(hp:PermIn a b d d')(hx:b<=x):eQ lt bs n d' x:=by
 induction h with
 |nil c h=>exact .nil c h
 |cons c h1 h2 _ ih=>exact .cons c h1 (kP hp h2 (.inr hx)) (ih zO)
def kQ.B7{x:Nat}(h:kQ lt bs d x)(hp:PermIn a b d d')(hx:x<=a):kQ lt bs d' x:=by
 induction h with
 |zero=>exact .zero
 |snoc y _ h2 ih=>exact .snoc y (ih zO) (kP hp h2 (.inl hx))
def kQ.join{x:Nat}(h:kQ lt bs d x)(hb:0<bs)(hr:eQ lt bs n d x)(hx:x<=n):eQ lt bs n d 0:=by
 induction h with
 |zero=>exact hr
 |snoc y _ h2 ih=>exact ih (.cons y zO (by rw[Qp hx];exact h2) hr) zO
def eQ.last(ha:n<a+bs)(hs:SortedIn lt a n d):eQ lt bs n d a:=by
 by_cases h:a<n
 ·exact .cons a h (by rw[Rt zO];exact hs) (.nil _ zO)
 ·exact .nil a zO
def eQ.all(h:eQ lt bs n d 0)(hb:n<=bs):SortedIn lt 0 n d:=by
 by_cases a:0<n
 ·have:=(h.open_ a).1
  rwa [PS,Rt hb]at this
 ·intro i j _ _ b;omega
end
end
section
open Go.Shelf Go.Sort Go.Lib
set_option maxRecDepth 1000000
set_option maxHeartbeats 8000000
def qm(k:Nat)(w0:World)(B0 off N0 bs:Nat)(d:Array Et)(wr:World):Prop:=∃dk,dk.size=N0/\SE k w0 B0 off dk wr/\PermIn 0 N0 d dk/\eQ (ltOf bY) bs N0 dk 0
def IX(k:Nat)(zE:∀w,(Go.sizeOf 224).run prog w=.ok k w)(w0:World)(B0 off cap g:Nat)(cb:Array Value)(N0:Nat)(d0 d:Array Et)(R:no k w0 B0 off d0)(hs:d0.size=N0)(hsd:d.size=N0)(hsz:N0<1000000)(eg:∀args w,(callFunc g args).run prog w=.ok (.enter g args) w)(hcmp:pB k g cb B0 off N0 w0)(w:World)(S:SE k w0 B0 off d w):
  C 332 #[V B0 off N0 cap,I N0,.func (.func g) #[] cb] w λe w'=>ku k w0 B0 off 0 N0 d e w':=by
 have S0:=S;have G:=Z1 (λf h a b w=>IW k zE w0 B0 off cap g cb N0 d0 f R hs h hsz eg hcmp a b w);have H:=Z1 (λ(a m b:Nat) (f:Array Et) (w:World) (h:f.size=N0)=>LP k zE w0 B0 off cap g cb N0 d0 R hs hsz eg hcmp (b-a) a m b f w h (OA _));clear S hcmp
 go_in
 go_wp2;go_loopg [7,8] N0 (λL U X wr=>∃(a:Nat) (f:Array Et),U=I a/\X=I ((a:Int)+20)/\a<=N0/\N0-a<=L/\f.size=N0/\Aside (SWK Et.cells k w0 B0 off f wr)/\Hid (PermIn 0 N0 d f/\kQ (ltOf bY) 20 f a))
 case atStart=>exact⟨0,d,rfl,rfl,OK _,OA _,hsd,S0,⟨permIn_refl _ _ _,.zero⟩⟩
 case round=>
  clear S0;obtain⟨a,f,rfl,rfl,A,ak,q,F,r⟩:=hrel;by_cases y:a+20<=N0
  ·have B:(a:Int)+20<=(N0:Int):=zO;have v:=Z1 (G.o f q a (a+20) wr F.o zO y);rw[show((a+20:Nat):Int)=(a:Int)+20 by omega]at v;go_wp2_with fail;refine v.o.mono ?_;rintro e w2 ⟨rfl,D,x,n,l⟩;have u:=Z3 x n l;clear x l n;go_wp2
   go_roundg (N0-(a+20))
   case measure=>omega
   case rel=>
    refine⟨a+20,D,by go_num,by go_num,y,OA _,u.o.2.1.1.trans q,u.o.1,⟨permIn_trans _ _ _ _ _ r.o.1 (permIn_mono _ _ _ _ _ _ (OK _) y zO u.o.2.1),.snoc a (r.o.2.B7 u.o.2.1 (OA _)) u.o.2.2⟩⟩
  ·have B:¬(a:Int)+20<=(N0:Int):=zO;have v:=Z1 (G.o f q a N0 wr F.o A (OA _));go_wp2_with fail;refine v.o.mono ?_;rintro e w2 ⟨rfl,D,x,n,l⟩;have p:qm k w0 B0 off N0 20 d w2:=⟨D,n.1.trans q,x,permIn_trans _ _ _ _ _ r.o.1 (permIn_mono _ _ _ _ _ _ (OK _) (OA _) zO n),(r.o.2.B7 n (OA _)).join zP (eQ.last zO l) A⟩;clear x l n v;go_wp2;go_loopg [6] N0 (λL s wr=>∃(c:Nat),s=I c/\0<c/\c<=2000000/\N0-c<=L/\qm k w0 B0 off N0 c d wr)
   case atStart=>exact⟨20,rfl,zP,zP,zO,p⟩
   case round=>
    clear p;obtain⟨c,rfl,al,am,ai,p⟩:=hrel;by_cases an:c<N0
    ·have ac:(c:Int)<(N0:Int):=zO;obtain⟨f,Q,N,O,P⟩:=p;have t:=Z4 Q N O P;clear Q N O P;go_wp2;go_loopg [7,8] N0 (λL U X wr=>∃(a:Nat) (f:Array Et),U=I a/\X=I ((a:Int)+2*(c:Int))/\a<=N0/\N0-a<=L/\f.size=N0/\Aside (SWK Et.cells k w0 B0 off f wr)/\Hid (PermIn 0 N0 d f/\kQ (ltOf bY) (2*c) f a/\eQ (ltOf bY) c N0 f a))
     case atStart=>exact⟨0,f,rfl,by go_num,OK _,OA _,t.o.1,t.o.2.1,⟨t.o.2.2.1,.zero,t.o.2.2.2⟩⟩
     case round=>
      clear t;obtain⟨a,f,rfl,rfl,A,aj,q,F,r⟩:=hrel;by_cases y:a+2*c<=N0
      ·have B:(a:Int)+2*(c:Int)<=(N0:Int):=zO;have z:=r.o.2.2.open_ zO;have l:=z.2.open_ zO;rw[Qp zO]at z;rw[Qp zO]at l;have v:=Z1 (H.o a (a+c) (a+c+c) f wr q F.o zO zO zO z.1 l.1);have ad:=Z1 l.2;rw[show((a+c:Nat):Int)=(a:Int)+(c:Int) by omega,show((a+c+c:Nat):Int)=(a:Int)+2*(c:Int) by omega]at v;clear z l;go_wp2_with fail;refine v.o.mono ?_;rintro e w3 ⟨rfl,D,x,n,l⟩;have u:=Z3 x n l;clear x l n;go_wp2
       go_roundg (N0-(a+2*c))
       case measure=>omega
       case rel=>
        have n:=u.o.2.1;have l:=u.o.2.2;have h3:=ad.o;rw[show a+c+c=a+2*c by omega]at n l h3;exact⟨a+2*c,D,by go_num,by first|go_num|(congr 1;omega),y,OA _,n.1.trans q,u.o.1,⟨permIn_trans _ _ _ _ _ r.o.1 (permIn_mono _ _ _ _ _ _ (OK _) y zO n),.snoc a (r.o.2.1.B7 n (OA _)) l,h3.B7 n (OA _)⟩⟩
      ·have B:¬(a:Int)+2*(c:Int)<=(N0:Int):=zO;by_cases hm:a+c<N0
       ·have ag:(a:Int)+(c:Int)<(N0:Int):=zO;have z:=r.o.2.2.open_ zO;have l:=z.2.open_ zO;rw[Qp zO]at z;rw[Rt zO]at l;have v:=Z1 (H.o a (a+c) N0 f wr q F.o zO zO zO z.1 l.1);rw[show((a+c:Nat):Int)=(a:Int)+(c:Int) by omega]at v;clear z l;go_wp2_with fail;refine v.o.mono ?_;rintro e w3 ⟨rfl,D,x,n,l⟩;have p:qm k w0 B0 off N0 (2*c) d w3:=⟨D,n.1.trans q,x,permIn_trans _ _ _ _ _ r.o.1 (permIn_mono _ _ _ _ _ _ (OK _) (OA _) zO n),(r.o.2.1.B7 n (OA _)).join zO (eQ.last zO l) A⟩;clear x l n v;have t:=Z1 p;clear p;go_wp2
        go_roundg (N0-2*c)
        case measure=>omega
        case rel=>exact⟨2*c,by first|go_num|(congr 1;omega),zO,zO,OA _,t.o⟩
       ·have ag:¬(a:Int)+(c:Int)<(N0:Int):=zO;have T:SortedIn (ltOf bY) a N0 f:=by
         by_cases h:a<N0
         ·have:=(r.o.2.2.open_ h).1
          rwa [Rt zO]at this
         ·intro i j _ _ _;omega
        have p:qm k w0 B0 off N0 (2*c) d wr:=⟨f,q,F.o,r.o.1,r.o.2.1.join zO (eQ.last zO T) A⟩;have t:=Z1 p;clear p T;go_wp2
        go_roundg (N0-2*c)
        case measure=>omega
        case rel=>exact⟨2*c,by first|go_num|(congr 1;omega),zO,zO,OA _,t.o⟩
    ·have ac:¬(c:Int)<(N0:Int):=zO;obtain⟨f,Q,N,O,P⟩:=p;have hz:=And.intro N (And.intro O (P.all zO));have u:=Z1 hz;clear Q N O P hz;go_wp2
     go_end0
     exact⟨rfl,f,u.o.1,u.o.2.1,u.o.2.2⟩
def Fa(k:Nat)(zE:∀w,(Go.sizeOf 224).run prog w=.ok k w)(w0:World)(B0 off cap g:Nat)(cb:Array Value)(N0:Nat)(d0 d:Array Et)(R:no k w0 B0 off d0)(hs:d0.size=N0)(hsd:d.size=N0)(hsz:N0<1000000)(eg:∀args w,(callFunc g args).run prog w=.ok (.enter g args) w)(hcmp:pB k g cb B0 off N0 w0)(w:World)(S:SE k w0 B0 off d w):
  C 330 #[V B0 off N0 cap,.func (.func g) #[] cb] w λe w'=>ku k w0 B0 off 0 N0 d e w':=by
 have h:=Z1 (IX k zE w0 B0 off cap g cb N0 d0 d R hs hsd hsz eg hcmp w S);clear hcmp S
 go_in
 go_wp2_with fail;refine h.o.mono ?_;rintro e w' ⟨rfl,i,b,c,f⟩;have a:=Z3 b c f;clear b c f;go_wp2
 go_end0
 exact⟨rfl,i,a.o.1,a.o.2.1,a.o.2.2⟩
def CD(cap g:Nat)(cb:Array Value)(w:World):
  C 330 #[.slice A 0 cap,.func (.func g) #[] cb] w λe w'=>e=.returned (.tuple #[])/\w'=w:=by
 have a:∀W,C 333 #[.slice A 0 cap,I 0,I 0,.func (.func g) #[] cb] W λe w'=>e=.returned (.tuple #[])/\W=w':=by
  intro W
  go_in
  go_wp2;go_loopg [8] 0 (λb s wr=>s=I 1/\W=wr)
  case atStart=>exact⟨rfl,rfl⟩
  case round=>
   obtain⟨rfl,rfl⟩:=hrel;go_wp2
   go_end0
   exact⟨rfl,rfl⟩
 have c:∀W,C 332 #[.slice A 0 cap,I 0,.func (.func g) #[] cb] W λe w'=>e=.returned (.tuple #[])/\W=w':=by
  intro W;have d:=Z1 a;clear a
  go_in
  go_wp2;go_loopg [7,8] 0 (λb f h wr=>f=I 0/\h=I 20/\W=wr)
  case atStart=>exact⟨rfl,rfl,rfl⟩
  case round=>
   obtain⟨rfl,rfl,rfl⟩:=hrel;go_wp2_with fail;refine zY (d.o _) ?_;go_wp2;go_loopg [6] 0 (λb s wr=>s=I 20/\W=wr)
   case atStart=>exact⟨rfl,rfl⟩
   case round=>
    obtain⟨rfl,rfl⟩:=hrel;go_wp2
    go_end0
    exact⟨rfl,rfl⟩
 have i:=Z1 c;clear a c
 go_in
 go_wp2_with fail;refine zY (i.o _) ?_;go_wp2
 go_end0
 exact⟨rfl,rfl⟩
end
section
open Go.Sort
def ky(l:List Et):Prop:=l.Pairwise λx y=>ltOf bY y x=false
end
section
open Go.Shelf Go.Sort Go.Lib
set_option maxRecDepth 100000
def Ff(q:Nat)(os os':Array Obj):grow ((grow (w.drewN n) os).drewN q) os'=grow (w.drewN (n+q)) (os++os'):=by
 obtain⟨h,a,b,c,d⟩:=w;simp only[grow,World.drewN,Array.append_assoc,PQ]
def CF(x y:Et)(w:World):
  C 331 #[.agg x.cells.toArray,.agg y.cells.toArray] w λe w'=>e=.returned (I (bY x y))/\∃q os',w'=grow (w.drewN q) os':=by
 have c:=xg w (.cells x.cells.toArray 224) (.cells y.cells.toArray 224);have a:=(Blk.A8 w 224 x.cells.toArray rfl).alloc (.cells y.cells.toArray 224);have b:=Blk.A8 (w.alloc (.cells x.cells.toArray 224)) 224 y.cells.toArray (g:=w.heap.size+1) zS;have d:=Z1 (uL x.k y.k ((w.alloc (.cells x.cells.toArray 224)).alloc (.cells y.cells.toArray 224)));have f:=Z1 c;obtain⟨⟨h,i⟩,j⟩:=x;obtain⟨⟨l,m⟩,n⟩:=y;have p:=a.cell 0;have r:=a.cell 1;have s:=b.cell 0;have t:=b.cell 1;unfold K2.val K2.arr at d;simp only[Et.cells]at*;simp only[PV,PZ,PL]at p r s t;clear a b c
 go_in
 go_wp2_with fail;refine d.o.mono ?_;rintro e u ⟨rfl,q,os',rfl⟩;go_wp2;go_ret;refine⟨rfl,0+q,#[.cells #[E h,E i,Z j 0] 224,.cells #[E l,E m,Z n 0] 224]++os',?_⟩;rw[f.o,Ff]
def Fg:pB 3 331 #[] B0 off N0 w0:=λm a b c x y=>CF x y _
def CG(h:SortedIn (ltOf bY) 0 d.size d):ky d.toList:=by
 refine Qq.2 λi j c a b=>?_;have:=h i j (OK _) b (by simpa using a);rw[getElem!_pos d i (by simpa using c),getElem!_pos d j (by simpa using a)]at this
 simpa using this
def CH{d':Array Et}(h:PermIn 0 d.size d d'):d'.toList.Perm d.toList:=by
 have a:=h.2.2;have b:(d.extract 0 d.size).toList=d.toList:=zS;have c:(d'.extract 0 d.size).toList=d'.toList:=by rw[<-h.1];simp
 rwa [b,c]at a
def Fh(l:List Et)(A:Option Addr)(c n:Nat)(w:World)(hr:an w w.heap.size 3 A n (ents l))(hnl:n=l.length)(hn:n<=100000):
  C 326 #[.slice A n c] w λe w'=>∃v out,e=.returned v/\out.Perm l/\ky out/\aL 3 w w' 224 v out.length (ents out):=by
 have Q:=Z1 (yW (ents l) A c n w hr (Jb l) hn);have b:=Z1 hnl;clear hr hnl
 go_in
 go_wp2_with fail;refine zX Q.o λv u f=>?_
 rcases PR n with p|p
 ·have G:l=[]:=OU (by have:=b.o;omega);subst p;obtain⟨S,T,rfl,_,_⟩:=ak f.own;have h:=Z2 f G;clear f G;go_wp2_with fail;refine zl (CD S T 331 #[] _) ?_;go_wp2;go_ret;refine⟨_,[],rfl,?_,List.Pairwise.nil,?_⟩
  ·rw[h.o.2]
  ·have:=h.o.1;rw[h.o.2]at this;exact this
 ·obtain⟨g,z,rfl,_,_⟩:=f.own.form p;obtain⟨F,H⟩:=pz (enc:=Et.cells) (k:=3) (λ_=>rfl) f.own b.o p;have R:no 3 u g 0 l.toArray:=⟨λ_=>rfl,λx v L=>by simp[Et.cells]at L;rcases L with rfl|rfl|rfl<;>rfl,F,H⟩;have U:=Z1 (Fa 3 (λw=>zR) u g 0 z 331 #[] n l.toArray l.toArray R (by simp[b.o]) (by simp[b.o]) zO (enters_of func331 zR rfl) (Fg _ _ _ _) u (SWK.start F));have h:=Z1 f;have X:=Z1 p;clear f F H R p;go_wp2_with fail;refine U.o.mono ?_;rintro e N ⟨rfl,q,O,y,B⟩;have D:n=l.toArray.size:=by simp[b.o]
  rw[D]at y;have i:=CH y;have a:q.size=l.length:=by rw[y.1];simp
  have r:=CG (by rw[a,<-b.o];exact B);have s:N.ownsRow w.heap.size 224 3 (V g 0 n z) n (ents q.toList)/\ag (λj=>j=g) u N:=by
   obtain⟨m,os,rfl⟩:=O;have:=oq (m:=m) (os:=os) (d:=q.toList) (enc:=Et.cells) (k:=3) (λ_=>rfl) h.o.own b.o (by simpa using a) X.o;simpa[ents]using this
  have t:=Z4 i r s a;clear y i B r s a D O;go_wp2;go_ret;have a:q.toList.length=n:=by have h1:=t.o.2.2.2;have h2:=b.o;simpa[h2]using h1
  refine⟨_,q.toList,rfl,t.o.1,t.o.2.1,?_⟩;rw[a];have P:=h.o.below;have ac:=(h.o.own.lt g rfl).1;exact⟨t.o.2.2.1.1,P.trans (t.o.2.2.1.2.below P.size λj e=>zO)⟩
end
structure tS(w:World)(A:Option Addr)(n:Nat)(vs:List Value)(parts:List (List Et)):Prop where
 reads:an w w.heap.size 1 A n vs
 len:n=parts.length
 each:∀i (h:i<parts.length),∃A' c',vs[i]?=some (.slice A' parts[i].length c')/\an w w.heap.size 3 A' parts[i].length (ents parts[i])
def nM(w wr:World)(ep:Int)(l:List Et):Prop:=∃v,Blk wr w.heap.size 172 #[I ep,v]/\wr.ownsRow w.heap.size 224 3 v l.length (ents l)/\M w wr
def sF{w:World}{B n k:Nat}{A:Option Addr}{l:List Et}(h:an w B 3 A n (ents l))(hn:n=l.length)(hk:k<l.length):
  ∃b o,A=some (Y b o)/\b<B/\w.cell? (Y b (o+k*3))=some (E l[k].k.hi)/\w.cell? (Y b (o+k*3+1))=some (E l[k].k.lo)/\w.cell? (Y b (o+k*3+2))=some (Z (l[k].p) 0):=by
 obtain⟨b,o,rfl,c,a⟩:=h.elem (f:=Et.cells) (λ_=>rfl) zP hn hk;exact⟨b,o,rfl,c,a 0 _ rfl,a 1 _ rfl,a 2 _ rfl⟩
def qN{w:World}{g:Nat}{t:TypeId}{a b c:Value}(h:Blk w g t #[a,b,c]):w.cell? (Y g 0)=some a/\w.cell? (Y g 1)=some b/\w.cell? (Y g 2)=some c:=⟨h.cell 0,h.cell 1,h.cell 2⟩
def nN(h:i<parts.length):(parts.take (i+1)).flatten=(parts.take i).flatten++parts[i]:=by
 rw[OG h,Se];simp
def Bu{j:Nat}(h:i<parts.length)(hj:j<=parts[i].length):((parts.take i).flatten++(parts[i]).take j).length<=parts.flatten.length:=by
 have a:parts=parts.take (i+1)++parts.drop (i+1):=(Qr _ _).symm;have b:parts.flatten.length=(parts.take (i+1)).flatten.length+(parts.drop (i+1)).flatten.length:=by
  conv=>lhs;rw[a]
  rw[Se,OS]
 rw[b,nN h,OS,OS,PG];omega
def CI(c:Cg)(ep:Int)(A:Option Addr)(n cap:Nat)(vs:List Value)(parts:List (List Et))(h:tS w A n vs parts)(hz:∀l∈parts,∀x∈l,∃xd F,bC w c x.p xd true F)(hlen:parts.flatten.length<=90000)(hnn:n<=90000):
  C 320 #[I ep,.slice A n cap] w λe w'=>∃cb v out,e=.returned (Z cb 0)/\w.heap.size<=cb/\out.Perm parts.flatten/\ky out/\Blk w' cb 172 #[I ep,v]/\w'.ownsRow w.heap.size 224 3 v out.length (ents out)/\M w w':=by
 have H:=Z3 h hz hlen;have ay:nM w (w.alloc (.cells #[I ep,.slice none 0 0] 172)) ep []:=⟨_,Blk.A8 w 172 _ rfl,Pn _ _ _ _,ae (Oy _ _) _⟩;have az:=Z1 ay;clear h hz hlen ay
 go_in
 go_wp2;go_loopw [15] (λiv wr=>∃(i:Nat),i<=n/\iv=I i/\Hid (nM w wr ep (parts.take i).flatten)) (λiv _=>n-(intOf iv).toNat)
 case atStart=>exact⟨0,OK _,rfl,az⟩
 case round=>
  obtain⟨i,hi,rfl,HI⟩:=hrel;by_cases bg:i<n
  ·have G:i<parts.length:=by have:=H.o.1.len;omega
   obtain⟨A1,c1,a0,aa⟩:=H.o.1.each i G;obtain⟨v,D,q,k⟩:=HI.o;obtain⟨ad,u,rfl,b8,hu,hc⟩:=(H.o.1.reads.below k).at_ bg;rw[a0]at hu;injection hu with hu;subst hu;obtain⟨m,N⟩:∃m,m=parts[i].length:=⟨_,rfl⟩;rw[<-N]at aa hc;have X:=Z2 aa N;have b9:m<=90000:=by
    have h1:=Bu G (OA _);rw[OS,PO]at h1;have:=H.o.2.2;omega
   have a1:nM w wr ep ((parts.take i).flatten++(parts[i]).take 0):=by rw[OO,PC];exact HI.o
   have a2:=Z1 a1;clear aa N a1 D q k a0;go_wp2;go_loopw [21] (λjv wr=>∃(j:Nat),j<=m/\jv=I j/\Hid (nM w wr ep ((parts.take i).flatten++(parts[i]).take j))) (λjv _=>m-(intOf jv).toNat)
   case atStart=>exact⟨0,OK _,rfl,a2⟩
   case round=>
    clear hc;obtain⟨j,hj,rfl,HJ⟩:=hrel;by_cases ca:j<m
    ·have P:j<parts[i].length:=by have:=X.o.2;omega
     obtain⟨v,D,q,k⟩:=HJ.o;obtain⟨b,o,rfl,cc,g0,g1,g2⟩:=sF (X.o.1.below k) X.o.2 P;obtain⟨x,hx⟩:∃x,x=parts[i][j]:=⟨_,rfl⟩;rw[<-hx]at g0 g1 g2;obtain⟨xd,F,a3⟩:=H.o.2.1 _ (OR G) x (by rw[hx];exact OR P);obtain⟨L,hL⟩:∃L,L=(parts.take i).flatten++(parts[i]).take j:=⟨_,rfl⟩;have Q:(parts.take i).flatten++(parts[i]).take (j+1)=L++[x]:=by
      rw[hL,hx,OG P,Pv]
     rw[<-hL]at q;have cd:L.length<=90000:=by
      rw[hL];exact OJ (Bu G (RD P)) H.o.2.2
     obtain⟨R,r⟩:∃f:Nat->Prop,∀g,f g↔v.ownBlock=some g:=⟨_,λ_=>Iff.rfl⟩;have a4:=Z1 r;have ac:¬R w.heap.size:=λe=>aB q D zP ((r _).1 e);have bk:¬R wr.heap.size:=λe=>by have:=(q.lt _ ((r _).1 e)).2;omega
     obtain⟨Av,cv,rfl,_,_⟩:=ak q;have ah:=Blk.A8 wr 224 x.cells.toArray rfl;have O:=zh wr (.cells x.cells.toArray 224);have HF:=Z1 (Ag _ c x.p xd true F ((a3.up k).up O));have y:=Z6 hx Q (D.later O) (aN q O) (af k O) ah;obtain⟨⟨x0,x1⟩,xp⟩:=x;have d2:=ah.cell 2;simp only[Et.cells]at*;clear r ah O a3 hx Q hL D q k HJ a2;go_wp2_with fail;refine zY HF.o ?_;generalize a5:wr.heap.size=v9 at*;generalize bl:wr.alloc (.cells #[E x0,E x1,Z xp 0] 224)=W at*;have ce:=Z1 a5;clear a5 bl;have bm:=y.o.2.2.1.lt;have cf:=y.o.2.2.2.2.2.lt;have c1:=y.o.2.2.1.cell 1;obtain⟨e0,e1,e2⟩:=qN y.o.2.2.2.2.2;have be:w.heap.size<=W.heap.size:=zO;go_wp2;have hS:=(ag.refl R W).drew;refine bW 10 (S:=λV=>ag R W V) zR zR hS ?_;simp only[OM,OO,ON,OQ];try simp only[zD,zE,Nat.reduceAdd,zG]
     refine zL ?_;refine zq 4 _ ?_ (hy:=λW hW=>by have q0:=(OI (a:=Y w.heap.size 1) (hW.block w.heap.size bm ac)).trans c1;exact zf);refine zq 5 _ ?_ (hy:=λW hW=>by obtain⟨q0,q1,q2⟩:=qN (hW.B0 y.o.2.2.2.2.2 bk);exact zf);refine zo 6 λK hK=>?_;go_simp;refine zJ hK (hS.alloc _) ?_;refine zo 7 λK hK=>?_;try simp only[iZ]
     refine iI (w:=W.drew) (n:=L.length) (xs:=ents L) (B:=w.heap.size) (v:=.slice Av L.length cv) Bt zP (.tmp 37) (.tmp 39) rfl zF y.o.2.2.2.1.drew be rfl zF rfl zV zO zU ?_;intro v' w' aj al a6;have T:=dl hS al (λ_ h=>h) λj hj=>(a4.o j).2 hj;have s:=T.B0 y.o.2.2.1 ac;obtain⟨A3,k3,rfl,_,_⟩:=ak aj;have g1:=s.cell 1;have gf:=s.frozen 1;have H4:=Z5 s aj a6 al T;clear aj al a6 s;refine zJ hK T ?_;rw[bI];clear T hS;go_wp2;have am:nM w (w'.setCell (Y w.heap.size 1) (.slice A3 (L.length+1) k3)) ep ((parts.take i).flatten++(parts[i]).take (j+1)):=by
      rw[y.o.2.1];obtain⟨s,a7,b3,_,bp⟩:=H4.o;have z:=aB a7 s zP;refine⟨_,s.B4 1 _,?_,?_⟩
      ·have:=bA (p:=Y w.heap.size 1) a7 z (.slice A3 (L.length+1) k3);rw[OS,<-uN];exact this
      ·have a8:=y.o.2.2.2.2.1;refine a8.trans (((bp.below (B:=w.heap.size) a8.size λg hg=>?_)).setCell (p:=Y w.heap.size 1) (OA _) _);have:=(y.o.2.2.2.1.lt g ((a4.o g).1 hg)).1;exact this
     have bq:=Z1 am;clear am;go_roundw
     case rel=>exact⟨j+1,zO,by go_num,bq⟩
     case measure=>simp[intOf];omega
    ·obtain rfl:j=m:=zO;have hd:nM w wr ep (parts.take (i+1)).flatten:=by
      rw[nN G];have h0:=HJ.o;have e1:=X.o.2;rw[e1,PO]at h0;exact h0
     have HD:=Z1 hd;clear hd;go_wp2;go_roundw
     case rel=>exact⟨i+1,zO,by go_num,HD⟩
     case measure=>simp[intOf];omega
  ·obtain rfl:i=n:=zO;have e1:=H.o.1.len;obtain⟨v,D,q,k⟩:=HI.o;rw[e1,PO]at q;obtain⟨m,N⟩:∃m,m=parts.flatten.length:=⟨_,rfl⟩;rw[<-N]at q;obtain⟨Av,cv,rfl,_,_⟩:=ak q;have c1:=D.cell 1;have hr:=an.C4 q;have HS:=Z1 (λW (hr:an W W.heap.size 3 Av m (ents parts.flatten))=>Fh parts.flatten Av cv m W hr N (by have:=H.o.2.2;omega));have X:=Z1 hr;have HB:=Z4 D q k N;clear D q k N hr e1 az HI;simp only[PV,PL,PZ]at c1;go_wp2_with fail;refine(HS.o _ X.o).mono ?_;rintro e w2 ⟨v2,out,rfl,hp,U,d⟩;obtain⟨A2,c2,rfl,_,_⟩:=ak d.own;have t:=HB.o.1.later d.below;have f1:=t.frozen 1;have cg:=t.cell 1;have z:=aB d.own t zP;have HZ:=Z5 hp U d t z;clear hp U d t z;go_wp2;go_ret;obtain⟨hp,U,d,t,z⟩:=HZ.o;have a9:=HB.o.2.2.1.size;refine⟨w.heap.size,_,out,rfl,OA _,hp,U,t.B4 1 _,?_,?_⟩
   ·exact aP (bA (p:=Y w.heap.size 1) d.own z _) a9
   ·exact HB.o.2.2.1.trans ((d.below.mono a9).setCell (p:=Y w.heap.size 1) (OA _) _)
section
open Go.Sort
def entZ(z:K2×Nd):Et:=⟨z.1,z.2.p⟩
def tT:Option Nd->Value
 |some z=>.tuple #[Z z.p 0,.bool true]
 |none=>.tuple #[.pointer none,.bool false]
structure xo(l:List Et)(k:K2)(i:Nat):Prop where
 le:i<=l.length
 low:∀t (h:t<l.length),t<i->bM (l[t]).k k<0
 high:∀t (h:t<l.length),i<=t->0<=bM (l[t]).k k
def pC{x y:K2}:bM x y=0↔x=y:=by
 unfold bM;by_cases h:x=y
 ·simp[h]
 ·by_cases a:x.hi<y.hi\/(x.hi=y.hi/\x.lo<y.lo)<;>simp[h,a]
def Bv{x y:K2}:bM x y<0↔(x.hi<y.hi\/(x.hi=y.hi/\x.lo<y.lo)):=by
 have:=nK x y;unfold ltOf at this;rw[<-decide_eq_true_iff (p:=bM x y<0),this,decide_eq_true_iff]
def pD{l:List Et}(hs:ky l)(hab:a<=b)(hb:b<l.length)(h:bM (l[b]).k k<0):bM (l[a]'(by omega)).k k<0:=by
 rcases Ri hab with rfl|c
 ·exact h
 ·have d:=Qq.1 hs a b zO hb c;rw[Bs,nK,decide_eq_false_iff_not]at d;rw[Bv]at h ⊢;omega
def Fi{zs:List (K2×Nd)}(hs:ky (zs.map entZ))(hd:cw zs)(hf:xo (zs.map entZ) k i):
  (∃z,ap zs k=some z/\∃h:i<zs.length,zs[i]=(k,z))\/(ap zs k=none/\∀h:i<(zs.map entZ).length,bM ((zs.map entZ)[i]).k k≠0):=by
 by_cases g:∃h:i<zs.length,(zs[i]).1=k
 ·obtain⟨h,g⟩:=g;have o:(k,(zs[i]).2)∈zs:=by rw[<-g];exact OR h
  exact .inl ⟨_,im hd o,h,by rw[<-g]⟩
 ·refine .inr ⟨?_,λh e=>?_⟩
  ·rw[gz];intro o;obtain⟨z,t,l⟩:=Pa.1 o;obtain⟨j,u,m⟩:=PJ t;have n:j<(zs.map entZ).length:=by simpa using u
   have p:((zs.map entZ)[j]).k=k:=by simp[entZ,m,l]
   have A:¬j<i:=λh=>by
    have:=hf.low j n h;rw[p,pC.2 rfl]at this;omega
   have q:i<j:=by
    rcases Nat.lt_or_ge i j with h|h
    ·exact h
    ·have:i=j:=zO;exact absurd ⟨zO,by subst this;rw[m];exact l⟩ g
   have f:i<(zs.map entZ).length:=zO;have r:=Qq.1 hs i j f n q;have s:=Int.not_lt.2 (hf.high i f (OA _));rw[Bs,nK,decide_eq_false_iff_not,p]at r;rw[Bv]at s;refine g ⟨by simpa using f,?_⟩;have v:((zs.map entZ)[i]).k=(zs[i]'(by simpa using f)).1:=by simp[entZ]
   rw[v]at r s;obtain⟨a,b⟩:=k;generalize (zs[i]'(by simpa using f)).1=y at*;obtain⟨c,d⟩:=y;simp only at*;have w:c=a:=zO;have x:d=b:=zO;rw[w,x]
  ·rw[pC]at e;exact g ⟨by simpa using h,by simpa[entZ]using e⟩
end
structure eK(w:World)(c:Cg)(T:Nat->Tg)(cb:Nat)(ep:Int)(zs:List (K2×Nd)):Prop where
 ex:∃v,Blk w cb 172 #[I ep,v]/\w.ownsRow 0 224 3 v zs.length (ents (zs.map entZ))/\∀g,v.ownBlock=some g->T g=.fz
 tb:T cb=.fz
 nodes:∀z∈zs,bC w c z.2.p z.2.x true (λb=>T b=.fz)
 sorted:ky (zs.map entZ)
 D7:cw zs
def eK.B7{w:World}{c:Cg}{cb:Nat}{zs:List (K2×Nd)}(h:eK w c T cb ep zs)(hK:ag L w w')(hL:∀b,T b=.fz->¬L b):eK w' c T cb ep zs:=by
 obtain⟨v,d,e,a⟩:=h.ex;exact⟨⟨v,hK.B0 d (hL _ h.tb),hK.C8 e λg f=>hL _ (a g f),a⟩,h.tb,λz i=>(h.nodes z i).B7 hK hL,h.sorted,h.D7⟩
def eK.up{w:World}{c:Cg}{cb:Nat}{zs:List (K2×Nd)}(h:eK w c T cb ep zs)(hb:M w w'):eK w' c T cb ep zs:=h.B7 (L:=λ_=>False) (ag.B5 hb) λ_ _ e=>e
def eK.tags{w:World}{c:Cg}{T':Nat->Tg}{cb:Nat}{zs:List (K2×Nd)}(h:eK w c T cb ep zs)(hT:∀b,b<w.heap.size->T b=.fz->T' b=.fz):eK w c T' cb ep zs:=by
 obtain⟨v,a,d,i⟩:=h.ex;exact⟨⟨v,a,d,λg f=>hT g (d.lt g f).2 (i g f)⟩,hT _ a.lt h.tb,λz j=>(h.nodes z j).more λb k e=>hT b k e,h.sorted,h.D7⟩
def CJ(c:Cg)(T:Nat->Tg)(cb:Nat)(ep:Int)(zs:List (K2×Nd))(h:eK w c T cb ep zs):C 33 #[Z cb 0] w λe w'=>e=.returned (I ep)/\w=w':=by
 obtain⟨v,a,_,_⟩:=h.ex;have b:=a.cell 0
 go_in
 go_wp2;go_ret;exact⟨rfl,rfl⟩
def Fj(x:Et)(k:K2)(w:World):
  C 123 #[.agg x.cells.toArray,k.val] w (J (I (bM x.k k)) w):=by
 have a:=(Blk.A8 w 224 x.cells.toArray rfl).alloc (.cells #[E k.hi,E k.lo] 58);have c:=Blk.A8 (w.alloc (.cells x.cells.toArray 224)) 58 #[E k.hi,E k.lo] (g:=w.heap.size+1) zS;have d:M w ((w.alloc (.cells x.cells.toArray 224)).alloc (.cells #[E k.hi,E k.lo] 58)):=ae (ae (Oy _ _) _) _;have f:=Z1 (IS x.k k ((w.alloc (.cells x.cells.toArray 224)).alloc (.cells #[E k.hi,E k.lo] 58)));have h:=Z1 d;obtain⟨⟨l,m⟩,n⟩:=x;obtain⟨p,q⟩:=k;have i:=a.cell 0;have j:=a.cell 1;obtain⟨r,s⟩:=ao c;unfold K2.val K2.arr at*;simp only[Et.cells]at*;simp only[PV,PZ,PL]at i j
 go_in
 go_wp2_with fail;refine zm f.o λt b=>?_;go_wp2;go_ret;exact⟨rfl,af h.o b⟩
def An(l:List Et)(k:K2)(hs:ky l)(A:Option Addr)(c n:Nat)(w:World)(hr:an w w.heap.size 3 A n (ents l))(hnl:n=l.length)(hn:n<=100000):
  C 122 #[.slice A n c,k.val,.func (.func 123) #[] #[]] w λe w'=>∃(i:Nat) (b:Bool),e=.returned (.tuple #[I i,.bool b])/\xo l k i/\(b=true↔∃h:i<l.length,bM (l[i]).k k=0)/\M w w':=by
 have P:=zh w (.cells #[E k.hi,E k.lo] 58);have s:=Blk.A8 w 58 #[E k.hi,E k.lo] rfl;have HC:=Z1 (λx W=>Fj x k W);obtain⟨N,O⟩:=k;have U:=Z2 P s;have f:=Z3 (hr.up P) hnl hs;unfold K2.val K2.arr at*;simp only at*;clear hr hnl hs P s
 go_in
 go_wp2;generalize ab:w.heap.size=X at*;generalize ak:w.alloc (.cells #[E N,E O] 58)=W at*;have al:=Z1 ab;clear ab ak;go_loopw [9,10] (λa b wr=>∃(i j:Nat),i<=j/\j<=n/\a=I i/\b=I j/\Hid ((∀t (h:t<l.length),t<i->bM (l[t]).k ⟨N,O⟩<0)/\(∀t (h:t<l.length),j<=t->0<=bM (l[t]).k ⟨N,O⟩)/\M W wr)) (λa b _=>(intOf b).toNat - (intOf a).toNat)
 case atStart=>exact⟨0,n,OK _,OA _,rfl,rfl,Z1 ⟨λt h u=>zO,λt h u=>by have:=f.o.2.1;omega,Oy _ _⟩⟩
 case round=>
  obtain⟨i,j,a6,am,rfl,rfl,g⟩:=hrel;by_cases ap:i<j
  ·obtain⟨h,a7,ac,a8,a9⟩:=nL ap;have v:h<l.length:=by have:=f.o.2.1;omega
   have HH:=Z1 ac;have ba:h<n:=zO;clear ac;obtain⟨b,o,rfl,m,Q,R,T⟩:=sF (f.o.1.up g.o.2.2) f.o.2.1 v;have d:=U.o.2.later g.o.2.2;obtain⟨d0,d1⟩:=ao d;have y:=d.lt;obtain⟨x,s⟩:∃x,x=l[h]:=⟨_,rfl⟩;rw[<-s]at Q R T;have G:=Z2 s v;have z:=Z1 (λV=>HC.o x V);obtain⟨H,q⟩:∃H,H=bM x.k ⟨N,O⟩:=⟨_,rfl⟩;rw[<-q]at z;have B:=Z1 q;obtain⟨⟨x0,x1⟩,xp⟩:=x;simp only[Et.cells]at*;clear s q d;go_wp2;have D:=(zi wr);refine zH (S:=λV=>M wr V) D ?_;refine zq 4 _ ?_ (hy:=λW hW=>by have q0:=(OF hW (p:=Y b (o+h*3)) m).trans Q;have q1:=(OF hW (p:=Y b (o+h*3+1)) m).trans R;have q2:=(OF hW (p:=Y b (o+h*3+2)) m).trans T;exact zf);refine zq 5 _ ?_ (hy:=λW hW=>by have q0:=(OF hW (p:=Y X 0) y).trans d0;have q1:=(OF hW (p:=Y X 1) y).trans d1;exact zf);refine zo 6 λK hK=>?_;go_simp;refine zm (z.o _) λw2 F=>?_;have r:=af D F;refine zJ hK r ?_;have L:=Z1 r;clear r D F;by_cases hv:H<0
   ·have hd:=decide_eq_true hv;go_wp2;go_roundw
    case rel=>
     refine⟨h+1,j,zO,am,by go_num,rfl,Z1 ⟨λt ht u=>?_,g.o.2.1,af g.o.2.2 L.o⟩⟩;exact pD f.o.2.2 (a:=t) (b:=h) zO G.o.2 (by rw[<-G.o.1,<-B.o];exact hv)
    case measure=>simp[intOf];omega
   ·have hd:=decide_eq_false hv;go_wp2;go_roundw
    case rel=>
     refine⟨i,h,zO,zO,rfl,rfl,Z1 ⟨g.o.1,λt ht u=>Int.not_lt.1 λhc=>?_,af g.o.2.2 L.o⟩⟩;have:=pD f.o.2.2 (a:=h) (b:=t) u ht hc;rw[<-G.o.1,<-B.o]at this;exact hv this
    case measure=>simp[intOf];omega
  ·obtain rfl:i=j:=zO;have hF:xo l ⟨N,O⟩ i:=⟨by have:=f.o.2.1;omega,g.o.1,g.o.2.1⟩;have HF:=Z1 hF;have au:=U.o.1;have d:=U.o.2.later g.o.2.2;obtain⟨d0,d1⟩:=ao d;have y:=d.lt;have D:=(zi wr);have ad:Hid (M w wr):=Z1 (by
    have u:=U.o.1;try rw[<-al.o]at u
    exact af u g.o.2.2)
   clear d au;by_cases bb:i<n
   ·have av:(i:Int)<(n:Int):=zO;have v:i<l.length:=by have:=f.o.2.1;omega
    obtain⟨b,o,rfl,m,Q,R,T⟩:=sF (f.o.1.up g.o.2.2) f.o.2.1 v;obtain⟨x,s⟩:∃x,x=l[i]:=⟨_,rfl⟩;rw[<-s]at Q R T;have G:=Z2 s v;have z:=Z1 (λV=>HC.o x V);obtain⟨H,q⟩:∃H,H=bM x.k ⟨N,O⟩:=⟨_,rfl⟩;rw[<-q]at z;have B:=Z1 q;obtain⟨⟨x0,x1⟩,xp⟩:=x;simp only[Et.cells]at*;clear s q;go_wp2;refine zH (S:=λV=>M wr V) D ?_;refine zq 9 _ ?_ (hy:=λW hW=>by have q0:=(OF hW (p:=Y b (o+i*3)) m).trans Q;have q1:=(OF hW (p:=Y b (o+i*3+1)) m).trans R;have q2:=(OF hW (p:=Y b (o+i*3+2)) m).trans T;exact zf);refine zq 10 _ ?_ (hy:=λW hW=>by have q0:=(OF hW (p:=Y X 0) y).trans d0;have q1:=(OF hW (p:=Y X 1) y).trans d1;exact zf);refine zo 11 λK hK=>?_;go_simp;refine zm (z.o _) λw2 F=>?_;have r:=af D F;refine zJ hK r ?_;have L:=Z1 r;clear r D F;go_wp2
    go_ret2
    refine⟨i,H==0,rfl,HF.o,?_,af ad.o L.o⟩;rw[beq_iff_eq];exact⟨λe=>⟨G.o.2,by rw[<-G.o.1,<-B.o];exact e⟩,λ⟨u,h2⟩=>by rw[B.o];have h3:=G.o.1;rw[<-h3]at h2;exact h2⟩
   ·have av:¬(i:Int)<(n:Int):=zO;go_wp2;refine zH (S:=λV=>M wr V) D ?_;go_wp2
    go_ret2
    exact⟨i,false,rfl,HF.o,Iff.intro (λe=>by cases e) (λe=>by obtain⟨u,_⟩:=e;have:=f.o.2.1;omega),ad.o.drew⟩
def xq(c:Cg)(T:Nat->Tg)(cb:Nat)(ep:Int)(zs:List (K2×Nd))(h:eK w c T cb ep zs)(hn:zs.length<=100000)(k:K2):
  C 77 #[Z cb 0,k.val] w (J (tT (ap zs k)) w):=by
 obtain⟨v,g,a,_⟩:=h.ex;obtain⟨m,r⟩:∃m,m=zs.length:=⟨_,rfl⟩;rw[<-r]at a hn;have j:=zh w (.cells #[E k.hi,E k.lo] 58);have R:=Blk.A8 w 58 #[E k.hi,E k.lo] rfl;obtain⟨A,c1,rfl,_,_⟩:=ak a;have d:=Z6 j R (g.later j) (aN a j) r h;have HS:=Z1 (λW (s:an W W.heap.size 3 A m (ents (zs.map entZ)))=>An (zs.map entZ) k h.sorted A c1 m W s (by simp[r]) hn);obtain⟨U,X⟩:=k;unfold K2.val K2.arr at*;simp only at*;clear g a j R r h
 go_in
 go_wp2;generalize x:w.heap.size=v9 at*;generalize ab:w.alloc (.cells #[E U,E X] 58)=W at*;have ac:=Z1 x;clear x ab;have t:=(zi W);have l:=d.o.1;try rw[<-ac.o]at l
 have ad:=Z1 l;have y:=d.o.2.2.1.lt;have B:=d.o.2.1.lt;have D:=d.o.2.2.1.cell 1;obtain⟨d0,d1⟩:=ao d.o.2.1;clear l;refine zH (S:=λV=>M W V) t ?_;refine zq 3 _ ?_ (hy:=λW hW=>by have q0:=(OF hW (p:=Y cb 1) y).trans D;exact zf);refine zq 4 _ ?_ (hy:=λW hW=>by have q0:=(OF hW (p:=Y v9 0) B).trans d0;have q1:=(OF hW (p:=Y v9 1) B).trans d1;exact zf);refine zo 5 λK hK=>?_;go_simp;refine(HS.o _ (an.C4 (aN d.o.2.2.2.1 t))).mono ?_;rintro e w2 ⟨i,b,rfl,hF,F,G⟩;have f:=af t G;have u:=Z2 hF F;refine zJ hK f ?_;have H:=af ad.o f;have aq:=(OF f (p:=Y cb 1) y).trans D;have P:=Z2 H f;have n:=Fi d.o.2.2.2.2.2.sorted d.o.2.2.2.2.2.D7 u.o.1;have L:=u.o.1.le;clear H f t G hF F
 cases b with
 |false=>
  have q:ap zs ⟨U,X⟩=none:=by
   rcases n with⟨z,_,g,a⟩|⟨g,_⟩
   ·have:=u.o.2.2 ⟨by simpa using g,by simp[entZ,a,pC.2]⟩
    cases this
   ·exact g
  have Q:=Z1 q;clear q n L;go_wp2
  go_ret2
  refine⟨?_,P.o.1⟩;rw[Q.o];rfl
 |true=>
  obtain⟨N,O⟩:=u.o.2.1 rfl
  rcases n with⟨z,q,g,a⟩|⟨_,a⟩
  ·have s:=an.C4 (aN d.o.2.2.2.1 P.o.2);obtain⟨bb,o,rfl,aw,g0,g1,g2⟩:=sF s (by simp[d.o.2.2.2.2.1]) N;have e3:((zs.map entZ)[i]).p=z.p:=by simp[entZ,a]
   rw[e3]at g2;have ax:i<m:=by have:=d.o.2.2.2.2.1;omega
   have Q:=Z1 q;clear q L a O e3 g0 g1 s;go_wp2
   go_ret2
   refine⟨?_,P.o.1⟩;rw[Q.o];rfl
  ·exact absurd O (a N)
structure Sr where
 p:Nat
 mb:Nat
 C7:Int
 zs:List (K2×Nd)
structure Sto where
 rows:List Sr
 B9:List (Option (Nat×List (K2×Nd)))
 over:Bool
def Cg.I6{c:Cg}(h:c.ok):dL (c.st:Int)=true:=by
 unfold Cg.ok cA at h;simp only[OY]at h;exact h.1
def Cg.small{c:Cg}(h:c.ok):1<=c.st/\c.st<=64/\1<=c.sa/\c.sa<=256/\1<=c.lo/\c.lo<=256/\1<=c.hi/\c.hi<=64:=by
 have a:=ob (Cg.I6 h);unfold Cg.ok cA at h;simp only[OY,decide_eq_true_eq]at h;omega
def homeN(c:Cg)(k:K2):Nat:=(gg k c.st).toNat
def cJ{c:Cg}(h:c.ok)(k:K2):homeN c k<c.st:=by
 have:=ro k (Cg.I6 h);unfold homeN;omega
def cy{c:Cg}(h:c.ok)(k:K2):gg k c.st=(homeN c k:Int):=by
 have:=ro k (Cg.I6 h);unfold homeN;omega
def xr{c:Cg}(h:c.ok)(k k':K2):(gg k c.st==gg k' c.st)=decide (homeN c k=homeN c k'):=by
 rw[cy h,cy h];by_cases e:homeN c k=homeN c k'
 ·simp[e]
 ·have:¬((homeN c k:Int)=(homeN c k':Int)):=zO;simp[e,this]
def cH{α:Type}(c:Cg)(l:List (K2×α))(i:Nat):List (K2×α):=l.filter λe=>decide (homeN c e.1=i)
def Jc{α:Type}{c:Cg}(h:c.ok)(l:List (K2×α))(k:K2):sA c l k=(cH c l (homeN c k)).length:=by
 unfold sA cH;congr 1;refine QK λe _=>?_;exact xr h e.1 k
def uQ{α:Type}(c:Cg)(l:List (K2×α))(k:K2):ap (cH c l (homeN c k)) k=ap l k:=by
 induction l with
 |nil=>rfl
 |cons e r ih=>
  obtain⟨j,y⟩:=e;unfold cH at ih ⊢;by_cases a:j=k
  ·subst a;simp[ap]
  ·by_cases h:homeN c j=homeN c k
   ·rw[QO (by simpa using h)];simp only[ap,a,if_false];exact ih
   ·rw[QP (by simpa using h)];simp only[ap,a,if_false];exact ih
def pE{α:Type}(c:Cg){l:List (K2×α)}(hd:cw l)(i:Nat):cw (cH c l i):=hd.sublist (List.filter_sublist.map _)
def xu{α:Type}(c:Cg){l:List (K2×α)}(hd:cw l)(k:K2)(v:α):(cH c (aR l k v) (homeN c k)).Perm (aR (cH c l (homeN c k)) k v):=by
 have a:=(io hd k v).filter (λe=>decide (homeN c e.1=homeN c k));have b:=io (pE c hd (homeN c k)) k v;refine(show(cH c (aR l k v) (homeN c k)).Perm _ from a).trans (List.Perm.trans ?_ b.symm);rw[QO zS];refine List.Perm.cons _ (Rx ?_);unfold ft cH;rw[QZ,QZ];exact QK λe _=>Bool.and_comm _ _
def xw{α:Type}(c:Cg){l:List (K2×α)}(hd:cw l)(k:K2)(v:α)(hi:i≠homeN c k):(cH c (aR l k v) i).Perm (cH c l i):=by
 have a:=(io hd k v).filter (λe=>decide (homeN c e.1=i));refine(show(cH c (aR l k v) i).Perm _ from a).trans ?_;rw[QP (by simpa using Pc hi)];refine Rx ?_;unfold ft cH;rw[QZ];refine QK λe _=>?_;by_cases h:homeN c e.1=i
 ·have:e.1≠k:=λb=>hi (by rw[<-h,b]);simp[h,this]
 ·simp[h]
structure dP(c:Cg)(ls:List (K2×Ld))(i:Nat)(zs:List (K2×Nd)):Prop where
 homes:∀z∈zs,homeN c z.1=i
 part:(cH c ls i).Perm (lds zs)
structure Fk(c:Cg)(zs:List (K2×Nd))(ls:List (K2×Ld)):Prop where
 perm:(lds zs).Perm ls
 C6:∀z∈zs,z.2.x.C6 c
 E5:zs.length<=20000
structure et(c:Cg)(S:Sto)(m:Mp):Prop where
 n:S.rows.length=c.st
 row:∀i (h:i<S.rows.length),dP c m.ls i S.rows[i].zs
 D7:cw m.ls
 O2:∀e∈m.ls,e.1.ok
 C6:∀e∈m.ls,e.2.C6 c
 E5:∀i,(cH c m.ls i).length<=c.lo
 over:S.over=m.over
 G8:S.B9.length=m.B9.length
 cut:∀i:Nat,(∃(e:Nat×List (K2×Nd)) (ls:List (K2×Ld)),S.B9[i]?=some (some e)/\m.B9[i]?=some (some ls)/\Fk c e.2 ls)\/(S.B9[i]?=some none/\m.B9[i]?=some none)\/(S.B9[i]?=none/\m.B9[i]?=none)
def et.J4{c:Cg}{S:Sto}{m:Mp}(h:et c S m)(hc:c.ok)(k:K2):homeN c k<S.rows.length:=by rw[h.n];exact cJ hc k
def dP.get{c:Cg}{zs:List (K2×Nd)}(hd:cw ls)(h:dP c ls (homeN c k) zs):ap ls k=(ap zs k).map (·.x):=by
 rw[<-uQ c ls k,uB (pE c hd _) h.part,tP]
def dP.length{c:Cg}{zs:List (K2×Nd)}(h:dP c ls i zs):(cH c ls i).length=zs.length:=by
 rw[h.part.length_eq];unfold lds;exact Pe _
def dP.C6{c:Cg}{zs:List (K2×Nd)}(h:dP c ls i zs)(hf:∀e∈ls,e.2.C6 c):∀z∈zs,z.2.x.C6 c:=λz a=>by
 have b:=Pq (f:=λz:K2×Nd=>(z.1,z.2.x)) a;exact hf _ (Pp.1 (h.part.mem_iff.2 b)).1
def dP.put{c:Cg}{zs:List (K2×Nd)}(hd:cw ls)(hdz:cw zs)(h:dP c ls (homeN c k) zs)(z:Nd):dP c (aR ls k z.x) (homeN c k) (aR zs k z):=by
 refine⟨λy a=>?_,?_⟩
 ·rcases Pj.1 ((io hdz k z).mem_iff.1 a)with rfl|a
  ·rfl
  ·exact h.homes y (Pp.1 a).1
 ·refine(xu c hd k z.x).trans ?_;rw[tO];refine(io (pE c hd _) k z.x).trans (List.Perm.trans ?_ (io (show cw (lds zs) by unfold cw lds;rw[Px];exact hdz) k z.x).symm);exact(h.part.filter _).cons _
def dP.K8{c:Cg}{zs:List (K2×Nd)}(hd:cw ls)(h:dP c ls i zs)(hi:i≠homeN c k)(v:Ld):dP c (aR ls k v) i zs:=⟨h.homes,(xw c hd k v hi).trans h.part⟩
def Aq(l:List Smp)(t:Int):∃A B,l=A++B/\A.length=placeF l t/\(∀a∈A,a.tick<t)/\∀b r,B=b::r->t<=b.tick:=by
 induction l with
 |nil=>exact⟨[],[],rfl,rfl,zS,zS⟩
 |cons x l ih=>
  by_cases h:x.tick<t
  ·obtain⟨A,B,f,d,g,i⟩:=ih;refine⟨x::A,B,by rw[f];rfl,?_,?_,i⟩
   ·unfold placeF at d ⊢;rw[List.takeWhile_cons_of_pos (by simpa using h),OC,OC,d]
   ·intro a c
    rcases Pj.1 c with rfl|c
    ·exact h
    ·exact g a c
  ·refine⟨[],x::l,rfl,?_,zS,?_⟩
   ·unfold placeF;rw[List.takeWhile_cons_of_neg (by simpa using h)]
   ·intro b r e;injection e with e _;rw[<-e];omega
def pF{l:List Smp}(hs:ea l)(x:Smp):ea (fV room l x)/\(l.length<=room->1<=room->(fV room l x).length<=room)/\∀s∈fV room l x,s=x\/s∈l:=by
 obtain⟨A,B,d,u,t,v⟩:=Aq l x.tick;unfold fV;rw[<-u];have g:=RT.1 (show(A++B).Pairwise _ from d▸hs);by_cases i:A.length<l.length/\(l.getD A.length ⟨0,0⟩).tick=x.tick
 ·rw[OB i]
  cases B with
  |nil=>rw[d]at i;simp at i
  |cons b r=>
   have w:b.tick=x.tick:=by
    have:=i.2;rw[d]at this
    simpa using this
   have p:l.set A.length x=A++x::r:=by rw[d];simp
   rw[p];have j:=Rn.1 g.2.1;refine⟨RT.2 ⟨g.1,Rn.2 ⟨λy c=>by rw[<-w];exact j.1 y c,j.2⟩,λa k y c=>?_⟩,λh _=>?_,λs f=>?_⟩
   ·rcases Pj.1 c with rfl|c
    ·exact t a k
    ·exact g.2.2 a k y (Pm _ c)
   ·rw[d]at h
    simpa using h
   ·rw[d]
    rcases Po.1 f with h|h
    ·exact .inr (RU _ h)
    ·rcases Pj.1 h with rfl|h
     ·exact .inl rfl
     ·exact .inr (RP _ (Pm _ h))
 ·rw[Oz i];have q:gm l A.length x=A++x::B:=by unfold gm;rw[d];simp
  have z:∀y∈B,x.tick<y.tick:=by
   cases B with
   |nil=>intro y c;cases c
   |cons b r=>
    have D:=v b r rfl;have F:b.tick≠x.tick:=λe=>i ⟨by rw[d];simp,by rw[d];simpa using e⟩;have j:=Rn.1 g.2.1;intro y c
    rcases Pj.1 c with rfl|c
    ·omega
    ·have:=j.1 y c;omega
  rw[q];have o:ea (A++x::B):=by
   refine RT.2 ⟨g.1,Rn.2 ⟨z,g.2.1⟩,λa k y c=>?_⟩
   rcases Pj.1 c with rfl|c
   ·exact t a k
   ·exact g.2.2 a k y c
  have m:∀s∈A++x::B,s=x\/s∈l:=by
   intro s f;rw[d]
   rcases Po.1 f with h|h
   ·exact .inr (RU _ h)
   ·rcases Pj.1 h with rfl|h
    ·exact .inl rfl
    ·exact .inr (RP _ h)
  have n:(A++x::B).length=l.length+1:=by rw[d];simp;omega
  split
  ·refine⟨List.Pairwise.sublist (List.drop_sublist 1 _) o,λh _=>?_,λs f=>m s (PN f)⟩;rw[PW,n];omega
  ·rename_i j;exact⟨o,λh _=>by rw[n];omega,m⟩
def mS{c:Cg}(hc:c.ok)(h:x.C6 c){t v:Int}(ht:0<=t/\t<=9223372036854775807)(hv:0<=v/\v<=9223372036854775807):(mg c x t v).C6 c:=by
 have b:=pF (room:=c.sa) h.sorted ⟨t,v⟩;refine⟨b.1,b.2.1 h.E5 (Cg.small hc).2.2.1,λs a=>?_,h.C0,h.advs,h.L0,h.D8⟩
 rcases b.2.2 s a with rfl|a
 ·exact⟨ht,hv⟩
 ·exact h.right s a
def lq(c:Cg):Ld.new.C6 c:=⟨List.Pairwise.nil,OK _,by simp[Ld.new],OK _,by simp[Ld.new],by unfold Ld.new Pl.ok Pl.zero In6;simp[aq],λh=>by cases h⟩
def rH{c:Cg}(h:x.C6 c){p:Pl}(hp:p.ok)(hr:p.right=true):(mh x p).C6 c:=⟨h.sorted,h.E5,h.right,h.C0,h.advs,hp,λ_=>hr⟩
def xx{l:List Adv}{a:Adv}(hl:l.length<=h):(jH h l a).length<=h:=by
 unfold jH;split
 ·simp;omega
 ·simp;omega
def Jd{l:List Adv}{a b:Adv}(hb:b∈jH h l a):b∈l\/b=a:=by
 unfold jH at hb;split at hb
 ·have:=PN hb
  simpa using this
 ·simpa using hb
def uR{c:Cg}(h:x.C6 c){a:Adv}(ha:a.ok):(jI c x a).C6 c:=⟨h.sorted,h.E5,h.right,xx h.C0,λb d=>(Jd d).elim (h.advs b) λe=>e▸ha,h.L0,h.D8⟩
def Sto.setRow(S:Sto)(i:Nat)(C7:Int)(zs:List (K2×Nd)):Sto:={S with rows:=S.rows.modify i λr=>{r with C7:=C7,zs:=zs}}
def CK(c:Cg)(T:Nat->Tg)(cb:Nat)(ep:Int)(zs:List (K2×Nd))(h:eK w c T cb ep zs)(hn:zs.length<=100000)(k:K2)(hg:ap zs k=none)(a b:Int):
  C 78 #[Z cb 0,k.val,I a,I b] w (J (.tuple #[.agg St.zero.arr,.bool false]) w):=by
 obtain⟨d,f⟩:=k;have n:=zh w (.cells #[E d,E f] 58);have i:=ae n (.cells St.zero.arr 75);have r:=(Blk.A8 w 58 #[E d,E f] rfl).alloc (.cells St.zero.arr 75);have s:=Blk.A8 (w.alloc (.cells #[E d,E f] 58)) 75 St.zero.arr (g:=w.heap.size+1) zS;obtain⟨v,x⟩:=ao r;have q:=Z1 (xq _ c T cb ep zs (h.up i) hn ⟨d,f⟩);rw[hg]at q;have t:=Z2 i s;unfold K2.val K2.arr at*;unfold tT at q;simp only[St.zero,St.arr]at*;clear h n i r s hg
 go_in
 go_wp2_with fail;refine zm q.o λy j=>?_;have l:=t.o.2.later j;obtain⟨⟨d,f,z,A,B⟩,D,F,G,H,L⟩:=eO l;have u:=Z2 l (af t.o.1 j);clear l j;go_wp2;have m:w.heap.size<=w.heap.size+1:=OW _;exact OH (cx lK rfl (((((u.o.1.B4 0 (I 0)).B4 1 (I 0)).B4 2 (I 0)).B4 3 (I 0)).B4 4 (I 0)) rfl _ rfl) rfl ⟨rfl,((((u.o.2.setCell (p:=Y (w.heap.size+1) 0) m _).setCell (p:=Y (w.heap.size+1) 1) m _).setCell (p:=Y (w.heap.size+1) 2) m _).setCell (p:=Y (w.heap.size+1) 3) m _).setCell (p:=Y (w.heap.size+1) 4) m _⟩
def CL(c:Cg)(T:Nat->Tg)(cb:Nat)(ep:Int)(zs:List (K2×Nd))(h:eK w c T cb ep zs)(hn:zs.length<=100000)(k:K2)(z:Nd)(hg:ap zs k=some z)(hz:z.x.D2.length<=1000)(hs:fo z.x.D2)(a b:Int)(ha:aq a)(hb:aq b):
  C 78 #[Z cb 0,k.val,I a,I b] w (J (.tuple #[.agg (atF z.x.D2 a b).arr,.bool true]) w):=by
 obtain⟨f,i⟩:=k;have t:=zh w (.cells #[E f,E i] 58);have d:=ae t (.cells St.zero.arr 75);have H:=(Blk.A8 w 58 #[E f,E i] rfl).alloc (.cells St.zero.arr 75);have L:=Blk.A8 (w.alloc (.cells #[E f,E i] 58)) 75 St.zero.arr (g:=w.heap.size+1) zS;obtain⟨d0,d1⟩:=ao H;have D:=Z1 (xq _ c T cb ep zs (h.up d) hn ⟨f,i⟩);rw[hg]at D;have HN:=Z1 (λW hW=>px W c z.p z.x true (λb=>T b=.fz) hW hz);have N:=Z1 ((h.up d).nodes _ (bR hg));have HW:=Z1 (λs F n W (hr:an W W.heap.size 2 s n (smps z.x.D2)) (hn:n<=100000)=>tJ z.x.D2 s F n a b W hr hn hs ha hb);have u:(atF z.x.D2 a b).arr.size=5:=rfl;have y:(atF z.x.D2 a b).arr.all (·.oneCell')=true:=by simp[St.arr,Value.oneCell']
 have O:=Z2 d L;have HZ:=Z1 hz;generalize (atF z.x.D2 a b).arr=cs at*;generalize z.x.D2.length=m at*;have j:=Z2 u y;unfold K2.val K2.arr at*;unfold tT at D;simp only[St.zero,St.arr]at*;clear h t d H L hg u y hz hs ha hb
 go_in
 go_wp2_with fail;refine zm D.o λw1 l=>?_;have P:=Z1 (HN.o w1 (N.o.up l));have Q:=Z1 l;clear l;go_wp2_with fail;refine zX P.o λv w2 G=>?_;obtain⟨s,F,rfl,_,_,A⟩:=G.form;have R:=Z1 (HW.o s F _ _ A (by have:=HZ.o;omega));have HM:=Z1 G;clear G A;go_wp2_with fail;refine zm R.o λw3 B=>?_;have q:=af (af Q.o HM.o.below) B;have r:=O.o.2.later q;obtain⟨⟨f,i,k2,k3,k4⟩,f0,f1,f2,f3,f4⟩:=eO r;have S:=Z2 r (af O.o.1 q);clear r q B
 go_wp2_with (refine zj lK (cs:=cs) (hn:=j.o.1) (h1:=j.o.2) S.o.1 ?_;intro w4 U X)
 exact OH (cx lK rfl U j.o.1 _ rfl) rfl ⟨rfl,X.below S.o.2 zO⟩
def dt:Nat->List (Option Nat)->List (Int×Value)
 |_,[]=>[]
 |i,some cb::r=>((i:Int),Z cb 0)::dt (i+1) r
 |i,none::r=>dt (i+1) r
def ow:∀(i:Nat),∀e∈dt i l,(i:Int)<=e.1/\e.1<(i:Int)+l.length:=by
 induction l with
 |nil=>intro i e h;cases h
 |cons a r ih=>
  intro i e h
  cases a with
  |none=>
   have:=ih (i+1) e h;simp only[OC];omega
  |some cb=>
   rcases Pj.1 h with rfl|h
   ·simp only[OC];omega
   ·have:=ih (i+1) e h;simp only[OC];omega
def mt:∀i:Nat,(dt i l).length=liveN l:=by
 induction l with
 |nil=>intro i;rfl
 |cons a r ih=>
  intro i;unfold liveN at ih ⊢
  cases a with
  |none=>simp[dt,ih]
  |some cb=>simp[dt,ih]
def uS:∀(i n:Nat),i<=n->ap (dt i l) (n:Int)=(l.getD (n-i) none).map λcb=>Z cb 0:=by
 induction l with
 |nil=>intro i n _;rfl
 |cons a r ih=>
  intro i n h
  rcases Ri h with rfl|h
  ·rw[QY]
   cases a with
   |none=>
    show ap (dt (i+1) r) _=none;rw[gz];intro b;obtain⟨e,c,f⟩:=Pa.1 b;have:=ow r (i+1) e c;omega
   |some cb=>simp[dt,ap]
  ·have d:n-i=(n-(i+1))+1:=zO;rw[d]
   cases a with
   |none=>exact ih (i+1) n h
   |some cb=>
    show ap (((i:Int),_)::dt (i+1) r) _=_;unfold ap;rw[Oz zO];exact ih (i+1) n h
def CM{α:Type}(l:List (Int×α))(x:Int)(v:α)(h:x∉l.map (·.1)):aR l x v=l++[(x,v)]:=by
 induction l with
 |nil=>rfl
 |cons e r ih=>
  obtain⟨y,z⟩:=e;simp only[Pi,Pj,not_or]at h;unfold aR;rw[Oz (Pc h.1),ih h.2];rfl
def CN(cb:Nat):∀i:Nat,dt i (l++[some cb])=dt i l++[(((i+l.length:Nat):Int),Z cb 0)]:=by
 induction l with
 |nil=>intro i;rfl
 |cons a r ih=>
  intro i;have b:i+1+r.length=i+(r.length+1):=zO
  cases a with
  |none=>simp only[PY,dt,ih,OC,b]
  |some x=>simp only[PY,dt,ih,OC,b]
def Fl(cb:Nat):aR (dt 1 l) ((l.length:Int)+1) (Z cb 0)=dt 1 (l++[some cb]):=by
 rw[CM,CN]
 ·congr 3;omega
 ·intro a;obtain⟨e,b,c⟩:=Pa.1 a;have:=ow l 1 e b;omega
def Fm{α:Type}(l:List (Int×α))(x:Int)(h:∀e∈l,e.1≠x):ft l x=l:=by
 unfold ft;rw[QR];intro e a;simp[h e a]
def Fn:∀(i n:Nat),i<=n->ft (dt i l) (n:Int)=dt i (l.set (n-i) none):=by
 induction l with
 |nil=>intro i n _;rfl
 |cons a r ih=>
  intro i n h
  rcases Ri h with rfl|h
  ·rw[QY];have b:ft (dt (i+1) r) (i:Int)=dt (i+1) r:=Fm _ _ λe c=>by
    have:=ow r (i+1) e c;omega
   cases a with
   |none=>exact b
   |some cb=>
    show ft (((i:Int),_)::dt (i+1) r) _=dt (i+1) r;rw[<-b];unfold ft;rw[QP zS];rw[show List.filter (λe=>!decide (e.1=(i:Int))) (List.filter (λe=>!decide (e.1=(i:Int))) (dt (i+1) r))=List.filter (λe=>!decide (e.1=(i:Int))) (dt (i+1) r)from by rw[QZ];simp]
  ·have d:n-i=(n-(i+1))+1:=zO;rw[d]
   cases a with
   |none=>exact ih (i+1) n h
   |some cb=>
    show ft (((i:Int),_)::dt (i+1) r) _=((i:Int),_)::dt (i+1) (r.set (n-(i+1)) none);rw[<-ih (i+1) n h];unfold ft;rw[QO zT]
def ox{l:List (Option Nat)}{n:Int}(h:findE l n=0):∃(m:Nat) (cb:Nat),n=(m:Int)/\1<=m/\m<=l.length/\l.getD (m-1) none=some cb:=by
 unfold findE at h;split at h
 ·cases h
 ·rename_i d;split at h
  ·cases h
  ·rename_i a;have c:(l.getD (n.toNat-1) none).isSome=true:=by
    cases hx:l.getD (n.toNat-1) none with
    |none=>rw[hx]at a;exact absurd rfl a
    |some _=>rfl
   obtain⟨cb,b⟩:=Rd.1 c;exact⟨n.toNat,cb,zO,zO,zO,b⟩
abbrev Je(w:World)(b:Nat)(l:List (Int×Value)):Prop:=aw prog 3 Go.Fw.encI aq w b l
def Jf:(zeroValue 89).run prog w=.ok (.pointer none) w:=zR
def Je.look{w:World}{l:List (Int×Value)}(h:Je w b l){n:Int}(hn:aq n):
  (Instr.lookup 220 (.map (some b)) (I n) false).run prog w=.ok ((ap l n).getD (.pointer none)) w:=
 aw.look h IJ underlying220 (Jf w) hn
structure gi(w:World)(tp lb:Nat)(cs:List (Option Nat)):Prop where
 B0:Blk w tp 222 #[.map (some lb),I ((cs.length:Int)+1)]
 map:Je w lb (dt 1 cs)
def gi.B7{w:World}{tp lb:Nat}{cs:List (Option Nat)}(h:gi w tp lb cs)(hK:ag L w w')(h1:¬L tp)(h2:¬L lb):gi w' tp lb cs:=⟨hK.B0 h.B0 h1,aw.B7 h.map hK h2⟩
def gi.up{w:World}{tp lb:Nat}{cs:List (Option Nat)}(h:gi w tp lb cs)(hb:M w w'):gi w' tp lb cs:=h.B7 (L:=λ_=>False) (ag.B5 hb) id id
def Jg:C 140 #[] w λe w'=>∃tp lb,e=.returned (Z tp 0)/\gi w' tp lb []/\w.heap.size<=tp/\w.heap.size<=lb/\M w w':=by
 have a:=@run_makeMap prog
 go_in
 go_wp2;go_ret;exact⟨_,w.heap.size,rfl,⟨Blk.A8 _ 222 _ zS,aw.up (aw.made w) (ae (Oy _ _) _)⟩,zO,OA _,ae (ae (Oy _ _) _) _⟩
def uT(h:gi w tp lb cs)(n:Int)(hn:aq n)(hl:cs.length<=100000):
  C 120 #[Z tp 0,I n] w λe w'=>e=.returned (I (findE cs n))/\w=w':=by
 have d:=h.B0.cell 0;have f:=h.B0.cell 1;simp at d f;have b:=h.map.look hn;clear h;by_cases g:n<1
 ·have c:Hid (findE cs n=5):=Z1 (by unfold findE;rw[OB (.inl g)])
  go_in
  go_wp2;go_ret;exact⟨aC c.o.symm,rfl⟩
 ·by_cases i:(cs.length:Int)+1<=n
  ·have c:Hid (findE cs n=5):=Z1 (by unfold findE;rw[OB (.inr zO)])
   go_in
   go_wp2;go_ret;exact⟨aC c.o.symm,rfl⟩
  ·obtain⟨m,rfl⟩:∃m:Nat,n=(m:Int):=⟨n.toNat,zO⟩;rw[uS cs 1 m zO]at b;have a:findE cs (m:Int)=if(cs.getD (m-1) none).isNone=true then 8 else 0:=by
    unfold findE;rw[Oz zO,PH]
   cases hx:cs.getD (m-1) none with
   |none=>
    rw[hx]at b a;have c:=Z1 a;simp only[QH,QV]at b;clear a hx
    go_in
    go_wp2;go_ret;exact⟨aC c.o.symm,rfl⟩
   |some cb=>
    rw[hx]at b a;have c:=Z1 a;simp only[PT,Qd]at b;clear a hx
    go_in
    go_wp2;go_ret;exact⟨aC c.o.symm,rfl⟩
def gS(cs:List (Option Nat))(n:Int):Value:=if findE cs n=0 then .tuple #[(((cs.getD (n.toNat-1) none)).map λa=>Z a 0).getD (.pointer none),I 0]else .tuple #[.pointer none,I (findE cs n)]
def Jh(h:gi w tp lb cs)(n:Int)(hn:aq n)(hl:cs.length<=100000):
  C 75 #[Z tp 0,I n] w λe w'=>e=.returned (gS cs n)/\w=w':=by
 have c:=Z1 (uT w tp lb cs h n hn hl);have i:=h.B0.cell 0;simp at i;have b:=h.map.look hn;clear h;by_cases a:findE cs n=0
 ·obtain⟨m,j,rfl,g,k,d⟩:=ox a;rw[uS cs 1 m g,d]at b;have f:Hid (gS cs (m:Int)=.tuple #[Z j 0,I 0]):=Z1 (by unfold gS;rw[OB a,PH,d];rfl);rw[a]at c;simp only[PT,Qd]at b;clear a g k d
  go_in
  go_wp2_with fail;refine zY c.o ?_;go_wp2
  go_ret2
  exact⟨by rw[f.o];rfl,rfl⟩
 ·have f:Hid (gS cs n=.tuple #[.pointer none,I (findE cs n)]):=Z1 (by unfold gS;rw[Oz a]);generalize findE cs n=q at*;have l:(q==0)=false:=by simpa using a
  go_in
  go_wp2_with fail;refine zY c.o ?_;go_wp2
  go_ret2
  exact⟨by rw[f.o];rfl,rfl⟩
def Fo(h:gi w tp lb cs)(n:Int)(hn:aq n)(hl:cs.length<=100000):
  C 308 #[Z tp 0,I n] w λe w'=>e=.returned (I (findE cs n))/\(findE cs n≠0->w=w')/\(findE cs n=0->gi w' tp lb (cs.set (n.toNat-1) none)/\ag (λb=>b=lb) w w'):=by
 have f:=Z1 (uT w tp lb cs h n hn hl);have k:=h.B0.cell 0;simp at k;have H:=Z1 h;clear h;by_cases a:findE cs n=0
 ·obtain⟨m,t,rfl,g,l,p⟩:=ox a;have c:=Z3 a g hn;rw[a]at f;clear a g l p
  go_in
  go_wp2_with fail;refine zY f.o ?_
  go_wp2_with (refine mf rfl _ _ 220 89 rfl IJ underlying220 (m:Int) c.o.2.2 rfl rfl H.o.map ?_;intro u i d s)
  go_ret;have j:=aw.C9 H.o.map H.o.B0;refine⟨by rw[c.o.1];rfl,λe=>absurd c.o.1 e,λ_=>⟨⟨?_,?_⟩,d⟩⟩
  ·rw[PI];exact d.B0 H.o.B0 (Pc j)
  ·rw[PH,<-Fn cs 1 m c.o.2.1];exact i
 ·have r:=Z1 a;generalize findE cs n=q at*;have v:(q==0)=false:=by simpa using a
  go_in
  go_wp2_with fail;refine zY f.o ?_;go_wp2;go_ret;exact⟨rfl,λ_=>rfl,λe=>absurd e r.o⟩
def CO(h:gi w tp lb cs)(hl:cs.length<=100000)(hf:64<=liveN cs)(cb:Nat):
  C 319 #[Z tp 0,Z cb 0] w λe w'=>e=.returned (.tuple #[I 0,I 6])/\w=w':=by
 have b:=h.B0.cell 0;have c:=h.B0.cell 1;simp at b c;have a:=aw.len h.map underlying220 3;rw[mt]at a;have d:(64:Int)<=(liveN cs:Int):=zO;clear h
 go_in
 go_wp2
 go_ret2
 exact⟨rfl,rfl⟩
def Fp(h:gi w tp lb cs)(hl:cs.length<=100000)(hf:¬64<=liveN cs)(cb:Nat):
  C 319 #[Z tp 0,Z cb 0] w λe w'=>e=.returned (.tuple #[I ((cs.length:Int)+1),I 0])/\gi w' tp lb (cs++[some cb])/\ag (λb=>b=tp\/b=lb) w w':=by
 have x:=h.B0.cell 0;have l:=h.B0.cell 1;simp at x l;have i:=aw.len h.map underlying220 3;rw[mt]at i;have z:¬(64:Int)<=(liveN cs:Int):=zO;have H:=Z1 h;have y:Hid ((dt 1 cs).length<=100000):=Z1 (by rw[mt];unfold liveN;exact OJ (PF _ _) hl);have m:Hid (aq ((cs.length:Int)+1)):=Z1 ⟨zO,zO⟩;clear h;obtain⟨q,c⟩:∃q:Int,(cs.length:Int)+1=q:=⟨_,rfl⟩;have A:1<=q/\q<=200000:=zO;rw[c]at l m;have n:=Z1 c;clear c
 go_in
 go_upto_region 6 with fail
 go_wp2_with (refine cZ rfl _ _ _ 220 89 rfl IJ underlying220 q m.o (Z cb 0) rfl rfl rfl H.o.map y.o ?_;intro j f d r;have a:=d.B0 H.o.B0 (Pc (aw.C9 H.o.map H.o.B0));have s:=a.cell 1;have B:=a.frozen 1;rw[n.o]at s;simp only[PV,PL,PZ]at s;have k:=Z3 f d a;clear f d r a)
 go_ret2
 have t:=aw.C9 H.o.map H.o.B0;have u:=k.o.2.2.B4 1 (I (q+1));have g:ag (λb=>b=tp) j (j.setCell (Y tp 1) (I (q+1))):=(ag.refl (λb=>b=tp) j).setCell (p:=Y tp 1) (.inl rfl) _;have v:=k.o.1;have c:=n.o;rw[<-c,Fl]at v;refine⟨by rw[<-c];rfl,⟨?_,aw.B7 v g t⟩,(k.o.2.1.C3 λb e=>.inr e).trans (g.C3 λb e=>.inl e)⟩;rw[OS,show(((cs.length+[some cb].length:Nat):Int)+1)=q+1 by simp;omega];exact u
def gK(l:List Sr):List Value:=l.map λr=>Z r.p 0
def dF(l:List (Option (Nat×List (K2×Nd)))):List (Option Nat):=l.map λo=>o.map (·.1)
def ir(l:List (Option (Nat×List (K2×Nd)))):(dF l).length=l.length:=Pe _
structure bU(w:World)(c:Cg)(T:Nat->Tg)(sp:Nat)(v:Value)(tp lb:Nat)(S:Sto):Prop where
 B0:Blk w sp 169 #[v,Z tp 0,I S.B9.length,.bool S.over]
 row:w.ownsRow 0 253 1 v S.rows.length (gK S.rows)
 F2:gi w tp lb (dF S.B9)
 ts:T sp=.F2
 tt:T tp=.F2
 tl:T lb=.F2
 tr:∀g,v.ownBlock=some g->T g=.F2
 F1:∀i (h:i<S.rows.length),cL w c T i S.rows[i].p S.rows[i].mb S.rows[i].C7 S.rows[i].zs
 B9:∀(i:Nat) (e:Nat×List (K2×Nd)),S.B9[i]?=some (some e)->eK w c T e.1 ((i:Int)+1) e.2
def Fr(l:List Sr)(i:Nat)(C7:Int)(zs:List (K2×Nd)):gK (l.modify i λr=>{r with C7:=C7,zs:=zs})=gK l:=by
 unfold gK;refine QI λj=>?_;rw[Pz,Pz,RV]
 cases l[j]? with
 |none=>rfl
 |some r=>by_cases h:i=j<;>simp[h]
def uU(k:K2)(i:Nat):z.tag k≠.st i:=by unfold Nd.tag;split<;>(intro e;cases e)
def sG(k:K2):z.tag k≠.F2:=by unfold Nd.tag;split<;>(intro e;cases e)
def Fs{z:Nd}{k':K2}(h:z.tag k=.nd k'):k=k':=by
 unfold Nd.tag at h;split at h
 ·cases h
 ·injection h
section
variable {w w':World} {c:Cg} {T T':Nat→Tg} {sp:Nat} {v:Value} {tp lb:Nat} {S:Sto}
def cL.R1{p mb:Nat}{C7:Int}{zs:List (K2×Nd)}(h:cL w c T i p mb C7 zs)(hT:∀b,b<w.heap.size->(T b=.st i\/∃z∈zs,T b=z.2.tag z.1)->T' b=T b):cL w c T' i p mb C7 zs:=
 ⟨h.at_,(hT _ h.at_.lt.1 (.inl h.tp)).trans h.tp,(hT _ h.at_.lt.2 (.inl h.tm)).trans h.tm,λz a=>(h.nodes z a).more λb d e=>(hT b d (.inr ⟨z,a,e⟩)).trans e⟩
def bU.one(h:bU w c T sp v tp lb S)(hh:∀j (h:j<S.rows.length),∀z∈S.rows[j].zs,homeN c z.1=j)(hi:i<S.rows.length){ver':Int}{zs':List (K2×Nd)}(hS:cL w' c T' i S.rows[i].p S.rows[i].mb ver' zs')
  (hT:∀b,b<w.heap.size->T' b=T b\/∃k,homeN c k=i/\T b=.nd k/\T' b=.fz)(hK:ag (λb=>T b=.st i\/∃k,homeN c k=i/\T b=.nd k) w w'):bU w' c T' sp v tp lb (S.setRow i ver' zs'):=by
 have q:∀b,T b=.F2\/T b=.fz->¬(T b=.st i\/∃k,homeN c k=i/\T b=.nd k):=by
  rintro b (e|e) (a|⟨k,_,a⟩)<;>rw[e]at a<;>cases a
 have f:∀b,b<w.heap.size->T b=.F2\/T b=.fz->T' b=T b:=λb l e=>by
  rcases hT b l with a|⟨k,_,a,_⟩
  ·exact a
  ·rcases e with e|e<;>rw[e]at a<;>cases a
 refine⟨hK.B0 h.B0 (q _ (.inl h.ts)),?_,h.F2.B7 hK (q _ (.inl h.tt)) (q _ (.inl h.tl)),?_,?_,?_,λg r=>?_,λj F=>?_,λj e H=>?_⟩
 ·show w'.ownsRow 0 _ 1 v (List.modify _ _ _).length (gK (List.modify _ _ _));rw[QF,Fr];exact hK.C8 h.row λg r=>q _ (.inl (h.tr g r))
 ·exact(f _ h.B0.lt (.inl h.ts)).trans h.ts
 ·exact(f _ h.F2.B0.lt (.inl h.tt)).trans h.tt
 ·exact(f _ h.F2.map.lt (.inl h.tl)).trans h.tl
 ·exact(f _ (h.row.lt g r).2 (.inl (h.tr g r))).trans (h.tr g r)
 ·have x:j<S.rows.length:=by
   have:j<(S.rows.modify i _).length:=F
   rwa [QF]at this
  have r:(S.setRow i ver' zs').rows[j]=if i=j then{S.rows[j]with C7:=ver',zs:=zs'} else S.rows[j]:=by
   have t:(S.setRow i ver' zs').rows[j]?=some (if i=j then{S.rows[j]with C7:=ver',zs:=zs'} else S.rows[j]):=by
    show(S.rows.modify i _)[j]?=_;rw[RV,OL x];by_cases e:i=j<;>simp[e]
   exact(OZ.1 t).2
  rw[r];by_cases e:i=j
  ·subst e;rw[OB rfl];exact hS
  ·rw[Oz e];have m:=h.F1 j x;have o:∀b,(T b=.st j\/∃z∈S.rows[j].zs,T b=z.2.tag z.1)->¬∃k,homeN c k=i/\T b=.nd k:=by
    rintro b (d|⟨z,n,d⟩) ⟨k,a,s⟩
    ·rw[d]at s;cases s
    ·have:=Fs (d.symm.trans s);have:=hh j x z n;exact e (by rw[<-a,<-this,‹z.1=k›])
   have u:cL w' c T j S.rows[j].p S.rows[j].mb S.rows[j].C7 S.rows[j].zs:=by
    refine m.B7 hK ?_ ?_
    ·intro b d a
     rcases a with a|a
     ·rw[d]at a;injection a with a;exact e a.symm
     ·exact o b (.inl d) a
    ·intro z n b d a
     rcases a with a|a
     ·exact uU _ _ _ (d.symm.trans a)
     ·exact o b (.inr ⟨z,n,d⟩) a
   have t:cL w c T' j S.rows[j].p S.rows[j].mb S.rows[j].C7 S.rows[j].zs:=m.R1 λb l d=>by
    rcases hT b l with a|⟨k,a,s,_⟩
    ·exact a
    ·exact absurd ⟨k,a,s⟩ (o b d)
   refine⟨u.at_,t.tp,t.tm,λz n=>?_⟩;have y:=(m.nodes z n).more (G:=λb=>T b=z.2.tag z.1/\b<w.heap.size) λb l e=>⟨e,l⟩;refine(y.B7 hK λb d a=>?_).more λb _ d=>?_
   ·rcases a with a|a
    ·exact uU _ _ _ (d.1.symm.trans a)
    ·exact o b (.inr ⟨z,n,d.1⟩) a
   ·rcases hT b d.2 with a|⟨k,a,s,_⟩
    ·exact a.trans d.1
    ·exact absurd ⟨k,a,s⟩ (o b (.inr ⟨z,n,d.1⟩))
 ·have m:=h.B9 j e H;have u:=m.tags (T':=T') λb l e=>(f b l (.inr e)).trans e;obtain⟨X,a1,a2,a3⟩:=m.ex;refine(show eK w' c T' e.1 ((j:Int)+1) e.2 from ?_);have t:=m.B7 hK λb e=>q b (.inr e);refine⟨?_,u.tb,λz n=>?_,u.sorted,u.D7⟩
  ·obtain⟨A,B,L,b3⟩:=t.ex;obtain⟨N,O,c2,P⟩:=u.ex;have Q:A=N:=by
    have R:=hK.B0 O (q _ (.inr m.tb));have U:=B.cell 1;have D:=R.cell 1;rw[U]at D
    simpa using D
   subst Q;exact⟨A,B,L,P⟩
  ·have y:=(m.nodes z n).more (G:=λb=>T b=.fz/\b<w.heap.size) λb l e=>⟨e,l⟩;exact(y.B7 hK λb e=>q b (.inr e.1)).more λb _ e=>(f b e.2 (.inr e.1)).trans e.1
def bU.up(h:bU w c T sp v tp lb S)(hb:M w w'):bU w' c T sp v tp lb S:=
 ⟨h.B0.later hb,aN h.row hb,h.F2.up hb,h.ts,h.tt,h.tl,h.tr,λi a=>(h.F1 i a).up hb,λi e b=>(h.B9 i e b).up hb⟩
end
def hZ(w:World)(c:Cg)(T:Nat->Tg)(sp:Nat)(v:Value)(tp lb:Nat)(S:Sto)(h:bU w c T sp v tp lb S)(hn:0<S.rows.length)(hn2:S.rows.length<=64):
  C 74 #[Z sp 0] w λe w'=>e=.returned (.bool true)/\w=w':=by
 obtain⟨A,b,rfl,_,_⟩:=ak h.row;have a:=h.B0.cell 0;simp at a;generalize S.rows.length=n at*;clear h
 go_in
 go_wp2;go_ret;exact⟨rfl,rfl⟩
def pG(w:World)(c:Cg)(T:Nat->Tg)(sp:Nat)(v:Value)(tp lb:Nat)(S:Sto)(h:bU w c T sp v tp lb S)(hn:0<S.rows.length)(hn2:S.rows.length<=64):
  C 256 #[Z sp 0] w λe w'=>e=.returned (I S.rows.length)/\w=w':=by
 have a:=Z1 (hZ w c T sp v tp lb S h hn hn2);obtain⟨A,d,rfl,_,_⟩:=ak h.row;have b:=h.B0.cell 0;simp at b;generalize S.rows.length=n at*;clear h
 go_in
 go_wp2_with fail;refine zY a.o ?_;go_wp2;go_ret;exact⟨rfl,rfl⟩
def i8(w:World)(c:Cg)(T:Nat->Tg)(sp:Nat)(v:Value)(tp lb:Nat)(S:Sto)(h:bU w c T sp v tp lb S)(hn2:S.rows.length<=64)(i:Nat)(hi:i<S.rows.length):
  C 285 #[Z sp 0,I i] w λe w'=>e=.returned (Z (S.rows[i].p) 0)/\w=w':=by
 have d:=Z1 (pG w c T sp v tp lb S h zO hn2);obtain⟨A,g,rfl,_,_⟩:=ak h.row;have f:=h.B0.cell 0;simp at f;obtain⟨j,u,rfl,_,a,k⟩:=(an.C4 h.row).at_ hi;have b:u=Z (S.rows[i].p) 0:=by
  unfold gK at a;rw[Pz,OL hi]at a
  simpa using a.symm
 subst b;generalize S.rows[i].p=p at*;generalize S.rows.length=n at*;clear h a
 go_in
 go_wp2_with fail;refine zY d.o ?_;go_wp2;go_ret;exact⟨rfl,rfl⟩
def ns(w:World)(c:Cg)(hc:c.ok)(T:Nat->Tg)(sp:Nat)(v:Value)(tp lb:Nat)(S:Sto)(h:bU w c T sp v tp lb S)(hst:S.rows.length=c.st)(k:K2)(hk:k.ok):
  C 286 #[Z sp 0,k.val] w (J (I (homeN c k)) w):=by
 have B:=Cg.small hc;have a:=zh w (.cells #[E k.hi,E k.lo] 58);have m:=Blk.A8 w 58 #[E k.hi,E k.lo] rfl;have n:=Z1 (λW hW=>pG W c T sp v tp lb S hW zO zO);rw[hst]at n;have q:=Z1 (λW=>rI k (c.st:Int) W hk (Cg.I6 hc));rw[cy hc]at q;have t:=Z1 (h.up a);obtain⟨u,x⟩:=k;have l:=Z2 a m;unfold K2.val K2.arr at*;simp only at*;clear h a m
 go_in
 go_wp2;generalize g:w.heap.size=r at*;generalize w.alloc (.cells #[E u,E x] 58)=W at*;have s:=Z1 g;clear g;have b:=(zi W);have i:=l.o.2.lt;obtain⟨y,z⟩:=ao l.o.2;refine zH (S:=λV=>M W V) b ?_;refine zQ 0 _ ?_ (hy:=λW hW=>by have D:=(OF hW (p:=Y r 0) i).trans y;have F:=(OF hW (p:=Y r 1) i).trans z;exact zf);refine zo 2 λK hK=>?_;go_simp;refine zY (n.o _ (t.o.up b)) ?_;refine zJ hK b ?_;refine zo 3 λK hK=>?_;go_simp;refine zm (q.o _) λG j=>?_;have d:=af b j;refine zJ hK d ?_;have f:=l.o.1;try rw[<-s.o]at f
 have A:=Z1 (af f d);clear f b d j;go_wp2;go_ret;exact⟨rfl,A.o⟩
def sH(p:Pl):fY p=if p.right=true then 0 else 7:=rfl
def oy(x:Cl)(hid:x.id.size<=maxLen)(w:World):
  C 95 #[x.val] w (J (I (aH x)) w):=by
 obtain⟨g,id,p,s,A,a,b,c,d,e,f⟩:=x;have N:=Z1 (λW=>dN id hid W);have HR:=Z1 (λt v W=>iC t v W);have HP:=Z1 (λW=>tL ⟨a,b,c,d,e,f⟩ W);have hE:aH ⟨g,id,p,s,A,a,b,c,d,e,f⟩=if g=1 then(if idE id≠0 then idE id else bG p s)else if g=2 then bG p 0 else if g=6 then(if idE id≠0 then idE id else fY ⟨a,b,c,d,e,f⟩)else if g=5\/g=7 then idE id else if g=3\/g=4\/g=8 then 0 else 14:=by
  unfold aH idE;simp only[Cl.D8,sH];by_cases h1:g=1
  ·simp only[h1,if_true];by_cases hi:bd id=true<;>simp[hi]
  ·by_cases h2:g=2
   ·simp[h2]
   ·by_cases h5:g=5
    ·simp[h5]
    ·by_cases h6:g=6
     ·simp only[h6];by_cases hi:bd id=true<;>simp[hi]<;>rfl
     ·by_cases h7:g=7<;>simp[h1,h2,h5,h6,h7]
 have ad:idE id=0\/idE id=2:=by unfold idE;split<;>simp
 have ae:=zh w (.cells #[I g,.string id,I p,I s,I A,I a,I b,I c,I d,I e,I f] 73);have hx:=Blk.A8 w 73 #[I g,.string id,I p,I s,I A,I a,I b,I c,I d,I e,I f] rfl;have h:=Z4 ae hx hE ad;unfold Cl.val Cl.arr;simp only;clear ae hx hE ad hid;generalize ar:aH ⟨g,id,p,s,A,a,b,c,d,e,f⟩=B at*;generalize idE id=m at*;generalize fY ⟨a,b,c,d,e,f⟩=pe at*;clear ar;have D:g=1\/g=2\/g=6\/(g=5\/g=7)\/(g=3\/g=4\/g=8)\/((g≠1/\g≠2)/\(g≠6/\g≠5/\g≠7)/\(g≠3/\g≠4/\g≠8)):=zO
 rcases D with rfl|rfl|rfl|F|G|⟨⟨n1,n2⟩,⟨n6,n5,n7⟩,n3,n4,n8⟩
 ·have j:Hid (B=if m≠0 then m else bG p s):=Z1 (by rw[h.o.2.2.1,OB rfl]);have a6:=Z1 h.o.2.2.2
  go_in
  go_wp2;generalize u:w.heap.size=v9 at*;generalize w.alloc (.cells #[I 1,.string id,I p,I s,I A,I a,I b,I c,I d,I e,I f] 73)=W at*;have H:=Z1 u;clear u;have y:=(zi W);refine zH (S:=λV=>M W V) y ?_;refine zQ 1 _ ?_ (hy:=λW hW=>by obtain⟨⟨O,P,Q,R,T,U⟩,X,q7,q8,q9,z⟩:=bh (h.o.2.1.later hW);exact zf);refine zQ 4 _ ?_ (hy:=λW hW=>by obtain⟨⟨O,P,Q,R,T,U⟩,X,q7,q8,q9,z⟩:=bh (h.o.2.1.later hW);exact zf);refine zq 6 _ ?_ (hy:=λW hW=>by obtain⟨⟨O,P,Q,R,T,U⟩,X,q7,q8,q9,z⟩:=bh (h.o.2.1.later hW);exact zf);refine zo 2 λK hK=>?_;go_simp;refine zm (N.o _) λw2 i=>?_;have k:=af y i;refine zJ hK k ?_;refine zo 7 λK hK=>?_;go_simp;refine zY (HR.o _ _ _) ?_;refine zJ hK k ?_;have n:=h.o.1;try rw[<-H.o]at n
  have r:=Z1 (af n k);clear n y k i;by_cases q:m=0
  ·subst q;go_wp2;go_ret;exact⟨aC (by rw[j.o];simp),r.o⟩
  ·have ag:(m==0)=false:=by simpa using q
   go_wp2;go_ret;exact⟨aC (by rw[j.o];simp[q]),r.o⟩
 ·have j:Hid (B=bG p 0):=Z1 (by rw[h.o.2.2.1,Oz zP,OB rfl]);have l:=Z1 h.o.1
  go_in
  go_wp2_with fail;refine zY (HR.o _ _ _) ?_;go_wp2;go_ret;exact⟨aC j.o.symm,l.o⟩
 ·have j:Hid (B=if m≠0 then m else pe):=Z1 (by rw[h.o.2.2.1];simp)
  go_in
  go_wp2;generalize u:w.heap.size=v9 at*;generalize w.alloc (.cells #[I 6,.string id,I p,I s,I A,I a,I b,I c,I d,I e,I f] 73)=W at*;have H:=Z1 u;clear u;have y:=(zi W);refine zH (S:=λV=>M W V) y ?_;refine zQ 1 _ ?_ (hy:=λW hW=>by obtain⟨⟨O,P,Q,R,T,U⟩,X,q7,q8,q9,z⟩:=bh (h.o.2.1.later hW);exact zf);refine zq 4 _ ?_ (hy:=λW hW=>by obtain⟨⟨O,P,Q,R,T,U⟩,X,q7,q8,q9,z⟩:=bh (h.o.2.1.later hW);exact zf);refine zo 2 λK hK=>?_;go_simp;refine zm (N.o _) λw2 i=>?_;have k:=af y i;refine zJ hK k ?_;refine zo 5 λK hK=>?_;go_simp;refine zm (HP.o _) λw3 ah=>?_;have L:=af k ah;refine zJ hK L ?_;have n:=h.o.1;try rw[<-H.o]at n
  have r:=Z1 (af n L);clear n y k i L ah;by_cases q:m=0
  ·subst q;go_wp2;go_ret;exact⟨aC (by rw[j.o];simp),r.o⟩
  ·have ag:(m==0)=false:=by simpa using q
   go_wp2;go_ret;exact⟨aC (by rw[j.o];simp[q]),r.o⟩
 ·have j:Hid (B=m):=Z1 (by rw[h.o.2.2.1];rcases F with rfl|rfl<;>simp);have l:=Z1 h.o.1;by_cases q:m=0
  ·subst q
   rcases F with rfl|rfl
   all_goals
    go_in
    go_wp2_with fail;refine zm (N.o _) λw2 i=>?_;have r:=Z1 (af l.o i);clear i;go_wp2;go_ret;exact⟨aC j.o.symm,r.o⟩
  ·have ag:(m==0)=false:=by simpa using q
   rcases F with rfl|rfl
   all_goals
    go_in
    go_wp2_with fail;refine zm (N.o _) λw2 i=>?_;have r:=Z1 (af l.o i);clear i;go_wp2;go_ret;exact⟨aC j.o.symm,r.o⟩
 ·have j:Hid (B=0):=Z1 (by rw[h.o.2.2.1];rcases G with rfl|rfl|rfl<;>simp);have l:=Z1 h.o.1
  rcases G with rfl|rfl|rfl
  all_goals
   go_in
   go_wp2;go_ret;exact⟨aC j.o.symm,l.o⟩
 ·have j:Hid (B=14):=Z1 (by rw[h.o.2.2.1];simp[n1,n2,n3,n4,n5,n6,n7,n8]);have l:=Z1 h.o.1;have m1:(g==1)=false:=by simpa using n1
  have m2:(g==2)=false:=by simpa using n2
  have m3:(g==3)=false:=by simpa using n3
  have m4:(g==4)=false:=by simpa using n4
  have m5:(g==5)=false:=by simpa using n5
  have m6:(g==6)=false:=by simpa using n6
  have m7:(g==7)=false:=by simpa using n7
  have m8:(g==8)=false:=by simpa using n8
  go_in
  go_wp2;go_ret;exact⟨aC j.o.symm,l.o⟩
def gL(m:Mp):Int:=if m.over=true then 9 else 0
def gM(m:Mp):Mp:={m with over:=true}
def kR(m:Mp)(n:Int):Mp:=if findE m.B9 n=0 then{m with B9:=m.B9.set (n.toNat-1) none} else m
def eE:Tg->Prop
 | .st _=>True
 | .nd _=>True
 | .F2=>True
 |_=>False
def aW(T T':Nat->Tg)(n:Nat):Prop:=∀b,b<n->T' b=T b\/∃k,T b=.nd k/\T' b=.fz
def aW.refl(T:Nat->Tg)(n:Nat):aW T T n:=λ_ _=>.inl rfl
def aW.trans{T T' T'':Nat->Tg}{n n':Nat}(h:aW T T' n)(k:aW T' T'' n')(hn:n<=n'):aW T T'' n:=λb g=>by
 rcases h b g with e|⟨x,i,c⟩
 ·rcases k b zO with f|⟨y,a,d⟩
  ·exact .inl (f.trans e)
  ·exact .inr ⟨y,e▸a,d⟩
 ·rcases k b zO with f|⟨y,a,d⟩
  ·exact .inr ⟨x,i,f.trans c⟩
  ·rw[c]at a;cases a
def aW.st{T T':Nat->Tg}{n:Nat}(h:aW T T' n){b:Nat}(hb:b<n):eE (T' b)->eE (T b):=λa=>by
 rcases h b hb with e|⟨x,d,c⟩
 ·exact e▸a
 ·rw[c]at a;exact a.elim
def aW.keepT{T T':Nat->Tg}{n:Nat}(h:aW T T' n){b:Nat}(hb:b<n)(hs:∀k,T b≠.nd k):T' b=T b:=by
 rcases h b hb with e|⟨x,a,c⟩
 ·exact e
 ·exact absurd a (hs x)
def CP(l:List (Option (Nat×List (K2×Nd))))(i:Nat):(l.map λo=>o.map (·.1)).getD i none=(l.getD i none).map (·.1):=by
 rw[OP,Pz,OP]
 cases l[i]?<;>rfl
def et.findE{c:Cg}{S:Sto}{m:Mp}(h:et c S m)(n:Int):findE (S.B9.map λo=>o.map (·.1)) n=findE m.B9 n:=by
 unfold Go.Fw.findE;rw[Pe,h.G8,CP];have e:((S.B9.getD (n.toNat-1) none).map (·.1)).isNone=(m.B9.getD (n.toNat-1) none).isNone:=by
  rw[OP,OP]
  rcases h.cut (n.toNat-1)with⟨e,d,a,b,_⟩|⟨a,b⟩|⟨a,b⟩<;>rw[a,b]<;>rfl
 rw[e]
def et.liveN{c:Cg}{S:Sto}{m:Mp}(h:et c S m):liveN (S.B9.map λo=>o.map (·.1))=liveN m.B9:=by
 have e:(S.B9.map λo=>(o.map (·.1)).isSome)=m.B9.map Option.isSome:=by
  refine QI λi=>?_;rw[Pz,Pz]
  rcases h.cut i with⟨e,d,a,b,_⟩|⟨a,b⟩|⟨a,b⟩<;>rw[a,b]<;>rfl
 have q:∀{α:Type} (l:List (Option α)),Go.Fw.liveN l=(l.map Option.isSome).countP id:=λl=>by
  unfold Go.Fw.liveN;rw[List.countP_map,List.countP_eq_length_filter];rfl
 rw[q,q,Px];exact congrArg (List.countP id) e
def eH(w:World)(c:Cg)(T:Nat->Tg)(sp:Nat)(m:Mp):Prop:=∃v tp lb S,bU w c T sp v tp lb S/\et c S m
def dJ(w w':World)(c:Cg)(T:Nat->Tg)(sp:Nat)(m:Mp):Prop:=∃T',aW T T' w.heap.size/\eH w' c T' sp m/\ag (λb=>eE (T b)) w w'
section
variable {w w':World} {c:Cg} {T T':Nat→Tg} {sp:Nat} {v:Value} {tp lb:Nat} {S:Sto} {m:Mp}
def eH.up(h:eH w c T sp m)(hb:M w w'):eH w' c T sp m:=by
 obtain⟨v,a,b,S,d,e⟩:=h;exact⟨v,a,b,S,d.up hb,e⟩
def eH.same(h:eH w c T sp m)(hb:M w w'):dJ w w' c T sp m:=⟨T,aW.refl _ _,h.up hb,ag.B5 hb⟩
def bU.ne(h:bU w c T sp v tp lb S):sp≠tp/\sp≠lb/\tp≠lb/\v.ownBlock≠some sp/\v.ownBlock≠some tp/\v.ownBlock≠some lb:=
 ⟨fq h.B0 h.F2.B0 zP,Pc (aw.C9 h.F2.map h.B0),Pc (aw.C9 h.F2.map h.F2.B0),aB h.row h.B0 zP,aB h.row h.F2.B0 zP,aw.E7 h.F2.map h.row⟩
def bU.O7(h:bU w c T sp v tp lb S)(hT:∀b,b<w.heap.size->T' b=T b)(hK:ag (λb=>b=sp\/b=tp\/b=lb) w w'){cs':List (Option (Nat×List (K2×Nd)))}{o':Bool}
  (hb:Blk w' sp 169 #[v,Z tp 0,I cs'.length,.bool o'])(ht:gi w' tp lb (dF cs'))(hc:∀(i:Nat) (e:Nat×List (K2×Nd)),cs'[i]?=some (some e)->eK w' c T' e.1 ((i:Int)+1) e.2):bU w' c T' sp v tp lb ⟨S.rows,cs',o'⟩:=by
 obtain⟨q,r,s,l,m,n⟩:=h.ne;have d:∀b,T b≠.F2->¬(b=sp\/b=tp\/b=lb):=by
  rintro b e (rfl|rfl|rfl)
  ·exact e h.ts
  ·exact e h.tt
  ·exact e h.tl
 refine⟨hb,hK.C8 h.row λg a=>?_,ht,(hT _ h.B0.lt).trans h.ts,(hT _ h.F2.B0.lt).trans h.tt,(hT _ h.F2.map.lt).trans h.tl,λg a=>(hT _ (h.row.lt g a).2).trans (h.tr g a),λi f=>?_,hc⟩
 ·rintro(rfl|rfl|rfl)
  ·exact l a
  ·exact m a
  ·exact n a
 ·have j:=(h.F1 i f).tags (T':=T') hT;have o:=(h.F1 i f).B7 hK (λb e=>d b (by rw[e];intro e;cases e)) λz k b e=>d b (by rw[e];exact sG _ _);exact⟨o.at_,j.tp,j.tm,λz k=>by
   have p:=((h.F1 i f).nodes z k).more (G:=λb=>T b=z.2.tag z.1/\b<w.heap.size) λb hb e=>⟨e,hb⟩;exact(p.B7 hK λb e=>d b (by rw[e.1];exact sG _ _)).more λb _ e=>(hT b e.2).trans e.1⟩
def bU.J5(h:bU w c T sp v tp lb S)(hT:∀b,b<w.heap.size->T' b=T b)(hK:ag (λb=>b=sp\/b=tp\/b=lb) w w')(i:Nat)(e:Nat×List (K2×Nd))(he:S.B9[i]?=some (some e)):eK w' c T' e.1 ((i:Int)+1) e.2:=by
 have a:=h.B9 i e he;have f:∀b,T b=.fz->¬(b=sp\/b=tp\/b=lb):=by
  rintro b e (rfl|rfl|rfl)
  ·rw[h.ts]at e;cases e
  ·rw[h.tt]at e;cases e
  ·rw[h.tl]at e;cases e
 obtain⟨m,j,k,l⟩:=a.ex;refine⟨⟨m,hK.B0 j (f _ a.tb),hK.C8 k λg d=>f _ (l g d),λg d=>(hT g (k.lt g d).2).trans (l g d)⟩,(hT _ j.lt).trans a.tb,λz n=>?_,a.sorted,a.D7⟩;have o:=(a.nodes z n).more (G:=λb=>T b=.fz/\b<w.heap.size) λb p e=>⟨e,p⟩;exact(o.B7 hK λb e=>f b e.1).more λb _ e=>(hT b e.2).trans e.1
def bU.J7(h:bU w c T sp v tp lb S)(hK:ag (λb=>b=sp\/b=tp\/b=lb) w w'):ag (λb=>eE (T b)) w w':=hK.C3 λb e=>by
 rcases e with rfl|rfl|rfl
 ·rw[h.ts];trivial
 ·rw[h.tt];trivial
 ·rw[h.tl];trivial
end
def qO(w:World)(c:Cg)(hc:c.ok)(T:Nat->Tg)(sp:Nat)(m:Mp)(h:eH w c T sp m):
  C 282 #[Z sp 0] w λe w'=>e=.returned (I (gL m))/\dJ w w' c T sp (gM m):=by
 obtain⟨v,f,g,S,h,a⟩:=h;have t:=Cg.small hc;have q:=Z1 (hZ w c T sp v f g S h (by have:=a.n;omega) (by have:=a.n;omega));have l:=h.B0.cell 3;have u:=h.B0.frozen 3;simp at l;have H:=Z2 h a;have d:=a.over
 cases hov:S.over with
 |true=>
  rw[hov]at l d;have j:=Z1 d;clear h a d hov
  go_in
  go_wp2_with fail;refine zY q.o ?_;go_wp2;go_ret;have r:({m with over:=true}:Mp)=m:=by have:=j.o;cases m;simp only at this;rw[<-this]
  refine⟨aC (by unfold gL;rw[<-j.o];rfl),?_⟩;unfold gM;rw[r];exact eH.same ⟨v,f,g,S,H.o.1,H.o.2⟩ (Oy _ _)
 |false=>
  rw[hov]at l d;have j:=Z2 d hov;clear h a d hov
  go_in
  go_wp2_with fail;refine zY q.o ?_;go_wp2;go_ret;refine⟨aC (by unfold gL;rw[<-j.o.1];rfl),?_⟩;have h:=H.o.1;have a:=H.o.2;have hK:ag (λb=>b=sp\/b=f\/b=g) w (w.setCell (Y sp 3) (.bool true)):=(ag.refl (λb=>b=sp\/b=f\/b=g) w).setCell (p:=Y sp 3) (.inl (.inl rfl)) _;have k:=h.ne;refine⟨T,aW.refl _ _,⟨v,f,g,⟨S.rows,S.B9,true⟩,h.O7 (λ_ _=>rfl) hK (h.B0.B4 3 _) (h.F2.B7 (L:=λb=>b=sp) ((ag.refl (λb=>b=sp) w).setCell (p:=Y sp 3) (.inl rfl) _) (Pc k.1) (Pc k.2.1)) λi e s=>h.J5 (λ_ _=>rfl) hK i e s,?_⟩,h.J7 hK⟩;exact⟨a.n,a.row,a.D7,a.O2,a.C6,a.E5,rfl,a.G8,a.cut⟩
def Ar(w:World)(c:Cg)(hc:c.ok)(T:Nat->Tg)(sp:Nat)(m:Mp)(h:eH w c T sp m)(hl:m.B9.length<=90000)(n:Int)(hn:aq n):
  C 290 #[Z sp 0,I n] w λe w'=>e=.returned (I (findE m.B9 n))/\dJ w w' c T sp (kR m n):=by
 obtain⟨v,k,l,S,h,a⟩:=h;have P:=Cg.small hc;have D:=Z1 (hZ w c T sp v k l S h (by have:=a.n;omega) (by have:=a.n;omega));have t:=Fo w k l (dF S.B9) h.F2 n hn (by rw[ir,a.G8];omega);have r:findE (dF S.B9) n=findE m.B9 n:=a.findE n;rw[r]at t;have F:=Z1 t;have G:=h.B0.cell 1;simp at G;have H:=Z3 h a hn;generalize x:findE m.B9 n=q at*;have L:=Z1 x;clear h a t r x
 go_in
 go_wp2_with fail;refine zY D.o ?_;go_wp2_with fail;refine F.o.mono ?_;rintro e N ⟨rfl,y,z⟩;have A:=Z2 y z;clear y z;go_wp2;go_ret;refine⟨rfl,?_⟩;have h:=H.o.1;have a:=H.o.2.1;unfold kR;rw[L.o];by_cases p:q=0
 ·rw[OB p];obtain⟨O,s⟩:=A.o.2 p;have hK:ag (λb=>b=sp\/b=k\/b=l) w N:=s.C3 λb e=>.inr (.inr e);have u:dF (S.B9.set (n.toNat-1) none)=(dF S.B9).set (n.toNat-1) none:=by unfold dF;rw[List.map_set];rfl
  have B:=h.ne;refine⟨T,aW.refl _ _,⟨v,k,l,⟨S.rows,S.B9.set (n.toNat-1) none,S.over⟩,h.O7 (λ_ _=>rfl) hK (by rw[PI];exact s.B0 h.B0 B.2.1) (by rw[u];exact O) λi e g=>?_,?_⟩,h.J7 hK⟩
  ·refine h.J5 (λ_ _=>rfl) hK i e ?_;rw[Qo]at g;split at g
   ·split at g
    ·cases g
    ·cases g
   ·exact g
  ·refine⟨a.n,a.row,a.D7,a.O2,a.C6,a.E5,a.over,by simp[a.G8],λi=>?_⟩;show(∃e ls,(S.B9.set _ none)[i]?=_/\(m.B9.set _ none)[i]?=_/\_)\/_\/_;by_cases j:n.toNat-1=i
   ·have Q:=a.cut i;rw[Qo,Qo,OB j,OB j];by_cases f:i<S.B9.length
    ·have d:i<m.B9.length:=by rw[<-a.G8];exact f
     right;left
     rw[j,OB f,OB d];exact⟨rfl,rfl⟩
    ·have d:¬i<m.B9.length:=by rw[<-a.G8];exact f
     right;right
     rw[j,Oz f,Oz d];exact⟨rfl,rfl⟩
   ·rw[Qo,Qo,Oz j,Oz j];exact a.cut i
 ·rw[Oz p];have u:=A.o.1 p;subst u;exact eH.same ⟨v,k,l,S,h,a⟩ (Oy _ _)
def eF(m:Mp)(n:Int)(k:K2)(a b:Int):Rp:=
 if findE m.B9 n=0 then
  match ap ((m.B9.getD (n.toNat-1) none).getD []) k with
  |none=>.of 5
  |some y=>⟨0,n,0,atF y.D2 a b,az⟩
 else .of (findE m.B9 n)
def fE(m:Mp)(k:K2):Rp:=
 match ap m.ls k with
 |none=>.of 5
 |some y=>⟨0,0,0,.zero,iF y.C0⟩
def uV{c:Cg}(h:x.C6 c):fo x.D2:=λs a=>by
 have:=h.right s a;exact⟨⟨zO,zO⟩,zO,zO⟩
def aA:cU prog 77 13:=⟨zR,zR,zR⟩
def dy(r:Rp):r.arr.all (·.oneCell')=true:=by simp[Rp.arr,Value.oneCell']
def eK.fresh{w:World}{c:Cg}{cb:Nat}{zs:List (K2×Nd)}(h:eK w c T cb ep zs)(o:Obj)(hO:aI w.heap.size (w.alloc o) w'):eK w' c T cb ep zs:=by
 have a:=hO.below (ae (Oy _ _) o) (OA _);exact h.up a
def CQ(c:Cg)(T:Nat->Tg)(sp:Nat)(v:Value)(tp lb:Nat)(S:Sto)(h:bU w c T sp v tp lb S)(hn1:0<S.rows.length)(hn2:S.rows.length<=64)(hl:S.B9.length<=90000)(n:Int)(hn:aq n):
  C 31 #[Z sp 0,I n] w λe w'=>e=.returned (gS (dF S.B9) n)/\w=w':=by
 have g:=Z1 (hZ w c T sp v tp lb S h hn1 hn2);have f:=Jh w tp lb (dF S.B9) h.F2 n hn (by rw[ir];omega);have i:=h.B0.cell 1;simp at i;have d:∃a b,gS (dF S.B9) n=.tuple #[a,b]:=by unfold gS;split<;>exact⟨_,_,rfl⟩
 obtain⟨a,b,d⟩:=d;rw[d]at f ⊢;have j:=Z1 f;clear h f d
 go_in
 go_wp2_with fail;refine zY g.o ?_;go_wp2_with fail;refine zY j.o ?_;go_wp2
 go_ret2
 exact⟨rfl,rfl⟩
def As(c:Cg)(hc:c.ok)(T:Nat->Tg)(sp:Nat)(m:Mp)(h:eH w c T sp m)(hl:m.B9.length<=90000)(n:Int)(hn:aq n)(k:K2)(a b:Int)(ha:aq a)(hb:aq b):
  C 291 #[Z sp 0,I n,k.val,I a,I b] w λe w'=>e=.returned (eF m n k a b).val/\M w w':=by
 obtain⟨v,tp,lb,S,h,B⟩:=h;have hs:=Cg.small hc;have A:findE (dF S.B9) n=findE m.B9 n:=B.findE n;obtain⟨f,i⟩:=k;have P:=zh w (.cells #[E f,E i] 58);have s:=ae P (.cells Rp.zero.arr 77);have hx:=(Blk.A8 w 58 #[E f,E i] rfl).alloc (.cells Rp.zero.arr 77);have hy:=Blk.A8 (w.alloc (.cells #[E f,E i] 58)) 77 Rp.zero.arr (g:=w.heap.size+1) zS;have X:=Z1 (CQ _ c T sp v tp lb S (h.up s) (by have:=B.n;omega) (by have:=B.n;omega) (by have:=B.G8;omega) n hn);obtain⟨d0,d1⟩:=ao hx;have D:=Z2 s hy;by_cases y:findE m.B9 n=0
 ·obtain⟨q,cb,rfl,h1,h2,h3⟩:=ox (A.trans y);have j:gS (dF S.B9) (q:Int)=.tuple #[Z cb 0,I 0]:=by
   unfold gS;rw[OB (A.trans y),PH,h3];rfl
  rw[j]at X;rw[ir]at h2;have av:∃e N,S.B9[q-1]?=some (some e)/\m.B9[q-1]?=some (some N)/\Fk c e.2 N/\e.1=cb:=by
   rcases B.cut (q-1)with⟨e,N,t,O,F⟩|⟨t,O⟩|⟨t,O⟩
   ·refine⟨e,N,t,O,F,?_⟩;have:=CP S.B9 (q-1);rw[show(S.B9.map λo=>o.map (·.1))=dF S.B9 from rfl,h3,OP,t]at this
    simpa using this.symm
   ·have:=CP S.B9 (q-1);rw[show(S.B9.map λo=>o.map (·.1))=dF S.B9 from rfl,h3,OP,t]at this
    cases this
   ·have:q-1<S.B9.length:=zO;rw[OL this]at t
    cases t
  obtain⟨e,N,t,O,F,rfl⟩:=av;have hcut:=h.B9 (q-1) e t;have Q:ap N ⟨f,i⟩=(ap e.2 ⟨f,i⟩).map (·.x):=by
   rw[<-uB (show cw (lds e.2) by unfold cw lds;rw[Px];exact hcut.D7) F.perm,tP]
  have hD:(m.B9.getD (q-1) none).getD []=N:=by rw[OP,O];rfl
  have ab:((q-1:Nat):Int)+1=(q:Int):=zO;rw[ab]at hcut
  cases hg:ap e.2 ⟨f,i⟩with
  |none=>
   have G:eF m (q:Int) ⟨f,i⟩ a b=.of 5:=by
    unfold eF;rw[OB y,PH,hD,Q,hg];rfl
   have HX:=Z1 G;have HS:=Z1 (λW hW=>CK W c T e.1 (q:Int) e.2 hW (by have:=F.E5;omega) ⟨f,i⟩ hg a b);have R:=Z1 (hcut.up s);generalize eF m (q:Int) ⟨f,i⟩ a b=r at*;unfold K2.val K2.arr at*;simp only[Rp.zero,Rp.arr,St.zero,St.arr,az]at*;clear h B P s hx hy y h1 h2 h3 j t O F hcut Q hD ab hg G A ha hb hs hl
   go_in
   go_wp2_with fail;refine zY X.o ?_;go_wp2_with fail;refine zm (HS.o _ R.o) λw2 d=>?_;have p:=Z4 ((D.o.2.later d).alloc (.cells #[I 0,I 0,I 0,I 0,I 0] 75)) (ae (af D.o.1 d) (.cells #[I 0,I 0,I 0,I 0,I 0] 75)) (Blk.A8 w2 75 #[I 0,I 0,I 0,I 0,I 0] rfl) (D.o.2.later d).lt;clear d
   go_wp2_with (first|(refine zj lK (cs:=#[I 0,I 0,I 0,I 0,I 0]) p.o.2.2.1 ?_;intro w5 U l;have u:=Z2 (l.B0 p.o.1 (by have:=p.o.2.2.2;omega)) (l.below p.o.2.1 (by have:=p.o.2.2.2;omega));clear U l)|(refine zj aA u.o.1 ?_;intro w6 H L))
   exact OH (au aA rfl H rfl _ rfl) rfl ⟨by rw[HX.o];rfl,L.below u.o.2 zO⟩
  |some z=>
   have G:eF m (q:Int) ⟨f,i⟩ a b=⟨0,q,0,atF z.x.D2 a b,az⟩:=by
    unfold eF;rw[OB y,PH,hD,Q,hg];rfl
   have HX:=Z1 G;have ad:=F.C6 _ (bR hg);have HS:=Z1 (λW hW=>CL W c T e.1 (q:Int) e.2 hW (by have:=F.E5;omega) ⟨f,i⟩ z hg (by have h1:z.x.D2.length<=c.sa:=ad.E5;omega) (uV ad) a b ha hb);have R:=Z1 (hcut.up s);have ax:=Z1 (λW hW=>CJ W c T e.1 (q:Int) e.2 hW);generalize eF m (q:Int) ⟨f,i⟩ a b=r at*;generalize ay:atF z.x.D2 a b=st at*;obtain⟨s0,s1,s2,s3,s4⟩:=st;unfold K2.val K2.arr at*;simp only[Rp.zero,Rp.arr,St.zero,St.arr,az]at*;clear h B P s hx hy y h1 h2 h3 j t O F hcut Q hD ab hg G A ha hb hs hl ay ad
   go_in
   go_wp2_with fail;refine zY X.o ?_;go_wp2_with fail;refine zm (HS.o _ R.o) λw2 d=>?_;have p:=Z5 ((D.o.2.later d).alloc (.cells #[I 0,I 0,I 0,I 0,I 0] 75)) (ae (af D.o.1 d) (.cells #[I 0,I 0,I 0,I 0,I 0] 75)) (Blk.A8 w2 75 #[I 0,I 0,I 0,I 0,I 0] rfl) (D.o.2.later d).lt (R.o.up d);clear d
   go_wp2_with (first|(refine zj lK (cs:=#[I s0,I s1,I s2,I s3,I s4]) p.o.2.2.1 ?_;intro w5 U l;have u:=Z4 (l.B0 p.o.1 (by have:=p.o.2.2.2.1;omega)) (l.below p.o.2.1 (by have:=p.o.2.2.2.1;omega)) U (eK.fresh p.o.2.2.2.2 _ l);clear U l)|fail)
   obtain⟨⟨q0,q1,q2,q3,q4⟩,_⟩:=eO u.o.2.2.1;refine zb 4 ?_;still_step;still_call ((ax.o _ (u.o.2.2.2.up (Oy _ _).drew)).mono λ_ _ h=>⟨h.1,h.2.symm⟩);repeat still_step
   refine wpStill_nil ?_
   go_wp2_with (refine zj aA (Blk.drew u.o.1) ?_;intro w6 H L)
   exact OH (au aA rfl H rfl _ rfl) rfl ⟨by rw[HX.o];rfl,L.below u.o.2.1.drew zO⟩
 ·have G:eF m n ⟨f,i⟩ a b=.of (findE m.B9 n):=by unfold eF;rw[Oz y]
  have HX:=Z1 G;have j:gS (dF S.B9) n=.tuple #[.pointer none,I (findE m.B9 n)]:=by
   unfold gS;rw[A,Oz y]
  rw[j]at X;generalize eF m n ⟨f,i⟩ a b=r at*;generalize findE m.B9 n=q at*;have hq:(q==0)=false:=by simpa using y
  unfold K2.val K2.arr at*;simp only[Rp.zero,Rp.arr,St.zero,St.arr,az]at*;clear h B P s hx hy j G A ha hb hs hl y hn
  go_in
  go_wp2_with fail;refine zY X.o ?_
  go_wp2_with (refine zj aA D.o.2 ?_;intro w6 H L)
  exact OH (au aA rfl H rfl _ rfl) rfl ⟨by rw[HX.o];rfl,L.below D.o.1 zO⟩
def At(c:Cg)(hc:c.ok)(T:Nat->Tg)(sp:Nat)(m:Mp)(h:eH w c T sp m)(k:K2)(hk:k.ok):
  C 293 #[Z sp 0,k.val] w λe w'=>e=.returned (fE m k).val/\M w w':=by
 obtain⟨v,tp,lb,S,h,r⟩:=h;have hs:=Cg.small hc;have hi:=r.J4 hc k;have s:=r.row _ hi;have D:=s.get r.D7;have F:=h.F1 _ hi;have hH:=λW hW=>ns W c hc T sp v tp lb S hW r.n k hk;have ab:=λW hW=>i8 W c T sp v tp lb S hW (by have:=r.n;omega) (homeN c k) hi;generalize S.rows[homeN c k]=r0 at*;obtain⟨p,mb,ac,zs⟩:=r0;simp only at*;have hG:=λW (hW:dm W c p mb ac zs)=>rE W c p mb ac zs hW k hk;rw[ji]at hG;obtain⟨t,u⟩:=k;have ad:=zh w (.cells #[E t,E u] 58);have a:=ae ad (.cells Rp.zero.arr 77);have hx:=(Blk.A8 w 58 #[E t,E u] rfl).alloc (.cells Rp.zero.arr 77);have hy:=Blk.A8 (w.alloc (.cells #[E t,E u] 58)) 77 Rp.zero.arr (g:=w.heap.size+1) zS;have P:=Z3 a hx hy;have Q:=Z2 (h.up a) (F.up a);have HC:=Z3 hH ab hG;unfold K2.val K2.arr at*;simp only[Rp.zero,Rp.arr,St.zero,St.arr,az]at*;have y:=Z2 D (s.C6 r.C6);have a4:=Z1 hs.2.2.2.2.2.2.2;clear h r ad a hx hy hH ab hG F hs s D
 go_in
 go_wp2;generalize ag:w.heap.size=v9 at*;generalize (w.alloc (.cells #[E t,E u] 58)).alloc (.cells #[I 0,I 0,I 0,I 0,I 0,I 0,I 0,I 0,I 0,I 0,I 0,I 0,I 0] 77)=W at*;have ah:=Z1 ag;clear ag;have R:=(zi W);refine zH (S:=λV=>M W V) R ?_;refine zq 2 _ ?_ (hy:=λW hW=>by obtain⟨q0,q1⟩:=ao (P.o.2.1.later hW);exact zf);refine zq 5 _ ?_ (hy:=λW hW=>by obtain⟨q0,q1⟩:=ao (P.o.2.1.later hW);exact zf);refine zo 3 λK hK=>?_;go_simp;refine zm (HC.o.1 _ (Q.o.1.up R)) λw2 a=>?_;have d:=af R a;refine zJ hK d ?_;refine zo 4 λK hK=>?_;go_simp;refine zY (HC.o.2.1 _ (Q.o.1.up d)) ?_;refine zJ hK d ?_;refine zo 6 λK hK=>?_;go_simp;refine zm (HC.o.2.2 _ (Q.o.2.at_.up d)) λw3 ai=>?_;have f:=af d ai;refine zJ hK f ?_;have G:=P.o.1;try rw[<-ah.o]at G
 have H:=Z3 (af G f) (P.o.2.2.later f) (Q.o.2.up f);have aj:=ah.o.symm;have L:=Z1 aj;clear G R d a f ai aj
 cases hg:ap zs (⟨t,u⟩:K2)with
 |none=>
  have U:Hid (fE m ⟨t,u⟩=.of 5):=Z1 (by unfold fE;rw[y.o.1,hg];rfl);simp only[hg,QH,QV];clear hg
  go_wp2_with (refine zj aA H.o.2.1 ?_;intro w6 i j)
  exact OH (au aA rfl i rfl _ rfl) rfl ⟨by rw[U.o];rfl,j.below H.o.1 (by have:=L.o;omega)⟩
 |some z=>
  have U:Hid (fE m ⟨t,u⟩=⟨0,0,0,.zero,iF z.x.C0⟩):=Z1 (by unfold fE;rw[y.o.1,hg];rfl);have hP:=uC w3 c z.p z.x z.fz _ (H.o.2.2.L3 hg);have a6:=OJ (y.o.2 _ (bR hg)).C0 a4.o;simp only[hg,PT,Qd];clear hg;generalize z.x.C0=l at*;obtain⟨n,hn⟩:∃n,n=l.length:=⟨_,rfl⟩;rw[<-hn]at hP a6;have HP:=Z1 hP;have HN:=Z1 hn;clear hP hn;go_wp2_with fail;refine zX HP.o λvv w4 X=>?_;have B:=X.below;have HY:=Z2 (H.o.2.1.later B) (af H.o.1 B);obtain⟨A,c1,rfl,_,_,N⟩:=X.form;by_cases h0:n=0
  ·subst h0;have hl:=OU HN.o.symm;have HL:=Z1 hl;clear X B N hl
   go_wp2_with (refine zj aA HY.o.1 ?_;intro w6 i j)
   exact OH (au aA rfl i rfl _ rfl) rfl ⟨by rw[U.o,HL.o];rfl,j.below HY.o.2 (by have:=L.o;omega)⟩
  ·obtain⟨q,rfl⟩:∃q,n=q+1:=⟨n-1,zO⟩;have O:q<l.length:=by have:=HN.o;omega
   obtain⟨b,o,rfl,_,g0,g1,g2,g3,g4⟩:=adv_at N O;have ak:l[q]=iF l:=by
    have h1:l.getLast?=some l[q]:=by
     rw[Ry,<-HN.o,RF,OL O]
    unfold iF;rw[h1];rfl
   rw[ak]at g0 g1 g2 g3 g4;generalize a8:iF l=st at*;obtain⟨s0,s1,s2,s3,s4⟩:=st;have bn:(((q+1:Nat):Int)==0)=false:=zT;clear X B N O ak a8
   go_wp2_with (refine zj aA HY.o.1 ?_;intro w6 i j)
   exact OH (au aA rfl i rfl _ rfl) rfl ⟨by rw[U.o];rfl,j.below HY.o.2 (by have:=L.o;omega)⟩
def soF(room:Nat)(l:List Smp):List Smp:=l.foldl (fV room) []
def rM(room:Nat)(l:List Smp)(x:Smp):soF room (l++[x])=fV room (soF room l) x:=by simp[soF]
def FN{l:List Smp}{x:Smp}(h:∀s∈l,s.tick<x.tick):placeF l x.tick=l.length:=by
 unfold placeF;induction l with
 |nil=>rfl
 |cons y r ih=>
  have a:=h y zS;have b:=ih λs c=>h s (by simp[c]);simp[a,b]
def LW{l:List Smp}{x:Smp}(h:∀s∈l,s.tick<x.tick)(hr:l.length+1<=room):fV room l x=l++[x]:=by
 unfold fV;rw[FN h,Oz (λa=>zO),Oz zO];simp[gm]
def LX{l:List Smp}(hs:ea l)(hr:l.length<=room):soF room l=l:=by
 have q:∀(k:Nat),k<=l.length->soF room (l.take k)=l.take k:=by
  intro k;induction k with
  |zero=>intro _;rfl
  |succ k ih=>
   intro c;have e:l.take (k+1)=l.take k++[l[k]]:=OG zO;rw[e,rM,ih zO,LW]
   ·intro s a;obtain⟨i,b,rfl⟩:=PJ a;rw[Sn];rw[PG]at b;exact Qq.1 hs i k zO zO zO
   ·rw[PG];omega
 have:=q l.length (OA _)
 rwa [PO]at this
def LY(h1:1<=room)(l:List Smp):ea (soF room l)/\(soF room l).length<=room:=by
 have q:∀(l a:List Smp),ea a->a.length<=room->ea (l.foldl (fV room) a)/\(l.foldl (fV room) a).length<=room:=by
  intro l;induction l with
  |nil=>intro a b c;exact⟨b,c⟩
  |cons x r ih=>intro a b c;have:=pF (room:=room) b x;exact ih _ this.1 (this.2.1 c h1)
 exact q l [] List.Pairwise.nil (OK _)
def LZ(room:Nat)(h1:1<=room)(h2:room<=256)(l:List Smp)(hl:∀s∈l,0<=s.tick/\0<=s.value)(A:Option Addr)(c n:Nat)(w:World)(hr:an w w.heap.size 2 A n (smps l))(hn:n<=1000):
  C 149 #[I room,.slice A n c] w λe w'=>∃b sl,e=.returned (Z b 0)/\eC w' b sl (soF room l) room/\w.heap.size<=b/\(∀k,sl.ownBlock=some k->w.heap.size<=k)/\M w w':=by
 have B:=Z2 (iB hr) hl;have HN:=Z1 (λW=>wJ room W h1 h2);clear hl
 go_in
 go_wp2_with fail;refine(HN.o _).mono ?_;rintro e w1 ⟨rfl,p,q,r⟩;have P:=Z3 p q r;clear p q r;go_wp2;go_loopw [12] (λi wr=>∃(k:Nat),k<=n/\i=I k/\Hid (∃sl,eC wr w.heap.size sl (soF room (l.take k)) room/\(∀g,sl.ownBlock=some g->w.heap.size<=g)/\M w wr)) (λi _=>n-(intOf i).toNat)
 case atStart=>exact⟨0,OK _,rfl,Z1 ⟨_,P.o.1,(λg a=>by cases a),P.o.2.2⟩⟩
 case round=>
  obtain⟨k,hk,rfl,D⟩:=hrel;by_cases ai:k<n
  ·have h:k<l.length:=by have:=B.o.1;omega
   obtain⟨sl,d,a,F⟩:=D.o;obtain⟨bb,o,rfl,aj,g0,g1⟩:=il (hr.up F) h;have G:=B.o.2 _ (OR h);have Q:soF room (l.take (k+1))=fV room (soF room (l.take k)) l[k]:=by rw[<-rM,OG h]
   generalize l[k]=x at*;have HS:=Z1 Q;have t:=LY h1 (l.take k);have R:=λW hW=>wE w.heap.size sl (soF room (l.take k)) room x W hW t.1 zO h1 zO G.1 G.2;obtain⟨H,L⟩:=x;have HP:=Z1 R;have f:=Z3 F d a;simp only at g0 g1;have u:=zh wr (.cells #[I H,I L] 66);have S:=Z1 u;clear Q d a F G t R hr D u;go_wp2_with fail;have v:=f.o.2.1.up S.o;refine(HP.o _ v).mono ?_;rintro e w5 ⟨rfl,T,m,y,z⟩;have N:=Z3 m y z;clear v m y z;go_wp2;go_roundw
   case rel=>
    refine⟨k+1,zO,by go_num,Z1 ⟨T,by rw[HS.o];exact N.o.1,λg a=>?_,?_⟩⟩
    ·rcases N.o.2.2 with e|e
     ·exact f.o.2.2 g (e▸a)
     ·have:=e g a;have:=f.o.1.size;simp at*;omega
    ·refine(ae f.o.1 (.cells #[I H,I L] 66)).trans (N.o.2.1.below (ae f.o.1 (.cells #[I H,I L] 66)).size λj O=>?_)
     rcases O with rfl|O
     ·exact OA _
     ·exact f.o.2.2 _ O
   case measure=>simp[intOf];omega
  ·obtain rfl:k=n:=zO;have U:l.take k=l:=OT (by have:=B.o.1;omega);have d:=D.o;rw[U]at d;have X:=Z1 d;clear d U;go_wp2;go_ret;obtain⟨sl,h3,h4,m⟩:=X.o;exact⟨_,sl,rfl,h3,OA _,h4,m⟩
abbrev Op2:=Int×Int
def stF(cl:Nat->Option Bool)(o:Op2):Nat->Option Bool:=λn=>if(n:Int)=o.2/\(o.1=2\/o.1=3)then some (decide (o.1=3))else if(n:Int)=o.2/\o.1=5 then none else cl n
def eS(c:Cg):List Op2:=[(3,lineN c),(6,0),(5,lineN c),(7,0)]
def okO(c:Cg):(Nat->Option Bool)->List Op2->Prop
 |cl,[]=>∀n,n<c.st+2->cl n=none
 |cl,o::r=>
  (o.1=2\/o.1=3->∃n:Nat,o.2=n/\n<c.st+2/\cl n=none/\∀m,m<c.st+2->cl m≠none->m<n)/\
  (o.1=5->∃n:Nat,o.2=n/\n<c.st+2/\cl n≠none/\r≠[]/\((∃y∈r,y.1=6)\/(r.headD (0,0)).2=lineN c->r=eS c))/\
  (o.1=4\/o.1=6->(∀y∈r,y.1≠4)/\((∃y∈r,y.1=6)->∃h:Nat,h<c.st/\r=(5,(h:Int))::eS c))/\
  (2<=o.1/\o.1<=7)/\(o.1=7↔r=[])/\okO c (stF cl o) r
def dj{c:Cg}:∀{l:List Op2} {cl cl':Nat->Option Bool},(∀n,n<c.st+2->cl n=cl' n)->okO c cl l->okO c cl' l
 |[],cl,cl',h,h1=>λn hn=>(h n hn).symm.trans (h1 n hn)
 |o::r,cl,cl',h,h1=>by
  obtain⟨a,b,d,e,f,g⟩:=h1;refine⟨λq=>?_,λq=>?_,d,e,f,dj (λn hn=>?_) g⟩
  ·obtain⟨n,h1,i,j,k⟩:=a q;exact⟨n,h1,i,(h n i).symm.trans j,λm p s=>k m p (by rw[h m p];exact s)⟩
  ·obtain⟨n,h1,i,j,k⟩:=b q;exact⟨n,h1,i,by rw[<-h n i];exact j,k⟩
  ·unfold stF;rw[h n hn]
def jW:Nat->Option Bool:=λ_=>none
def BD(c:Cg):okO c jW [(7,0)]:=⟨zS,zS,zS,zS,zS,λn _=>by simp[stF,jW]⟩
def rO(c:Cg)(k:Int)(hk:k=2\/k=3)(r:List Op2)(hr:r≠[]):∀(m a:Nat) (cl:Nat->Option Bool),a+m<=c.st+2->(∀n,n<c.st+2->(cl n≠none->n<a))->
  okO c (λn=>if a<=n/\n<a+m then some (decide (k=3))else cl n) r->okO c cl ((List.range' a m).map (λi:Nat=>((k,(i:Int)):Op2))++r)
 |0,a,cl,h1,h2,h3=>by
  refine dj (λn hn=>?_) h3;rw[Oz zO]
 |m+1,a,cl,h1,h2,h3=>by
  rw[RN];refine⟨λ_=>⟨a,rfl,zO,?_,λm' hm' hc=>h2 m' hm' hc⟩,λe=>by rcases hk with hk|hk<;>simp[hk]at e,λe=>by rcases hk with hk|hk<;>simp[hk]at e,by rcases hk with hk|hk<;>simp[hk],⟨λe=>by rcases hk with hk|hk<;>simp[hk]at e,λe=>by simp[hr]at e⟩,?_⟩
  ·cases hc:cl a with
   |none=>rfl
   |some b=>exact absurd (h2 a zO (by rw[hc];simp)) (Qn _)
  ·refine rO c k hk r hr m (a+1) _ zO (λn hn hc=>?_) (dj (λn hn=>?_) h3)
   ·unfold stF at hc;by_cases e:n=a
    ·omega
    ·have e2:¬((n:Int)=a):=zO;simp only[e2,false_and,if_false]at hc;have:=h2 n hn hc;omega
   ·unfold stF;by_cases e:n=a
    ·subst e;simp[hk]
    ·have e2:¬((n:Int)=a):=zO;by_cases d:a+1<=n/\n<a+1+m
     ·rw[OB d,OB zO]
     ·rw[Oz d,Oz zO];simp[e2]
def pM(c:Cg)(r:List Op2)(hr:r≠[])(h6:∀y∈r,y.1≠6)(hh:(r.headD (0,0)).2≠lineN c):∀(m a:Nat) (cl:Nat->Option Bool),a+m<=c.st->(∀n,n<c.st+2->a<=n->n<a+m->cl n≠none)->
  okO c (λn=>if a<=n/\n<a+m then none else cl n) r->okO c cl ((List.range' a m).map (λi:Nat=>(((5:Int),(i:Int)):Op2))++r)
 |0,a,cl,h1,h2,h3=>by
  refine dj (λn hn=>?_) h3;rw[Oz zO]
 |m+1,a,cl,h1,h2,h3=>by
  rw[RN];refine⟨λe=>by simp at e,λ_=>⟨a,rfl,zO,h2 a zO (OA _) zO,by simp[hr],λe=>?_⟩,λe=>by simp at e,zS,⟨λe=>by simp at e,λe=>by simp[hr]at e⟩,?_⟩
  ·exfalso
   rcases e with⟨y,hy,e⟩|e
   ·rcases Po.1 (show y∈(List.range' (a+1) m).map (λi:Nat=>(((5:Int),(i:Int)):Op2))++r from hy)with hy|hy
    ·rw[Pa]at hy;obtain⟨i,_,rfl⟩:=hy;simp at e
    ·exact h6 y hy e
   ·cases m with
    |zero=>exact hh (by simpa using e)
    |succ m=>simp[RN,lineN]at e;omega
  ·refine pM c r hr h6 hh m (a+1) _ zO (λn hn f g=>?_) (dj (λn hn=>?_) h3)
   ·unfold stF;have b:¬((n:Int)=a):=zO;simp only[b,false_and,if_false];exact h2 n hn zO zO
   ·unfold stF;by_cases e:n=a
    ·subst e;simp
    ·have b:¬((n:Int)=a):=zO;by_cases d:a+1<=n/\n<a+1+m
     ·rw[OB d,OB zO]
     ·rw[Oz d,Oz zO];simp[b]
def tX(c:Cg)(k:Int)(hk:k=2\/k=3)(h:Nat)(hh:h<c.st+2)(r:List Op2)(hr:r≠[])(h4:∀y∈r,y.1≠4)(cl:Nat->Option Bool)(hc:∀n,n<c.st+2->cl n≠none->n<h)
  (h6:(∃y∈r,y.1=6)\/(r.headD (0,0)).2=lineN c->h<c.st/\r=eS c)(hn:okO c cl r):okO c cl (bK k h++r):=by
 have d:cl h=none:=by
  cases e:cl h with
  |none=>rfl
  |some b=>exact absurd (hc h hh (by rw[e];simp)) (Qn _)
 have j:¬((4:Int)=6):=zP;unfold bK;refine⟨λ_=>⟨h,rfl,hh,d,hc⟩,λe=>by rcases hk with hk|hk<;>simp[hk]at e,λe=>by rcases hk with hk|hk<;>simp[hk]at e,by rcases hk with hk|hk<;>simp[hk],⟨λe=>by rcases hk with hk|hk<;>simp[hk]at e,λe=>by simp at e⟩,?_⟩;refine⟨λe=>by simp at e,λe=>by simp at e,λ_=>⟨λy a=>?_,λ⟨y,a,e⟩=>⟨h,?_⟩⟩,zS,⟨λe=>by simp at e,λe=>by simp at e⟩,?_⟩
 ·rcases Pj.1 (show y∈((5,(h:Int)):Op2)::r from a)with rfl|a
  ·show ¬((5:Int)=4);decide
  ·exact h4 y a
 ·rcases Pj.1 (show y∈((5,(h:Int)):Op2)::r from a)with rfl|a
  ·simp at e
  ·obtain⟨f,g⟩:=h6 (.inl ⟨y,a,e⟩);exact⟨f,by rw[g];rfl⟩
 ·refine⟨λe=>by simp at e,λ_=>⟨h,rfl,hh,?_,by simpa using hr,λe=>?_⟩,λe=>by simp at e,zS,⟨λe=>by simp at e,λe=>by simp[hr]at e⟩,dj (λn l=>?_) hn⟩
  ·unfold stF;simp[hk]
  ·exact(h6 e).2
  ·unfold stF;by_cases e:n=h
   ·subst e;simp[d]
   ·have i:¬((n:Int)=h):=zO;simp[i]
def Mt(c:Cg):okO c jW (eS c):=by
 have b:(lineN c:Int)=((c.st+1:Nat):Int):=by simp[lineN]
 unfold eS;refine⟨λ_=>⟨c.st+1,b,zO,rfl,λm f d=>absurd rfl d⟩,λe=>by simp at e,λe=>by simp at e,zS,zS,?_⟩;refine⟨λe=>by simp at e,λe=>by simp at e,λ_=>⟨zS,λ⟨y,a,e⟩=>by exfalso;simp at a;rcases a with rfl|rfl<;>simp at e⟩,zS,zS,?_⟩;refine⟨λe=>by simp at e,λ_=>⟨c.st+1,b,zO,?_,zS,λe=>?_⟩,λe=>by simp at e,zS,zS,dj (λn g=>?_) (BD c)⟩
 ·simp[stF,b]
 ·exfalso
  rcases e with⟨y,a,e⟩|e
  ·simp at a;subst a;simp at e
  ·simp[lineN]at e;omega
 ·unfold stF jW;simp only;by_cases e:(n:Int)=lineN c<;>simp[e]
def cW(c:Cg):lineN c=((c.st+1:Nat):Int):=by simp[lineN]
def xM{c:Cg}(hc:c.ok)(id:ByteArray):∃h:Nat,i7 c id=(h:Int)/\h<c.st:=⟨homeN c (av id),cy hc _,cJ hc _⟩
def kC{c:Cg}(hc:c.ok)(x:Cl):∃r,aF c x=(1,0)::r/\okO c jW r/\(∀y∈r,y.1≠1)/\((∃y∈r,y.1=6)->(x.k=1\/x.k=6)/\aH x=0)/\(aH x≠0->r=[(7,0)])/\(aH x=0->∃y∈r,y.1=4)/\((x.k=1\/x.k=6)/\aH x=0->(r.filter λy=>y.1==6).length=1)/\r.length<=201/\(r.filter λy=>y.1==6).length<=1:=by
 have m:¬((0:Int)=lineN c):=by simp[lineN];omega
 have p:=BD c;have B:∀(k:Int) (h:Nat),(k=2\/k=3)->h<c.st+2->okO c jW (bK k h++[(7,0)]):=λk h b w=>tX c k b h w _ zS zS _ (λn _ e=>absurd rfl e) (λe=>by
  exfalso
  rcases e with⟨y,a,e⟩|e
  ·simp at a;subst a;simp at e
  ·exact m (by simpa using e)) p
 refine⟨(if aH x=0 then cg c x else[])++[(7,0)],rfl,?_⟩;by_cases d:aH x=0
 ·rw[OB d];have f:∀k,(dr c k)=(List.range' 0 c.st).map (λi:Nat=>((k,(i:Int)):Op2)):=λk=>by unfold dr;rw[List.range_eq_range']
  unfold cg;by_cases q:x.k=1\/x.k=6
  ·rw[OB q];obtain⟨h,z,t⟩:=xM hc x.id;rw[z];refine⟨?_,?_,λ_=>⟨q,d⟩,λe=>absurd d e,λ_=>⟨(4,0),by simp[bK],rfl⟩,λ_=>by simp[bK,List.filter],by simp[bK],by simp[bK,List.filter]⟩
   ·rw[Pv];refine tX c 3 (.inr rfl) h zO _ zS ?_ _ (λn _ e=>absurd rfl e) (λ_=>⟨t,rfl⟩) (Mt c);intro y a;simp at a
    rcases a with rfl|rfl|rfl|rfl<;>simp
   ·intro y a;simp[bK]at a
    rcases a with rfl|rfl|rfl|rfl|rfl|rfl|rfl<;>simp
  ·rw[Oz q];have o:∀P:Prop,(x.k=1\/x.k=6)/\aH x=0->P:=λP e=>absurd e.1 q;have g:∀(k:Int) (h:Nat),(k=2\/k=3)->h<c.st+2->okO c jW (bK k h++[(7,0)])/\(∀y∈bK k (h:Int)++[((7,0):Op2)],y.1≠1)/\((∃y∈bK k (h:Int)++[((7,0):Op2)],y.1=6)->(x.k=1\/x.k=6)/\aH x=0)/\(aH x≠0->bK k (h:Int)++[((7,0):Op2)]=[(7,0)])/\(aH x=0->∃y∈bK k (h:Int)++[((7,0):Op2)],y.1=4)/\((x.k=1\/x.k=6)/\aH x=0->((bK k (h:Int)++[((7,0):Op2)]).filter λy=>y.1==6).length=1)/\(bK k (h:Int)++[((7,0):Op2)]).length<=201/\((bK k (h:Int)++[((7,0):Op2)]).filter λy=>y.1==6).length<=1:=λk h b w=>by
    refine⟨B k h b w,λy a=>?_,λ⟨y,a,e⟩=>?_,λe=>absurd d e,λ_=>⟨(4,0),by simp[bK],rfl⟩,o _,by simp[bK],?_⟩
    ·simp[bK]at a
     rcases b with rfl|rfl<;>rcases a with rfl|rfl|rfl|rfl<;>simp
    ·exfalso;simp[bK]at a
     rcases b with rfl|rfl<;>rcases a with rfl|rfl|rfl|rfl<;>simp at e
    ·rcases b with rfl|rfl<;>simp[bK,List.filter]
   by_cases D:x.k=2
   ·rw[OB D,f,f];have A:∀k:Int,k≠6->(((List.range' 0 c.st).map λi:Nat=>((k,(i:Int)):Op2)).filter λy=>y.1==6)=[]:=λk b=>by
     rw[Ve];intro y a;rw[Pa]at a;obtain⟨i,_,rfl⟩:=a
     simpa using b
    have u:=Cg.small hc;refine⟨?_,λy a=>?_,λ⟨y,a,e⟩=>?_,λe=>absurd d e,λ_=>⟨(4,0),zS,rfl⟩,o _,zT,by simp[Ql,A]⟩
    ·rw[Pv,Pv];refine rO c 3 (.inr rfl) _ zS c.st 0 _ zO (λn _ e=>absurd rfl e) ?_;refine⟨λe=>by simp at e,λe=>by simp at e,λ_=>⟨λy a=>?_,λ⟨y,a,e⟩=>?_⟩,zS,⟨λe=>by simp at e,λe=>by simp at e⟩,?_⟩
     ·simp at a
      rcases a with⟨i,_,rfl⟩|rfl<;>simp
     ·exfalso;simp at a
      rcases a with⟨i,_,rfl⟩|rfl<;>simp at e
     ·refine pM c [(7,0)] zS zS (by simpa using m) c.st 0 _ zO (λn v j l=>?_) (dj (λn v=>?_) p)
      ·unfold stF;rw[Oz zS,Oz zS];show(if 0<=n/\n<0+c.st then some (decide ((3:Int)=3))else jW n)≠none;rw[OB ⟨j,l⟩];simp
      ·simp[stF,jW]
    ·simp at a
     rcases a with⟨i,_,rfl⟩|rfl|⟨i,_,rfl⟩|rfl<;>simp
    ·exfalso;simp at a
     rcases a with⟨i,_,rfl⟩|rfl|⟨i,_,rfl⟩|rfl<;>simp at e
   ·rw[Oz D];by_cases j:x.k=3
    ·rw[OB j,f,f];have A:∀k:Int,k≠6->(((List.range' 0 c.st).map λi:Nat=>((k,(i:Int)):Op2)).filter λy=>y.1==6)=[]:=λk b=>by
      rw[Ve];intro y a;rw[Pa]at a;obtain⟨i,_,rfl⟩:=a
      simpa using b
     have u:=Cg.small hc;refine⟨?_,λy a=>?_,λ⟨y,a,e⟩=>?_,λe=>absurd d e,λ_=>⟨(4,0),by simp[bK],rfl⟩,o _,by simp[bK];omega,by simp[Ql,A,bK,List.filter]⟩
     ·rw[Pv,Pv];refine rO c 2 (.inl rfl) _ zS c.st 0 _ zO (λn _ e=>absurd rfl e) ?_;refine tX c 3 (.inr rfl) c.st zO _ zS (λy a=>?_) _ (λn v e=>?_) (λe=>?_) ?_
      ·simp at a
       rcases a with⟨i,_,rfl⟩|rfl<;>simp
      ·by_cases t:0<=n/\n<0+c.st
       ·omega
       ·rw[Oz t]at e;exact absurd rfl e
      ·exfalso
       rcases e with⟨y,a,e⟩|e
       ·simp at a
        rcases a with⟨i,_,rfl⟩|rfl<;>simp at e
       ·cases hs:c.st with
        |zero=>simp[hs,lineN]at e
        |succ s=>simp[hs,RN,lineN]at e;omega
      ·refine pM c [(7,0)] zS zS (by simpa using m) c.st 0 _ zO (λn v j l=>?_) (dj (λn v=>?_) p)
       ·show(if 0<=n/\n<0+c.st then some (decide ((2:Int)=3))else jW n)≠none;rw[OB ⟨j,l⟩];simp
       ·simp[jW]
     ·simp[bK]at a
      rcases a with⟨i,_,rfl⟩|rfl|rfl|rfl|⟨i,_,rfl⟩|rfl<;>simp
     ·exfalso;simp[bK]at a
      rcases a with⟨i,_,rfl⟩|rfl|rfl|rfl|⟨i,_,rfl⟩|rfl<;>simp at e
    ·rw[Oz j];by_cases l:x.k=4
     ·rw[OB l];exact g 3 c.st (.inr rfl) zO
     ·rw[Oz l];by_cases F:x.k=5
      ·rw[OB F];exact g 2 c.st (.inl rfl) zO
      ·rw[Oz F];by_cases G:x.k=7
       ·rw[OB G];obtain⟨h,z,t⟩:=xM hc x.id;rw[z];exact g 2 h (.inl rfl) zO
       ·rw[Oz G,cW];exact g 3 (c.st+1) (.inr rfl) zO
 ·rw[Oz d];exact⟨p,zS,λ⟨y,a,e⟩=>by simp at a;subst a;simp at e,λ_=>rfl,λe=>absurd e d,λe=>absurd e.2 d,zS,by simp[List.filter]⟩
def clG(g:Gs)(u:Int)(m:Nat):Option Bool:=cR (g.lock m) u
def hdG(g:Gs)(u:Int)(m:Nat):Int:=bS (g.lock m) u
structure LkG(c:Cg)(N:Nat)(g:Gs):Prop where
 len:g.E4.length=c.st+1
 alone:∀n:Nat,n<c.st+2->gh (g.lock n)
 task:∀n:Nat,n<c.st+2->∀u,clG g u n≠none->0<=u/\u<N
 nodup:g.B3.Nodup
 H7:∀u∈g.B3,(0<=u/\u<N)/\∀n:Nat,n<c.st+2->clG g u n=none
 n32:N<=32
structure Oth(c:Cg)(g g':Gs)(u:Int):Prop where
 cl:∀m:Nat,m<c.st+2->clG g' u m=if m=c.st+1/\u∈g.B3/\u∉g'.B3 then some true else clG g u m
 held:∀m:Nat,m<c.st+2->hdG g u m≠0->hdG g' u m≠0
 H7:u∈g'.B3->u∈g.B3
section
variable {c:Cg} {N:Nat} {g g' g2:Gs} {t u:Int} {n m:Nat} {b:Bool}
def sW(g:Gs)(n:Int)(R:Rf):(g.E1 n R).B3=g.B3/\(g.E1 n R).mp=g.mp/\(g.E1 n R).q=g.q/\(g.E1 n R).ev=g.ev:=by
 unfold Gs.E1;split<;>exact⟨rfl,rfl,rfl,rfl⟩
def dY(g:Gs)(n t:Int)(b:Bool):(g.ask n t b).1.B3=g.B3/\(g.ask n t b).1.mp=g.mp/\(g.ask n t b).1.q=g.q/\(g.ask n t b).1.ev=g.ev:=sW _ _ _
def dA(g:Gs)(n t:Int):(g.drop n t).B3=g.B3/\(g.drop n t).mp=g.mp/\(g.drop n t).q=g.q/\(g.drop n t).ev=g.ev:=sW _ _ _
def LkG.E5(h:LkG c N g)(hn:n<c.st+2):(g.lock n).line.length<=32:=gh.E5 (h.alone n hn) λu a=>by
 have:=h.task n hn u a;have:=h.n32;omega
def LkG.S9(h:LkG c N g):g.B3.length<=32:=by
 have:=Gd N g.B3 h.nodup λu a=>(h.H7 u a).1;have:=h.n32;omega
def Oth.same(h1:∀m:Nat,g'.lock m=g.lock m)(h2:g'.B3=g.B3):Oth c g g' u:=by
 refine⟨λm a=>?_,λm a e=>?_,λe=>h2▸e⟩
 ·rw[Oz λe=>e.2.2 (h2▸e.2.1)];unfold clG;rw[h1]
 ·unfold hdG at*
  rwa [h1]
def Oth.trans(h1:Oth c g g' u)(h2:Oth c g' g2 u):Oth c g g2 u:=by
 refine⟨λm a=>?_,λm a e=>h2.held m a (h1.held m a e),λe=>h1.H7 (h2.H7 e)⟩;rw[h2.cl m a,h1.cl m a];by_cases f:m=c.st+1
 ·by_cases d:u∈g.B3
  ·by_cases b:u∈g'.B3
   ·simp[f,d,b]
   ·have h:u∉g2.B3:=λe=>b (h2.H7 e);simp[f,d,b,h]
  ·have b:u∉g'.B3:=λe=>d (h1.H7 e);simp[d,b]
 ·simp[f]
def LkG.same(h:LkG c N g)(h0:g'.E4=g.E4)(h1:g'.ln=g.ln)(h2:g'.B3=g.B3):LkG c N g':=by
 have b:∀m:Nat,g'.lock m=g.lock m:=λm=>by unfold Gs.lock;rw[h0,h1]
 refine⟨by rw[h0];exact h.len,λn a=>by rw[b];exact h.alone n a,λn a u d=>h.task n a u (by unfold clG at*;rwa [b]at d),by rw[h2];exact h.nodup,λu d=>?_,h.n32⟩;obtain⟨e,f⟩:=h.H7 u (h2▸d);exact⟨e,λn a=>by unfold clG;rw[b];exact f n a⟩
def LkG.ask(h:LkG c N g)(hn:n<c.st+2)(ht:0<=t/\t<N)(hcl:clG g t n=none)(hs:t∉g.B3)(b:Bool):
  LkG c N (g.ask n t b).1/\(∀u (m:Nat),m<c.st+2->clG (g.ask n t b).1 u m=if m=n/\u=t then some b else clG g u m)/\(∀u (m:Nat),m<c.st+2->¬(m=n/\u=t)->hdG (g.ask n t b).1 u m=hdG g u m)/\(hdG (g.ask n t b).1 t n≠0↔(g.ask n t b).2=true):=by
 have i:∀m:Nat,m<c.st+2->(g.ask n t b).1.lock m=if m=n then(ip (g.lock n) t b).1 else g.lock m:=λm a=>xK h.len _ hn a
 obtain⟨o,p,l⟩:=Gc (h.alone n hn) (by have:=h.n32;omega) hcl b;have k:∀u (m:Nat),m<c.st+2->clG (g.ask n t b).1 u m=if m=n/\u=t then some b else clG g u m:=λu m a=>by
  unfold clG;rw[i m a];by_cases e:m=n
  ·subst e;by_cases f:u=t
   ·subst f;simpa using o
   ·simpa[f]using (l u f).1
  ·simp[e]
 refine⟨⟨by rw[show(g.ask n t b).1.E4.length=g.E4.length from xL _ _ _];exact h.len,λm a=>?_,λm a u d=>?_,by rw[(dY g n t b).1];exact h.nodup,λu d=>?_,h.n32⟩,k,λu m a j=>?_,?_⟩
 ·rw[i m a];split
  ·exact(h.alone n hn).ask t b
  ·exact h.alone m a
 ·rw[k u m a]at d;by_cases e:m=n/\u=t
  ·rw[e.2];exact ht
  ·rw[Oz e]at d;exact h.task m a u d
 ·rw[(dY g n t b).1]at d;refine⟨(h.H7 u d).1,λm a=>?_⟩;have j:¬(m=n/\u=t):=λe=>hs (e.2▸d);rw[k u m a,Oz j];exact(h.H7 u d).2 m a
 ·unfold hdG;rw[i m a];by_cases e:m=n
  ·subst e;have f:u≠t:=λf=>j ⟨rfl,f⟩
   simpa using (l u f).2
  ·simp[e]
 ·unfold hdG;rw[i n hn,OB rfl];exact p
def LkG.M3(h:LkG c N g)(hn:n<c.st+2)(ht:0<=t/\t<N)(hcl:clG g t n=none)(hs:t∉g.B3)(b:Bool)(hu:u≠t):Oth c g (g.ask n t b).1 u:=by
 obtain⟨_,f,i,_⟩:=h.ask hn ht hcl hs b;have d:=(dY g n t b).1;refine⟨λm a=>?_,λm a e=>?_,λe=>d▸e⟩
 ·rw[f u m a,Oz (λe=>hu e.2),Oz λe=>e.2.2 (d▸e.2.1)]
 ·rw[i u m a λe=>hu e.2];exact e
def LkG.drop(h:LkG c N g)(hn:n<c.st+2)(hh:hdG g t n≠0):
  LkG c N (g.drop n t)/\(∀u (m:Nat),m<c.st+2->clG (g.drop n t) u m=if m=n/\u=t then none else clG g u m)/\(∀u (m:Nat),m<c.st+2->¬(m=n/\u=t)->hdG g u m≠0->hdG (g.drop n t) u m≠0):=by
 have f:∀m:Nat,m<c.st+2->(g.drop n t).lock m=if m=n then(iH (g.lock n) t).1 else g.lock m:=λm a=>xK h.len _ hn a
 obtain⟨o,k⟩:=Dk (h.alone n hn) hh;have i:∀u (m:Nat),m<c.st+2->clG (g.drop n t) u m=if m=n/\u=t then none else clG g u m:=λu m a=>by
  unfold clG;rw[f m a];by_cases e:m=n
  ·subst e;by_cases d:u=t
   ·subst d;simpa using o
   ·simpa[d]using (k u d).1
  ·simp[e]
 refine⟨⟨by rw[show(g.drop n t).E4.length=g.E4.length from xL _ _ _];exact h.len,λm a=>?_,λm a u b=>?_,by rw[(dA g n t).1];exact h.nodup,λu b=>?_,h.n32⟩,i,λu m a l j=>?_⟩
 ·rw[f m a];split
  ·exact(h.alone n hn).drop t
  ·exact h.alone m a
 ·rw[i u m a]at b;by_cases e:m=n/\u=t
  ·rw[OB e]at b;exact absurd rfl b
  ·rw[Oz e]at b;exact h.task m a u b
 ·rw[(dA g n t).1]at b;refine⟨(h.H7 u b).1,λm a=>?_⟩;rw[i u m a];split
  ·rfl
  ·exact(h.H7 u b).2 m a
 ·unfold hdG at*;rw[f m a];by_cases e:m=n
  ·subst e;have d:u≠t:=λd=>l ⟨rfl,d⟩;rw[OB rfl,(k u d).2 j];exact j
  ·rw[Oz e];exact j
def LkG.L5(h:LkG c N g)(hn:n<c.st+2)(hh:hdG g t n≠0)(hu:u≠t):Oth c g (g.drop n t) u:=by
 obtain⟨_,d,f⟩:=h.drop hn hh;have b:=(dA g n t).1;refine⟨λm a=>?_,λm a e=>f u m a (λi=>hu i.2) e,λe=>b▸e⟩;rw[d u m a,Oz (λe=>hu e.2),Oz λe=>e.2.2 (b▸e.2.1)]
def JO(hz:g.B3=[]):g.F0=g:=by unfold Gs.F0;rw[hz]
def Mu(h:g.E4.length=c.st+1)(hz:g.B3=t::r):g.F0=({g with B3:=r}.ask ((c.st+1:Nat):Int) t true).1:=by
 unfold Gs.F0;rw[hz];unfold Gs.ask Gs.E1 Gs.lock;simp only[PH,h,Qn,if_false]
def LkG.F0(h:LkG c N g):LkG c N g.F0/\(∀u,Oth c g g.F0 u)/\(∀u,u∈g.F0.B3->u∈g.B3)/\g.F0.mp=g.mp/\g.F0.q=g.q/\g.F0.ev=g.ev/\g.F0.B3=g.B3.drop 1:=by
 cases hz:g.B3 with
 |nil=>rw[JO hz,hz];exact⟨h,λu=>Oth.same (λ_=>rfl) rfl,λu e=>e,rfl,rfl,rfl,rfl⟩
 |cons t r=>
  rw[Mu h.len hz];have b:=h.nodup;rw[hz,QB]at b;have k:LkG c N {g with B3:=r}:=⟨h.len,h.alone,h.task,b.2,λu l=>h.H7 u (by rw[hz];exact Pm _ l),h.n32⟩;have d:=h.H7 t (by rw[hz];simp);have f:c.st+1<c.st+2:=zO;obtain⟨n,o,p,A⟩:=k.ask f d.1 (d.2 _ f) b.1 true;obtain⟨s,v,w,x⟩:=dY {g with B3:=r} ((c.st+1:Nat):Int) t true;have a:=s;refine⟨n,λu=>⟨λm i=>?_,λm i e=>?_,λe=>?_⟩,λu e=>?_,v,w,x,by rw[a];rfl⟩
  ·rw[o u m i,a,hz];by_cases e:u=t
   ·subst e;simp[b.1];rfl
   ·have y:¬(m=c.st+1/\u∈t::r/\u∉r):=by simp[e]
    rw[Oz y,Oz λz=>e z.2];rfl
  ·by_cases j:m=c.st+1/\u=t
   ·exfalso;rw[j.1,j.2]at e;exact e (jV.1 (d.2 _ f)).1
   ·rw[p u m i j];exact e
  ·rw[a]at e;rw[hz];exact Pm _ e
  ·rw[a]at e;exact Pm _ e
def AG(hz:g.B3=[]):g.E2=g:=by
 unfold Gs.E2;obtain⟨a,b,d,e,f,k⟩:=g;simp only at hz;subst hz;rfl
def xN(hz:g.B3=t::r):g.E2=g.F0.E2:=by
 unfold Gs.E2 Gs.F0;rw[hz];rfl
def LkG.E2(k:Nat):∀{g:Gs},g.B3.length=k->LkG c N g->LkG c N g.E2/\(∀u,Oth c g g.E2 u)/\g.E2.B3=[]/\g.E2.mp=g.mp/\g.E2.q=g.q/\g.E2.ev=g.ev:=by
 induction k with
 |zero=>
  intro g a h;have b:=List.length_eq_zero_iff.1 a;rw[AG b];exact⟨h,λu=>Oth.same (λ_=>rfl) rfl,b,rfl,rfl,rfl⟩
 |succ k ih=>
  intro g a h;obtain⟨t,r,b⟩:=Vd (l:=g.B3) (by intro e;rw[e]at a;cases a);rw[xN b];obtain⟨d,f,y,i,j,m,n⟩:=h.F0;obtain⟨o,p,s,v,w,x⟩:=ih (g:=g.F0) (by rw[n];simp;omega) d;exact⟨o,λu=>(f u).trans (p u),s,v.trans i,w.trans j,x.trans m⟩
def LkG.sleep(h:LkG c N g)(ht:0<=t/\t<N)(hh:hdG g t (c.st+1)≠0)(hcl:∀m:Nat,m<c.st+2->clG g t m=if m=c.st+1 then some true else none)(hs:t∉g.B3):
  bS g.ln t=2/\LkG c N (g.sleep t)/\(∀m:Nat,m<c.st+2->clG (g.sleep t) t m=none)/\(∀u,u≠t->Oth c g (g.sleep t) u)/\(g.sleep t).B3=g.B3++[t]/\(g.sleep t).mp=g.mp/\(g.sleep t).q=g.q/\(g.sleep t).ev=g.ev:=by
 have l:c.st+1<c.st+2:=zO;have n:g.lock ((c.st+1:Nat):Int)=g.ln:=by have:=lock_ln h.len;simpa using this
 have o:bS g.ln t=2:=by
  rw[<-n];refine Ga (h.alone _ l) hh ?_;have:=hcl _ l;rw[OB rfl]at this;exact this
 have v:g.sleep t={g.drop ((c.st+1:Nat):Int) t with B3:=g.B3++[t]}:=by
  unfold Gs.sleep;rw[OB o];unfold Gs.drop Gs.E1;rw[n];simp only[PH,h.len,Qn,if_false]
 rw[v];obtain⟨i,p,w⟩:=h.drop (t:=t) l hh;have j:∀m:Nat,m<c.st+2->clG (g.drop ((c.st+1:Nat):Int) t) t m=none:=λm d=>by
  rw[p t m d];by_cases e:m=c.st+1
  ·simp[e]
  ·rw[Oz (λq=>e q.1),hcl m d,Oz e]
 obtain⟨x,y,z,A⟩:=dA g ((c.st+1:Nat):Int) t;refine⟨o,⟨i.len,i.alone,i.task,?_,λu f=>?_,h.n32⟩,j,λu f=>⟨λm d=>?_,λm d e=>w u m d (λq=>f q.2) e,λe=>?_⟩,rfl,y,z,A⟩
 ·show(g.B3++[t]).Nodup;rw[Qa];refine⟨h.nodup,zS,λa B b r e=>?_⟩;simp at r;subst r e;exact hs B
 ·have k:=f;rw[Po]at k
  rcases k with e|e
  ·exact i.H7 u (by rw[x];exact e)
  ·simp at e;subst e;exact⟨ht,j⟩
 ·show clG (g.drop ((c.st+1:Nat):Int) t) u m=if m=c.st+1/\u∈g.B3/\u∉g.B3++[t]then some true else clG g u m
  rw[p u m d,Oz (λq=>f q.2),Oz];rintro⟨_,D,F⟩;exact F (by simp[D])
 ·have s:=e;simp at s;exact s.resolve_right f
end
def dZ(c:Cg)(x:Ci):List Op2:=(aF c x.call).drop x.at_
structure jX(c:Cg)(g:Gs)(x:Ci):Prop where
 nth:x.nth<=x.prog.length
 zero:x.at_=0->∀n:Nat,n<c.st+2->clG g x.task n=none
 rem:x.at_≠0->x.nth<x.prog.length/\okO c (clG g x.task) (dZ c x)/\dZ c x≠[]
 err:x.at_≠0->(∀y∈dZ c x,y.1≠4)->x.rep.err≠0->(∃y∈dZ c x,y.1=6)->∃h:Nat,h<c.st/\dZ c x=(5,(h:Int))::eS c
 waits:∀n:Nat,n<c.st+2->clG g x.task n≠none->hdG g x.task n=0->x.B8=n/\∀m:Nat,m<c.st+2->clG g x.task m≠none->m<=n
 B8:x.B8= -1\/∃n:Nat,x.B8=n/\n<c.st+2/\clG g x.task n≠none
section
variable {c:Cg} {N:Nat} {g g' g2:Gs} {t u:Int} {n m:Nat} {b:Bool} {x:Ci}
def jX.R4(h:jX c g x)(hs:x.task∉g.B3)(ho:Oth c g g' x.task):jX c g' x:=by
 have b:∀m:Nat,m<c.st+2->clG g' x.task m=clG g x.task m:=λm d=>by rw[ho.cl m d,Oz λe=>hs e.2.1]
 refine⟨h.nth,λe n a=>(b n a).trans (h.zero e n a),λe=>?_,h.err,λn a f i=>?_,h.B8.imp id λ⟨n,f,i,l⟩=>⟨n,f,i,by rw[b n i];exact l⟩⟩
 ·obtain⟨j,k,o⟩:=h.rem e;exact⟨j,dj (λn a=>(b n a).symm) k,o⟩
 ·rw[b n a]at f;obtain⟨j,k⟩:=h.waits n a f (Pg λe=>ho.held n a e i);exact⟨j,λm d e=>k m d (by rwa [b m d]at e)⟩
def Ci.G0(hr:x.ready g=true):x.over=false:=by
 unfold Ci.ready at hr
 cases h9:x.over with
 |false=>rfl
 |true=>rw[h9]at hr;cases hr
def Ci.K1(h:x.over=false):x.nth<x.prog.length:=by
 unfold Ci.over at h
 simpa using h
def jX.has(h:jX c g x)(hr:x.ready g=true)(hn:n<c.st+2)(hc:clG g x.task n≠none):hdG g x.task n≠0:=λe=>by
 obtain⟨a,_⟩:=h.waits n hn hc e;unfold Ci.ready at hr;have b:¬(x.B8<0):=zO;have d:g.held x.B8 x.task=0:=by rw[a];exact e
 simp[b,d]at hr
def JP(h0:dZ c x≠[]):dZ c x=(aF c x.call).getD x.at_ (0,0)::(aF c x.call).drop (x.at_+1):=by
 have a:x.at_<(aF c x.call).length:=by
  refine Pg λe=>h0 ?_;unfold dZ;rw[Rc];omega
 unfold dZ;rw[Pu a,OP,OL a];rfl
def oI(l:List Op2)(a k:Nat):l.getD (a+k) (0,0)=(l.drop a).getD k (0,0):=by
 rw[OP,OP,PM]
def xO(ops:List Op2)(a:Nat)(h1:a+1<ops.length)(h2:((ops.drop (a+1)).headD (0,0)).2=lineN c->ops.drop (a+1)=eS c):jP c ops ops.length a=if((ops.drop (a+1)).headD (0,0)).2=lineN c then a+3 else a:=by
 have b:((ops.drop (a+1)).headD (0,0))=ops.getD (a+1) (0,0):=by
  have:=oI ops (a+1) 0;rw[Qt]at this;rw[this]
  cases ops.drop (a+1)<;>rfl
 obtain⟨f,d⟩:∃f,ops.length=f+1:=⟨ops.length-1,zO⟩;rw[d];unfold jP;by_cases e:((ops.drop (a+1)).headD (0,0)).2=lineN c
 ·rw[OB e];have g:=h2 e;rw[b]at e;rw[OB e]
  cases f with
  |zero=>omega
  |succ f=>
   unfold jP;have h:¬(ops.getD (a+3+1) (0,0)).2=lineN c:=by
    have:=oI ops (a+1) 3;rw[show a+1+3=a+3+1 from by omega,g]at this;rw[this];simp[eS,lineN];omega
   rw[Oz h]
 ·rw[Oz e];rw[b]at e;rw[Oz e]
def JQ{cl:Nat->Option Bool}(h:okO c cl (eS c)):okO c cl [(7,0)]:=by
 obtain⟨b,_,_,_,_,_,_,_,_,_,_,_,_,_,_,_,_,_,_,_,d⟩:=h;obtain⟨n,f,k,g,_⟩:=b (.inr rfl);refine⟨zS,zS,zS,zS,zS,λm i=>?_⟩;have j:=d m i;by_cases e:m=n
 ·subst e;simp[stF,g]
 ·have a:¬((m:Int)=lineN c):=λa=>e (by have:(m:Int)=(n:Int):=a.trans f;omega);simpa[stF,a]using j
def xP(g:Gs)(c:Cg)(h:LkG c N g)(y:Cl):LkG c N (g.E6 c y).1/\(∀u,Oth c g (g.E6 c y).1 u)/\(g.E6 c y).1.ev=g.ev:=by
 unfold Gs.E6;simp only;split
 ·have a:LkG c N {g with mp:=(doM c g.mp y).1,q:={g.q with over:=true}}:=h.same rfl rfl rfl;obtain⟨b,d,i,j,k,e⟩:=a.E2 _ rfl;have f:∀u,Oth c g {g with mp:=(doM c g.mp y).1,q:={g.q with over:=true}} u:=λu=>Oth.same (λ_=>rfl) rfl;exact⟨b,λu=>(f u).trans (d u),e⟩
 ·exact⟨h.same rfl rfl rfl,λu=>Oth.same (λ_=>rfl) rfl,rfl⟩
def Dl(h:LkG c N g)(k:K2):LkG c N (g.add k)/\(∀u,Oth c g (g.add k) u)/\(g.add k).ev=g.ev/\(g.add k).mp=g.mp/\(g.add k).q=(g.q.add k).1:=by
 unfold Gs.add;split
 ·have a:LkG c N {g with q:=(g.q.add k).1}:=h.same rfl rfl rfl;have b:∀u,Oth c g {g with q:=(g.q.add k).1} u:=λu=>Oth.same (λ_=>rfl) rfl;obtain⟨d,e,_,f,i,j,_⟩:=a.F0;exact⟨d,λu=>(b u).trans (e u),j,f,i⟩
 ·exact⟨h.same rfl rfl rfl,λu=>Oth.same (λ_=>rfl) rfl,rfl,rfl,rfl⟩
def xQ(h:LkG c N g)(k:K2):LkG c N (g.F6 k)/\(∀u,Oth c g (g.F6 k) u)/\(g.F6 k).ev=g.ev/\(g.F6 k).mp=g.mp/\(g.F6 k).q=(g.q.done k).1:=by
 unfold Gs.F6;split
 ·have a:LkG c N {g with q:=(g.q.done k).1}:=h.same rfl rfl rfl;have b:∀u,Oth c g {g with q:=(g.q.done k).1} u:=λu=>Oth.same (λ_=>rfl) rfl;obtain⟨d,e,_,f,i,j,_⟩:=a.F0;exact⟨d,λu=>(b u).trans (e u),j,f,i⟩
 ·exact⟨h.same rfl rfl rfl,λu=>Oth.same (λ_=>rfl) rfl,rfl,rfl,rfl⟩
def opNow(c:Cg)(x:Ci):Op2:=(aF c x.call).getD x.at_ (0,0)
def fP(c:Cg)(x:Ci):List Op2:=(aF c x.call).drop (x.at_+1)
def tY(h:(opNow c x).1=1):bT c g x=(if aH x.call=0 then g.note (({x with B8:= -1,rep:=.of (aH x.call),at_:=x.at_+1}:Ci).event 1)else(g.note (({x with B8:= -1,rep:=.of (aH x.call),at_:=x.at_+1}:Ci).event 1)).note (({x with B8:= -1,rep:=.of (aH x.call),at_:=x.at_+1}:Ci).event 2),{x with B8:= -1,rep:=.of (aH x.call),at_:=x.at_+1}):=by
 unfold opNow at h;unfold bT;simp only[h,OB]
def pN(h:(opNow c x).1=2\/(opNow c x).1=3):bT c g x=((g.ask (opNow c x).2 x.task (decide ((opNow c x).1=3))).1,{x with B8:=if(g.ask (opNow c x).2 x.task (decide ((opNow c x).1=3))).2=true then -1 else(opNow c x).2,at_:=x.at_+1}):=by
 unfold opNow at*;unfold bT;have a:¬((aF c x.call).getD x.at_ (0,0)).1=1:=zO;simp only[Oz a,OB h]
def tZ(h:(opNow c x).1=4):bT c g x=((g.E6 c x.call).1.note (({x with B8:= -1,rep:=(g.E6 c x.call).2,at_:=x.at_+1}:Ci).event 2),{x with B8:= -1,rep:=(g.E6 c x.call).2,at_:=x.at_+1}):=by
 unfold opNow at h;unfold bT
 dsimp only
 generalize (aF c x.call).getD x.at_ (0,0)=o at*;obtain⟨a,b⟩:=o;simp only at h;subst h;rfl
def ua(h:(opNow c x).1=5):bT c g x=(g.drop (opNow c x).2 x.task,{x with B8:= -1,at_:=(if(opNow c x).2<c.st/\x.rep.err≠0 then jP c (aF c x.call) (aF c x.call).length x.at_ else x.at_)+1}):=by
 unfold opNow at*;unfold bT
 dsimp only
 generalize (aF c x.call).getD x.at_ (0,0)=o at*;obtain⟨a,b⟩:=o;simp only at h;subst h;rfl
def ub(h:(opNow c x).1=6):bT c g x=(g.add (av x.call.id),{x with B8:= -1,at_:=x.at_+1}):=by
 unfold opNow at h;unfold bT
 dsimp only
 generalize (aF c x.call).getD x.at_ (0,0)=o at*;obtain⟨a,b⟩:=o;simp only at h;subst h;rfl
def uc(h:(opNow c x).1=7):bT c g x=(g.note (({x with B8:= -1}:Ci).event 3),{x with B8:= -1,nth:=x.nth+1,at_:=0}):=by
 unfold opNow at h;unfold bT
 dsimp only
 generalize (aF c x.call).getD x.at_ (0,0)=o at*;obtain⟨a,b⟩:=o;simp only at h;subst h;rfl
def jX.place{hc0:c.ok}(h:jX c g x)(ho:x.over=false):dZ c x=opNow c x::fP c x/\((x.at_=0/\opNow c x=(1,0))\/(x.at_≠0/\okO c (clG g x.task) (opNow c x::fP c x))):=by
 by_cases a:x.at_=0
 ·obtain⟨r,e,_⟩:=kC hc0 x.call;have b:opNow c x=(1,0):=by unfold opNow;rw[a,e];rfl
  refine⟨?_,.inl ⟨a,b⟩⟩;rw[b];unfold dZ fP;rw[a,e];rfl
 ·obtain⟨i,d,f⟩:=h.rem a;have:=JP f;exact⟨this,.inr ⟨a,by rw[this]at d;exact d⟩⟩
def jX.quiet(h:jX c g x)(hlk:LkG c N g)(hr:x.ready g=true)(hs:x.task∉g.B3)(ho:Oth c g g' x.task)(a:Nat)(rp:Rp)(h0:x.at_≠0)(hok:okO c (clG g x.task) ((aF c x.call).drop a))(hne:(aF c x.call).drop a≠[])(ha:a≠0)
  (herr:(∀y∈(aF c x.call).drop a,y.1≠4)->rp.err≠0->(∃y∈(aF c x.call).drop a,y.1=6)->∃h:Nat,h<c.st/\(aF c x.call).drop a=(5,(h:Int))::eS c):jX c g' {x with B8:= -1,rep:=rp,at_:=a}:=by
 have d:∀m:Nat,m<c.st+2->clG g' x.task m=clG g x.task m:=λm i=>by rw[ho.cl m i,Oz λe=>hs e.2.1]
 refine⟨h.nth,λe=>absurd e ha,λ_=>⟨(h.rem h0).1,dj (λn b=>(d n b).symm) hok,hne⟩,λ_=>herr,λn b j k=>?_,.inl rfl⟩;have f:clG g x.task n≠none:=by rw[<-d n b];exact j
 exact absurd k (ho.held n b (h.has hr b f))
def JR{hc0:c.ok}(hlk:LkG c N g)(h:jX c g x)(ht:0<=x.task/\x.task<N)(hs:x.task∉g.B3)(hr:x.ready g=true):
  LkG c N (bT c g x).1/\jX c (bT c g x).1 (bT c g x).2/\(∀u,u≠x.task->Oth c g (bT c g x).1 u)/\(bT c g x).2.task=x.task/\(bT c g x).2.prog=x.prog/\(∀u,u∈(bT c g x).1.B3->u∈g.B3):=by
 have ho:=Ci.G0 hr;obtain⟨d,az⟩:=h.place (hc0:=hc0) ho;have H:=Ci.K1 ho
 rcases az with⟨z,a0⟩|⟨z,a4⟩
 ·have l:(opNow c x).1=1:=by rw[a0]
  rw[tY l];obtain⟨r,e,P,q2,q3,q4,q5,_⟩:=kC hc0 x.call;have Q:(aF c x.call).drop (x.at_+1)=r:=by rw[z,e];rfl
  have hg:∀s p:Vt,∀R,(R=if aH x.call=0 then g.note s else(g.note s).note p)->LkG c N R/\(∀u,Oth c g R u)/\R.B3=g.B3:=λs p R e=>by
   subst e;split
   ·exact⟨hlk.same rfl rfl rfl,λu=>Oth.same (λ_=>rfl) rfl,rfl⟩
   ·exact⟨hlk.same rfl rfl rfl,λu=>Oth.same (λ_=>rfl) rfl,rfl⟩
  obtain⟨t,i,D⟩:=hg _ _ _ rfl;refine⟨t,?_,λu _=>i u,rfl,rfl,λu k=>D▸k⟩;have a6:=h.zero z;have S:=λm (j:m<c.st+2)=>((i x.task).cl m j).trans (by rw[Oz (λe=>hs e.2.1),a6 m j]);refine⟨h.nth,λe=>absurd e (PU _),λ_=>⟨H,?_,?_⟩,λ_=>?_,λn v l L=>absurd (S n v) l,.inl rfl⟩
  ·show okO c _ ((aF c x.call).drop (x.at_+1));rw[Q];exact dj (λn v=>(S n v).symm) P
  ·show(aF c x.call).drop (x.at_+1)≠[];rw[Q];by_cases hz:aH x.call=0
   ·obtain⟨y,b,_⟩:=q5 hz;exact List.ne_nil_of_mem b
   ·rw[q4 hz];simp
  ·show(∀y∈(aF c x.call).drop (x.at_+1),y.1≠4)->aH x.call≠0->(∃y∈(aF c x.call).drop (x.at_+1),y.1=6)->_;rw[Q];intro _ hz h6;exact absurd (q3 h6).2 hz
 ·obtain⟨p1,p2,p3,p4,p5,F⟩:=a4;have f:(opNow c x).1=2\/(opNow c x).1=3\/(opNow c x).1=4\/(opNow c x).1=5\/(opNow c x).1=6\/(opNow c x).1=7:=zO;have hrest:(aF c x.call).drop (x.at_+1)=fP c x:=rfl;have A:(opNow c x).1≠7->fP c x≠[]:=λe p=>e (p5.2 p)
  rcases f with f|f|f|f|f|f
  iterate 2
   ·have B:(opNow c x).1=2\/(opNow c x).1=3:=zO;obtain⟨n,s,p,e3,e4⟩:=p1 B;rw[pN B,s];obtain⟨t,i,D,k4⟩:=hlk.ask p ht e3 hs (decide ((opNow c x).1=3));have T:∀m:Nat,m<c.st+2->stF (clG g x.task) (opNow c x) m=clG (g.ask n x.task (decide ((opNow c x).1=3))).1 x.task m:=λm j=>by
     rw[i _ m j];unfold stF;rw[s];by_cases e:m=n
     ·subst e;simp[B]
     ·have U:¬((m:Int)=n):=zO;have X:¬(opNow c x).1=5:=zO;simp[e,U,X]
    refine⟨t,⟨h.nth,λe=>absurd e (PU _),λ_=>⟨H,?_,?_⟩,λ_=>?_,λm j l L=>?_,?_⟩,λu k=>hlk.M3 p ht e3 hs _ k,rfl,rfl,λu k=>(dY g n x.task (decide ((opNow c x).1=3))).1▸k⟩
    ·exact dj T F
    ·exact A zO
    ·show(∀y∈fP c x,y.1≠4)->x.rep.err≠0->(∃y∈fP c x,y.1=6)->_;intro a1 O ⟨y,b,a3⟩;exfalso;obtain⟨h',_,o⟩:=h.err z (by
      rw[d];intro y b;rw[Pj]at b
      rcases b with rfl|b
      ·omega
      ·exact a1 y b) O ⟨y,by rw[d];exact Pm _ b,a3⟩
     rw[d]at o;injection o with o _;rw[o]at B
     rcases B with q|q<;>cases q
    ·by_cases e:m=n
     ·subst e;have ba:(g.ask (m:Int) x.task (decide ((opNow c x).1=3))).2≠true:=λq=>k4.2 q L;refine⟨Oz ba,λm' aj bb=>?_⟩;by_cases U:m'=m
      ·omega
      ·have ak:=bb;rw[i _ m' aj,Oz λq=>U q.1]at ak;exact RD (e4 m' aj ak)
     ·exfalso;have al:=l;rw[i _ m j,Oz λq=>e q.1]at al;have am:=L;rw[D _ m j λq=>e q.1]at am;exact h.has hr j al am
    ·by_cases q:(g.ask (n:Int) x.task (decide ((opNow c x).1=3))).2=true
     ·left;exact OB q
     ·right
      refine⟨n,Oz q,p,?_⟩;show clG (g.ask (n:Int) x.task (decide ((opNow c x).1=3))).1 x.task n≠none;rw[i _ n p];simp
  ·rw[tZ f];obtain⟨t,i,D⟩:=xP g c hlk x.call;have hO:∀u,Oth c g ((g.E6 c x.call).1.note (({x with B8:= -1,rep:=(g.E6 c x.call).2,at_:=x.at_+1}:Ci).event 2)) u:=λu=>(i u).trans (Oth.same (λ_=>rfl) rfl);refine⟨t.same rfl rfl rfl,h.quiet hlk hr hs (hO _) _ _ z (dj (λn v=>by unfold stF;rw[Oz zO,Oz zO]) F) (A zO) (PU _) (λ_ _ q=>(p3 (.inl f)).2 q),λu _=>hO u,rfl,rfl,λu k=>(hO u).H7 k⟩
  ·obtain⟨n,s,p,e3,e4,X⟩:=p2 f;rw[ua f,s];have an:=h.has hr p e3;obtain⟨t,i,D⟩:=hlk.drop p an;have T:∀m:Nat,m<c.st+2->stF (clG g x.task) (opNow c x) m=clG (g.drop n x.task) x.task m:=λm j=>by
    rw[i _ m j];unfold stF;rw[s];by_cases e:m=n
    ·subst e;simp[f]
    ·have U:¬((m:Int)=n):=zO;simp[e,U]
   have w:=dj T F;have ai:∀m:Nat,m<c.st+2->clG (g.drop n x.task) x.task m≠none->hdG (g.drop n x.task) x.task m≠0:=λm j l=>by
    by_cases e:m=n
    ·rw[i _ m j,OB ⟨e,rfl⟩]at l;exact absurd rfl l
    ·rw[i _ m j,Oz λq=>e q.1]at l;exact D _ m j (λq=>e q.1) (h.has hr j l)
   have G:∀a,a≠0->okO c (clG (g.drop n x.task) x.task) ((aF c x.call).drop a)->(aF c x.call).drop a≠[]->((∀y∈(aF c x.call).drop a,y.1≠4)->x.rep.err≠0->(∃y∈(aF c x.call).drop a,y.1=6)->∃h:Nat,h<c.st/\(aF c x.call).drop a=(5,(h:Int))::eS c)->jX c (g.drop n x.task) {x with B8:= -1,at_:=a}:=λa ha P q2 q3=>
    ⟨h.nth,λe=>absurd e ha,λ_=>⟨H,P,q2⟩,λ_=>q3,λm j l L=>absurd L (ai m j l),.inl rfl⟩
   refine⟨t,?_,λu k=>hlk.L5 p an k,rfl,rfl,λu k=>(dA g n x.task).1▸k⟩;by_cases ab:(n:Int)<(c.st:Int)/\x.rep.err≠0
   ·rw[OB ab];have aw:x.at_+1<(aF c x.call).length:=by
     refine Pg λe=>e4 ?_;unfold fP;rw[Rc];omega
    rw[xO _ _ aw λe=>X (.inr e)];by_cases hl:((fP c x).headD (0,0)).2=lineN c
    ·have ad:(((aF c x.call).drop (x.at_+1)).headD (0,0)).2=lineN c:=hl;rw[OB ad];have ao:=X (.inr hl);have ae:(aF c x.call).drop (x.at_+3+1)=[(7,0)]:=by
      rw[show x.at_+3+1=x.at_+1+3 from by omega,<-Rs,hrest,ao];rfl
     refine G _ (PU _) ?_ (by rw[ae];simp) ?_
     ·rw[ae];rw[ao]at w;exact JQ w
     ·rw[ae];rintro _ _ ⟨y,b,e⟩;simp at b;subst b
      cases e
    ·have ad:¬(((aF c x.call).drop (x.at_+1)).headD (0,0)).2=lineN c:=hl;rw[Oz ad];refine G _ (PU _) w (A zO) ?_;rintro _ _ q;have:=X (.inl q);rw[this]at hl;exact absurd rfl hl
   ·rw[Oz ab];refine G _ (PU _) w (A zO) ?_;intro a1 O ⟨y,b,a3⟩;exfalso;obtain⟨h',P,o⟩:=h.err z (by
     rw[d];intro y b;rw[Pj]at b
     rcases b with rfl|b
     ·omega
     ·exact a1 y b) O ⟨y,by rw[d];exact Pm _ b,a3⟩
    rw[d]at o;injection o with o _;rw[o]at s;exact ab ⟨by simp at s;omega,O⟩
  ·rw[ub f];obtain⟨t,i,D,k4,k5⟩:=Dl hlk (av x.call.id);refine⟨t,h.quiet hlk hr hs (i _) _ x.rep z (dj (λn v=>by unfold stF;rw[Oz zO,Oz zO]) F) (A zO) (PU _) ?_,λu _=>i u,rfl,rfl,λu k=>(i u).H7 k⟩;intro a1 O a3;exfalso;obtain⟨h',P,o⟩:=h.err z (by
    rw[d];intro y b;rw[Pj]at b
    rcases b with rfl|b
    ·omega
    ·exact a1 y b) O ⟨opNow c x,by rw[d];exact Qc,f⟩
   rw[d]at o;injection o with o _;rw[o]at f
   cases f
  ·rw[uc f];have ax:=p5.1 f;rw[ax]at F;refine⟨hlk.same rfl rfl rfl,⟨H,λ_ n v=>?_,λe=>absurd rfl e,λe=>absurd rfl e,λn v l L=>?_,.inl rfl⟩,λu _=>Oth.same (λ_=>rfl) rfl,rfl,rfl,λu k=>k⟩
   ·have:=F n v;unfold stF at this;rw[Oz zO,Oz zO]at this;exact this
   ·have:=F n v;unfold stF at this;rw[Oz zO,Oz zO]at this;exact absurd this l
end
def cS(c:Cg)(g:Gs)(x:Wi)(n:Nat):Option Bool:=
 if x.B6=1 then(if n=c.st+1/\¬(x.B3=true/\x.task∈g.B3)then some true else none)
 else if x.B6=2\/x.B6=11\/x.B6=12\/x.B6=14 then(if n=c.st+1 then some true else none)
 else if x.B6=4\/x.B6=5 then(if(n:Int)=x.home c then some false else none)
 else if x.B6=8\/x.B6=9 then(if(n:Int)=x.home c then some true else none)
 else none
structure lF(c:Cg)(g:Gs)(x:Wi):Prop where
 cl:∀n:Nat,n<c.st+2->clG g x.task n=cS c g x n
 waits:∀n:Nat,n<c.st+2->clG g x.task n≠none->hdG g x.task n=0->x.B8=n\/(x.B3=true/\n=c.st+1)
 B8:x.B8= -1\/∃n:Nat,x.B8=n/\n<c.st+2/\clG g x.task n≠none
 T0:x.B3=true->x.B6=1/\x.B8= -1
 H7:x.task∈g.B3->x.B3=true
 B6:x.B6<=14
section
variable {c:Cg} {N:Nat} {g g' g2:Gs} {t u:Int} {n m:Nat} {b:Bool} {x:Wi}
def lF.R4(h:lF c g x)(hlk:LkG c N g)(ho:Oth c g g' x.task):lF c g' x:=by
 have j:∀m:Nat,m<c.st+2->clG g x.task m≠none->clG g' x.task m≠none:=λm p f=>by
  rw[ho.cl m p];split
  ·simp
  ·exact f
 refine⟨λn b=>?_,λn b f r=>?_,h.B8.imp id λ⟨n,s,k,t⟩=>⟨n,s,k,j n k t⟩,h.T0,λe=>h.H7 (ho.H7 e),h.B6⟩
 ·rw[ho.cl n b,h.cl n b];by_cases e:n=c.st+1/\x.task∈g.B3/\x.task∉g'.B3
  ·rw[OB e];have d:=(h.T0 (h.H7 e.2.1)).1;unfold cS;rw[OB d,OB ⟨e.1,λq=>e.2.2 q.2⟩]
  ·rw[Oz e];unfold cS;by_cases d:x.B6=1
   ·rw[OB d,OB d];by_cases a:n=c.st+1
    ·by_cases i:x.B3=true/\x.task∈g.B3
     ·have l:=Pg λq=>e ⟨a,i.2,q⟩;rw[Oz (λq=>q.2 i),Oz λq=>q.2 ⟨i.1,l⟩]
     ·rw[OB ⟨a,i⟩,OB ⟨a,λq=>i ⟨q.1,ho.H7 q.2⟩⟩]
    ·rw[Oz (λq=>a q.1),Oz λq=>a q.1]
   ·rw[Oz d,Oz d]
 ·by_cases o:clG g x.task n=none
  ·rw[ho.cl n b]at f;by_cases e:n=c.st+1/\x.task∈g.B3/\x.task∉g'.B3
   ·exact .inr ⟨h.H7 e.2.1,e.1⟩
   ·rw[Oz e]at f;exact absurd o f
  ·exact h.waits n b o (Pg λe=>ho.held n b e r)
def Wi.G1(hr:x.ready c g=true):x.B6≠13:=λe=>by
 unfold Wi.ready Wi.over at hr;simp[e]at hr
def lF.has(h:lF c g x)(hlk:LkG c N g)(hr:x.ready c g=true)(hn:n<c.st+2)(hc:clG g x.task n≠none):hdG g x.task n≠0:=λe=>by
 unfold Wi.ready at hr;rw[OY]at hr;have a:=hr.2;by_cases b:x.B3=true
 ·rw[OB b]at a;have d:=(h.T0 b).1;rw[h.cl n hn]at hc;unfold cS at hc;rw[OB d]at hc;have f:=Pg λq=>hc (Oz λi=>q i.1);subst f;have j:g.held (lineN c) x.task=0:=by rw[cW];exact e
  simp[j]at a
 ·rw[Oz b]at a
  rcases h.waits n hn hc e with q|q
  ·have k:g.held x.B8 x.task=0:=by rw[q];exact e
   have l:¬(x.B8<0):=zO;simp[k,l]at a
  ·exact b q.1
def lF.M4(h:lF c g x)(hlk:LkG c N g)(hr:x.ready c g=true):x.task∉g.B3:=λa=>by
 have d:=h.H7 a;unfold Wi.ready at hr;rw[OY,OB d]at hr;have b:g.held (lineN c) x.task≠0:=by simpa using hr.2
 rw[cW]at b;exact Dj b ((hlk.H7 _ a).2 _ zO)
abbrev Wi.y(x:Wi):Wi:={x with B8:= -1,B3:=false}
def qo(h:x.B6=0):aM c g x=ic g x.y (lineN c) true 1:=by unfold aM;simp only[h];rfl
def mz(h:x.B6=1)(hl:g.q.line=[]):aM c g x=if g.q.over=true then(g,{x.y with B6:=12})else(g.sleep x.task,{x with B8:= -1,B3:=true,B6:=1}):=by
 have:g.q.get=(g.q,none):=by unfold Qm.get;rw[hl]
 unfold aM;simp only[h,this];rfl
def oJ(h:x.B6=1){r:List K2}(hl:g.q.line=k::r):aM c g x=({g with q:={g.q with line:=r,C5:=ib g.q.C5 k,busy:=fu g.q.busy k}}.note (({x.y with key:=k,B6:=2}:Wi).event 4),{x.y with key:=k,B6:=2}):=by
 have:g.q.get=({g.q with line:=r,C5:=ib g.q.C5 k,busy:=fu g.q.busy k},some k):=by unfold Qm.get;rw[hl]
 unfold aM;simp only[h,this];rfl
def qp(h:x.B6=2):aM c g x=(g.drop (lineN c) x.task,{x.y with B6:=3}):=by unfold aM;simp only[h];rfl
def qr(h:x.B6=3):aM c g x=ic g x.y (x.home c) false 4:=by unfold aM;simp only[h];rfl
def qt(h:x.B6=4):aM c g x=(g.note (({x.y with D9:=(ap g.mp.ls x.key).getD .new,B6:=5}:Wi).event 5),{x.y with D9:=(ap g.mp.ls x.key).getD .new,B6:=5}):=by unfold aM;simp only[h];rfl
def qu(h:x.B6=5):aM c g x=(g.drop (x.home c) x.task,{x.y with B6:=6}):=by unfold aM;simp only[h];rfl
def qw(h:x.B6=6):aM c g x=if x.D9.E9=true/\fW x.D9.D8 x.D9.D2=0 then(g,{x.y with E0:=od x.D9.D8 x.D9.D2 x.D9.C0,B6:=7})else(g,{x.y with B6:=10}):=by unfold aM;simp only[h];rfl
def qy(h:x.B6=7):aM c g x=ic g x.y (x.home c) true 8:=by unfold aM;simp only[h];rfl
def qz(h:x.B6=8):aM c g x=({g with mp:=(eo c g.mp x.key x.E0).1}.note (({x.y with B6:=9}:Wi).event 6),{x.y with B6:=9}):=by unfold aM;simp only[h];rfl
def qA(h:x.B6=9):aM c g x=(g.drop (x.home c) x.task,{x.y with B6:=10}):=by unfold aM;simp only[h];rfl
def oK(h:x.B6=10):aM c g x=ic g x.y (lineN c) true 11:=by unfold aM;simp only[h];rfl
def oL(h:x.B6=11):aM c g x=((g.note (x.y.event 7)).F6 x.key,{x.y with done:=x.done+1,B6:=14}):=by unfold aM;simp only[h];rfl
def oM(h:x.B6=12):aM c g x=(g.drop (lineN c) x.task,{x.y with B6:=13}):=by unfold aM;simp only[h];rfl
def oN(h:x.B6=14):aM c g x=(g.drop (lineN c) x.task,{x.y with B6:=0}):=by unfold aM;simp only[h];rfl
def xR(c:Cg)(N:Nat)(g:Gs)(x:Wi)(r:Gs×Wi):Prop:=LkG c N r.1/\lF c r.1 r.2/\(∀u,u≠x.task->Oth c g r.1 u)/\r.2.task=x.task/\(r.1.B3=g.B3\/(∀u,u∈r.1.B3->u∈g.B3\/(u=x.task/\r.2.B3=true)))
def Dm(hlk:LkG c N g)(ht:0<=x.task/\x.task<N)(hs:x.task∉g.B3)(hno:∀m:Nat,m<c.st+2->clG g x.task m=none)(lk:Int)(hln:lk=n)(hn:n<c.st+2)(b:Bool)(d:Nat)(hd:d<=14)
  (hcl:∀(g':Gs) (y:Wi),y.B6=d->y.B3=false->y.key=x.key->∀m:Nat,cS c g' y m=if m=n then some b else none):xR c N g x (ic g x.y lk b d):=by
 subst hln;obtain⟨k,f,s,l⟩:=hlk.ask hn ht (hno n hn) hs b;have h:(ic g x.y (n:Int) b d).1=(g.ask (n:Int) x.task b).1:=rfl;have i:(ic g x.y (n:Int) b d).2={x.y with B8:=if(g.ask (n:Int) x.task b).2=true then -1 else(n:Int),B6:=d}:=rfl;unfold xR;rw[h,i];refine⟨k,⟨λm a=>?_,λm a o p=>?_,?_,(λe=>by cases e),λe=>?_,hd⟩,λu r=>hlk.M3 hn ht (hno n hn) hs b r,rfl,.inl (dY _ _ _ _).1⟩
 ·refine Eq.trans ?_ (Eq.symm (hcl _ {x.y with B8:=if(g.ask (n:Int) x.task b).2=true then -1 else(n:Int),B6:=d} rfl rfl rfl m));show clG (g.ask (n:Int) x.task b).1 x.task m=_;rw[f _ m a,hno m a];simp
 ·left
  by_cases e:m=n
  ·subst e;exact Oz λq=>l.2 q p
  ·have j:=o;rw[f _ m a,Oz (λq=>e q.1),hno m a]at j;exact absurd rfl j
 ·by_cases q:(g.ask (n:Int) x.task b).2=true
  ·left;exact OB q
  ·right
   refine⟨n,Oz q,hn,?_⟩;show clG (g.ask (n:Int) x.task b).1 x.task n≠none;rw[f _ n hn];simp
 ·exfalso;rw[(dY _ _ _ _).1]at e;exact hs e
def sX(hlk:LkG c N g)(h:lF c g x)(hr:x.ready c g=true)(lk:Int)(hln:lk=n)(hn:n<c.st+2)(b:Bool)(hcl:∀m:Nat,m<c.st+2->clG g x.task m=if m=n then some b else none)(y:Wi)(hy:y={x.y with B6:=y.B6})(hd:y.B6<=14)
  (hcl2:∀(g':Gs) (m:Nat),cS c g' y m=none):xR c N g x (g.drop lk x.task,y):=by
 subst hln;have f:=h.has hlk hr hn (by rw[hcl n hn];simp);obtain⟨l,o,s⟩:=hlk.drop hn f;have i:∀m:Nat,m<c.st+2->clG (g.drop (n:Int) x.task) x.task m=none:=λm a=>by
  rw[o _ m a,hcl m a];by_cases e:m=n<;>simp[e]
 have d:y.task=x.task:=by rw[hy]
 have p:y.B8= -1:=by rw[hy]
 have q:y.B3=false:=by rw[hy]
 refine⟨l,⟨λm a=>?_,λm a j t=>?_,.inl p,λe=>?_,λe=>?_,hd⟩,λu r=>hlk.L5 hn f r,d,.inl (dA _ _ _).1⟩
 ·rw[d,hcl2];exact i m a
 ·rw[d]at j;exact absurd (i m a) j
 ·rw[q]at e;cases e
 ·exfalso;rw[d]at e;have k:=e;rw[(dA _ _ _).1]at k;exact h.M4 hlk hr k
def mA(hlk:LkG c N g)(h:lF c g x)(hr:x.ready c g=true)(hlk':LkG c N g')(ho:∀u,Oth c g g' u)(y:Wi)(ht:y.task=x.task)(hw:y.B8= -1)(ha:y.B3=false)(hd:y.B6<=14)
  (hcl2:∀(m:Nat),m<c.st+2->cS c g' y m=cS c g x m):xR c N g x (g',y):=by
 have d:=h.M4 hlk hr;have b:∀m:Nat,m<c.st+2->clG g' x.task m=clG g x.task m:=λm a=>by rw[(ho _).cl m a,Oz λe=>d e.2.1]
 refine⟨hlk',⟨λm a=>?_,λm a f i=>?_,.inl hw,λe=>?_,λe=>?_,hd⟩,λu _=>ho u,ht,.inr λu k=>.inl ((ho u).H7 k)⟩
 ·rw[ht,hcl2 m a,<-h.cl m a];exact b m a
 ·exfalso;rw[ht]at f i;have j:clG g x.task m≠none:=by rw[<-b m a];exact f
  exact(ho _).held m a (h.has hlk hr a j) i
 ·rw[ha]at e;cases e
 ·exfalso;rw[ht]at e;exact d ((ho _).H7 e)
def JS{hc0:c.ok}(hlk:LkG c N g)(h:lF c g x)(ht:0<=x.task/\x.task<N)(hr:x.ready c g=true):xR c N g x (aM c g x):=by
 have z:=h.M4 hlk hr;have hd:=h.B6;have ab:=Wi.G1 hr;have v:c.st+1<c.st+2:=zO;obtain⟨l,p,ai⟩:∃l:Nat,x.home c=l/\l<c.st:=⟨homeN c x.key,cy hc0 _,cJ hc0 _⟩;have H:∀(y:Wi),y.key=x.key->y.home c=l:=λy e=>by unfold Wi.home;rw[e];exact p
 have s:∀(m:Nat) (o:Option Bool),(if(m:Int)=(l:Int)then o else none)=if m=l then o else none:=λm o=>by
  by_cases q:m=l
  ·simp[q]
  ·have:¬((m:Int)=l):=zO;simp[q,this]
 have f:(x.B6=0\/x.B6=3\/x.B6=6\/x.B6=7\/x.B6=10)->∀m:Nat,m<c.st+2->clG g x.task m=none:=λe m a=>by
  rw[h.cl m a];unfold cS;rw[Oz zO,Oz zO,Oz zO,Oz zO]
 have d:(x.B6=1\/x.B6=2\/x.B6=11\/x.B6=12\/x.B6=14)->∀m:Nat,m<c.st+2->clG g x.task m=if m=c.st+1 then some true else none:=λe m a=>by
  rw[h.cl m a];unfold cS;by_cases B:x.B6=1
  ·rw[OB B];by_cases t:m=c.st+1
   ·rw[OB t,OB ⟨t,λq=>z q.2⟩]
   ·rw[Oz t,Oz λq=>t q.1]
  ·rw[Oz B,OB zO]
 have L:(x.B6=4\/x.B6=5)->∀m:Nat,m<c.st+2->clG g x.task m=if m=l then some false else none:=λe m a=>by
  rw[h.cl m a];unfold cS;rw[Oz zO,Oz zO,OB e,p,s]
 have O:(x.B6=8\/x.B6=9)->∀m:Nat,m<c.st+2->clG g x.task m=if m=l then some true else none:=λe m a=>by
  rw[h.cl m a];unfold cS;rw[Oz zO,Oz zO,Oz zO,OB e,p,s]
 have D:∀(b:Gs) (y:Wi),(y.B6=1/\y.B3=false\/y.B6=2\/y.B6=11\/y.B6=12\/y.B6=14)->∀m:Nat,cS c b y m=if m=c.st+1 then some true else none:=λb y e m=>by
  unfold cS;by_cases B:y.B6=1
  ·rw[OB B];have e3:y.B3=false:=by rcases e with e|e|e|e|e;exact e.2;all_goals omega
   by_cases t:m=c.st+1
   ·rw[OB t,OB ⟨t,λq=>by rw[e3]at q;cases q.1⟩]
   ·rw[Oz t,Oz λq=>t q.1]
  ·rw[Oz B,OB (by rcases e with e|e|e|e|e<;>omega)]
 have S:∀(b:Gs) (y:Wi),(y.B6=4\/y.B6=5)->y.key=x.key->∀m:Nat,cS c b y m=if m=l then some false else none:=λb y e Q m=>by
  unfold cS;rw[Oz zO,Oz zO,OB e,H y Q,s]
 have T:∀(b:Gs) (y:Wi),(y.B6=8\/y.B6=9)->y.key=x.key->∀m:Nat,cS c b y m=if m=l then some true else none:=λb y e Q m=>by
  unfold cS;rw[Oz zO,Oz zO,Oz zO,OB e,H y Q,s]
 have w:∀(b:Gs) (y:Wi),(y.B6=0\/y.B6=3\/y.B6=6\/y.B6=7\/y.B6=10\/y.B6=13)->∀m:Nat,cS c b y m=none:=λb y e m=>by
  unfold cS;rw[Oz zO,Oz zO,Oz zO,Oz zO]
 have n:∀b:Gs,b.E4=g.E4->b.ln=g.ln->b.B3=g.B3->LkG c N b/\∀u,Oth c g b u:=λb i j A=>⟨hlk.same i j A,λu=>Oth.same (λm=>by unfold Gs.lock;rw[i,j]) A⟩;have G:x.B6=0\/x.B6=1\/x.B6=2\/x.B6=3\/x.B6=4\/x.B6=5\/x.B6=6\/x.B6=7\/x.B6=8\/x.B6=9\/x.B6=10\/x.B6=11\/x.B6=12\/x.B6=14:=zO
 rcases G with e|e|e|e|e|e|e|e|e|e|e|e|e|e
 ·rw[qo e];exact Dm hlk ht z (f zO) _ (cW c) v true 1 zO λb y i j _=>D b y (.inl ⟨i,j⟩)
 ·cases hq:g.q.line with
  |nil=>
   rw[mz e hq];by_cases P:g.q.over=true
   ·rw[OB P];exact mA hlk h hr hlk (λu=>Oth.same (λ_=>rfl) rfl) _ rfl rfl rfl (by show 12<=14;omega) λm a=>by
     rw[D g _ (by right;right;right;left;rfl),<-h.cl m a,d zO m a]
   ·rw[Oz P];obtain⟨U,R,X,k4,k5,k6,k7,k8⟩:=hlk.sleep ht (h.has hlk hr v (by rw[d zO _ v];simp)) (λm a=>by rw[d zO m a]) z;refine⟨R,⟨λm a=>?_,λm a h1 h2=>absurd (X m a) h1,.inl rfl,λ_=>⟨rfl,rfl⟩,λ_=>rfl,by show 1<=14;omega⟩,k4,rfl,.inr λu hu=>?_⟩
    ·rw[show clG (g.sleep x.task) _ m=none from X m a];unfold cS;rw[OB rfl,Oz];rintro⟨_,q⟩;exact q ⟨rfl,by rw[k5];simp⟩
    ·have F:=hu;rw[k5]at F;simp at F
     rcases F with q|q
     ·exact .inl q
     ·exact .inr ⟨q,rfl⟩
  |cons k r=>
   rw[oJ e hq];obtain⟨i,j⟩:=n ({g with q:={g.q with line:=r,C5:=ib g.q.C5 k,busy:=fu g.q.busy k}}.note (({x.y with key:=k,B6:=2}:Wi).event 4)) rfl rfl rfl;exact mA hlk h hr i j _ rfl rfl rfl (by show 2<=14;omega) λm a=>by
    rw[D _ _ (by right;left;rfl),<-h.cl m a,d zO m a]
 ·rw[qp e];exact sX hlk h hr _ (cW c) v true (d zO) _ rfl (by show 3<=14;omega) λb m=>w b _ (by right;left;rfl) m
 ·rw[qr e];exact Dm hlk ht z (f zO) _ p zO false 4 zO λb y i j A=>S b y (.inl i) A
 ·rw[qt e];obtain⟨i,j⟩:=n (g.note (({x.y with D9:=(ap g.mp.ls x.key).getD .new,B6:=5}:Wi).event 5)) rfl rfl rfl;exact mA hlk h hr i j _ rfl rfl rfl (by show 5<=14;omega) λm a=>by
   rw[S _ _ (by right;rfl) zF,<-h.cl m a,L zO m a]
 ·rw[qu e];exact sX hlk h hr _ p zO false (L zO) _ rfl (by show 6<=14;omega) λb m=>w b _ (by right;right;left;rfl) m
 ·rw[qw e];split
  ·exact mA hlk h hr hlk (λu=>Oth.same (λ_=>rfl) rfl) _ rfl rfl rfl (by show 7<=14;omega) λm a=>by
    rw[w _ _ (by right;right;right;left;rfl),<-h.cl m a,f zO m a]
  ·exact mA hlk h hr hlk (λu=>Oth.same (λ_=>rfl) rfl) _ rfl rfl rfl (by show 10<=14;omega) λm a=>by
    rw[w _ _ (by right;right;right;right;left;rfl),<-h.cl m a,f zO m a]
 ·rw[qy e];exact Dm hlk ht z (f zO) _ p zO true 8 zO λb y i j A=>T b y (.inl i) A
 ·rw[qz e];obtain⟨i,j⟩:=n ({g with mp:=(eo c g.mp x.key x.E0).1}.note (({x.y with B6:=9}:Wi).event 6)) rfl rfl rfl;exact mA hlk h hr i j _ rfl rfl rfl (by show 9<=14;omega) λm a=>by
   rw[T _ _ (by right;rfl) zF,<-h.cl m a,O zO m a]
 ·rw[qA e];exact sX hlk h hr _ p zO true (O zO) _ rfl (by show 10<=14;omega) λb m=>w b _ (by right;right;right;right;left;rfl) m
 ·rw[oK e];exact Dm hlk ht z (f zO) _ (cW c) v true 11 zO λb y i j _=>D b y (by right;right;left;exact i)
 ·rw[oL e];obtain⟨b1,b2⟩:=n (g.note (x.y.event 7)) rfl rfl rfl;obtain⟨U,R,_⟩:=xQ b1 x.key;exact mA hlk h hr U (λu=>(b2 u).trans (R u)) _ rfl rfl rfl (by show 14<=14;omega) λm a=>by
   rw[D _ _ (by right;right;right;right;rfl),<-h.cl m a,d zO m a]
 ·rw[oM e];exact sX hlk h hr _ (cW c) v true (d zO) _ rfl (by show 13<=14;omega) λb m=>w b _ (by right;right;right;right;right;rfl) m
 ·rw[oN e];exact sX hlk h hr _ (cW c) v true (d zO) _ rfl (by show 0<=14;omega) λb m=>w b _ (by left;rfl) m
end
structure lG(c:Cg)(e:En):Prop where
 lk:LkG c e.count e.g
 J0:∀(i:Nat) x,e.cs[i]?=some x->x.task=i
 I4:∀(j:Nat) x,e.ws[j]?=some x->x.task=e.cs.length+j
 I1:∀(i:Nat) x,e.cs[i]?=some x->jX c e.g x
 Q1:∀(j:Nat) x,e.ws[j]?=some x->lF c e.g x
 H7:∀u∈e.g.B3,∃(j:Nat) (x:Wi),e.ws[j]?=some x/\x.task=u
def cz{α:Type}{l:List α}{i:Nat}{x:α}(h:l[i]?=some x):i<l.length:=by
 rw[OZ]at h;exact h.1
def dp{α:Type}{l:List α}{i j:Nat}{x y:α}(h:(l.set i x)[j]?=some y)(hi:i<l.length):(j=i/\y=x)\/(j≠i/\l[j]?=some y):=by
 rw[Qo]at h;by_cases e:i=j
 ·subst e;rw[OB rfl,OB hi]at h;injection h with h;exact .inl ⟨rfl,h.symm⟩
 ·rw[Oz e]at h;exact .inr ⟨Pc e,h⟩
section
variable {c:Cg} {e e':En} {i j t:Nat}
def Dn{x:Ci}(hx:e.cs[t]?=some x):e.go c t={e with g:=(bT c e.g x).1,cs:=e.cs.set t (bT c e.g x).2,used:=e.used+1}:=by
 unfold En.go;rw[OB (cz hx)];simp only[hx]
def Do{x:Wi}(hx:e.ws[j]?=some x):e.go c (e.cs.length+j)={e with g:=(aM c e.g x).1,ws:=e.ws.set j (aM c e.g x).2,used:=e.used+1}:=by
 unfold En.go;rw[Oz zO,show e.cs.length+j-e.cs.length=j from by omega];simp only[hx]
def Mv{x:Ci}(hx:e.cs[t]?=some x):e.ready c t=x.ready e.g:=by
 unfold En.ready;rw[OB (cz hx)];simp only[hx]
def Mw{x:Wi}(hx:e.ws[j]?=some x):e.ready c (e.cs.length+j)=x.ready c e.g:=by
 unfold En.ready;rw[Oz zO,show e.cs.length+j-e.cs.length=j from by omega];simp only[hx]
def i6(hr:e.ready c t=true):(∃x,e.cs[t]?=some x/\x.ready e.g=true)\/∃j x,t=e.cs.length+j/\e.ws[j]?=some x/\x.ready c e.g=true:=by
 unfold En.ready at hr;by_cases h:t<e.cs.length
 ·rw[OB h]at hr
  cases hx:e.cs[t]? with
  |none=>rw[hx]at hr;cases hr
  |some x=>rw[hx]at hr;exact .inl ⟨x,rfl,hr⟩
 ·rw[Oz h]at hr
  cases hx:e.ws[t-e.cs.length]? with
  |none=>rw[hx]at hr;cases hr
  |some x=>rw[hx]at hr;exact .inr ⟨t-e.cs.length,x,zO,hx,hr⟩
def lG.Q2(h:lG c e){x:Ci}(hx:e.cs[t]?=some x):x.task∉e.g.B3:=λa=>by
 obtain⟨j,y,b,d⟩:=h.H7 _ a;have:=h.I4 j y b;have:=h.J0 t x hx;have:=cz hx;omega
def lG.go(hc0:c.ok)(h:lG c e)(hr:e.ready c t=true):lG c (e.go c t):=by
 rcases i6 hr with⟨x,d,o⟩|⟨j,x,rfl,d,o⟩
 ·have f:=cz d;have k:=h.J0 t x d;have w:0<=x.task/\x.task<e.count:=by unfold En.count;omega
  obtain⟨z,A,p,r,m,B⟩:=JR (hc0:=hc0) h.lk (h.I1 t x d) w (h.Q2 d) o;rw[Dn d];refine⟨?_,λi y a=>?_,λi y a=>?_,λi y a=>?_,λj y a=>?_,λu n=>?_⟩
  ·rw[show({e with g:=(bT c e.g x).1,cs:=e.cs.set t (bT c e.g x).2,used:=e.used+1}:En).count=e.count from by unfold En.count;simp];exact z
  ·rcases dp a f with⟨rfl,rfl⟩|⟨l,b⟩
   ·rw[r];exact k
   ·exact h.J0 i y b
  ·simp only[PI];exact h.I4 i y a
  ·rcases dp a f with⟨rfl,rfl⟩|⟨l,b⟩
   ·exact A
   ·refine(h.I1 i y b).R4 (h.Q2 b) (p _ ?_);rw[h.J0 i y b,k];omega
  ·refine(h.Q1 j y a).R4 h.lk (p _ ?_);rw[h.I4 j y a,k];omega
  ·exact h.H7 u (B u n)
 ·have f:=cz d;have k:=h.I4 j x d;have w:0<=x.task/\x.task<e.count:=by unfold En.count;omega
  obtain⟨z,A,p,r,m⟩:=JS (hc0:=hc0) h.lk (h.Q1 j x d) w o;rw[Do d];refine⟨?_,λi y a=>h.J0 i y a,λi y a=>?_,λi y a=>?_,λi y a=>?_,λu n=>?_⟩
  ·rw[show({e with g:=(aM c e.g x).1,ws:=e.ws.set j (aM c e.g x).2,used:=e.used+1}:En).count=e.count from by unfold En.count;simp];exact z
  ·rcases dp a f with⟨rfl,rfl⟩|⟨l,b⟩
   ·rw[r];exact k
   ·exact h.I4 i y b
  ·refine(h.I1 i y a).R4 (h.Q2 a) (p _ ?_);have:i<e.cs.length:=cz a;rw[h.J0 i y a,k];omega
  ·rcases dp a f with⟨rfl,rfl⟩|⟨l,b⟩
   ·exact A
   ·refine(h.Q1 i y b).R4 h.lk (p _ ?_);rw[h.I4 i y b,k];omega
  ·have s:u∈e.g.B3->∃(i:Nat) (y:Wi),(e.ws.set j (aM c e.g x).2)[i]?=some y/\y.task=u:=λn=>by
    obtain⟨i,y,l,b⟩:=h.H7 u n;by_cases q:i=j
    ·subst q;rw[d]at l;injection l with l;subst l;exact⟨i,(aM c e.g x).2,by rw[Ro f],r.trans b⟩
    ·exact⟨i,y,by rw[Qf (Pc q)];exact l,b⟩
   rcases m with m|m
   ·have v:=n;rw[m]at v;exact s v
   ·rcases m u n with q|⟨l,_⟩
    ·exact s q
    ·exact⟨j,(aM c e.g x).2,by rw[Ro f],r.trans l.symm⟩
def vm(c:Cg)(n:Int):(Gs.new c).lock n=.zero:=by
 unfold Gs.lock Gs.new;simp only;split
 ·rw[OP,List.getElem?_replicate];split<;>rfl
 ·rfl
def lG.new(hc0:c.ok)(ps:List (List Cl))(n:Nat)(hn:ps.length+n<=32):lG c (.new c ps n):=by
 have b:∀u m,clG (Gs.new c) u m=none:=λu m=>by unfold clG;rw[vm];exact Gb u
 have f:(En.new c ps n).count=ps.length+n:=by unfold En.count En.new;simp
 refine⟨⟨by simp[En.new,Gs.new],λm _=>?_,λm _ u d=>absurd (b u m) d,by simp[En.new,Gs.new],λu d=>by simp[En.new,Gs.new]at d,by rw[f];exact hn⟩,λi x a=>?_,λj x a=>?_,λi x a=>?_,λj x a=>?_,λu d=>by simp[En.new,Gs.new]at d⟩
 ·show gh ((Gs.new c).lock m);rw[vm];exact EE
 ·simp only[En.new,Qw,PB]at a;obtain⟨p,_,rfl⟩:=a;rfl
 ·simp only[En.new,Pz,PB]at a;obtain⟨k,e,rfl⟩:=a;have g:=cz e;rw[List.getElem?_range (by simpa using g)]at e;injection e with e;subst e;simp[En.new,Wi.new]
 ·simp only[En.new,Qw,PB]at a;obtain⟨p,_,rfl⟩:=a;exact⟨OK _,λ_ m _=>b _ m,λq=>absurd rfl q,λq=>absurd rfl q,λm _ q=>absurd (b _ m) q,.inl rfl⟩
 ·simp only[En.new,Pz,PB]at a;obtain⟨k,_,rfl⟩:=a;exact⟨λm _=>(b _ m).trans rfl,λm _ q=>absurd (b _ m) q,.inl rfl,(λq=>by cases q),(λq=>by simp[En.new,Gs.new]at q),OK _⟩
def BE{r:Nat->Bool}{at_ n:Nat}:∀(f i:Nat),(fM r at_ n f i=none↔∀k,i<=k->k<i+f->r ((at_+k)%n)=false)/\∀t,fM r at_ n f i=some t->r t=true/\(0<n->t<n)
 |0,i=>⟨by simp[fM];intro k h1 h2;omega,by simp[fM]⟩
 |f+1,i=>by
  obtain⟨h1,h2⟩:=BE (r:=r) (at_:=at_) (n:=n) f (i+1);unfold fM;by_cases h:r ((at_+i)%n)=true
  ·rw[OB h];refine⟨⟨(λq=>by cases q),λq=>?_⟩,λt q=>?_⟩
   ·have:=q i (OA _) zO;rw[h]at this
    cases this
   ·injection q with q;subst q;exact⟨h,λc=>Rj _ c⟩
  ·rw[Oz h];refine⟨h1.trans ⟨λq k a b=>?_,λq k a b=>q k zO zO⟩,h2⟩;by_cases e:k=i
   ·subst e;simpa using h
   ·exact q k zO zO
def Mx{n:Nat}(hn:0<n):pickN p n<n:=by
 unfold pickN;have:=RY p (show(n:Int)≠0 by omega);have:=Sk p (show 0<(n:Int) by omega);omega
def Ul:e.next c p=none↔∀t,t<e.count->e.ready c t=false:=by
 unfold En.next;rw[(BE _ _).1];by_cases d:0<e.count
 ·have f:=Mx (p:=p) d;generalize pickN p e.count=a at*;refine⟨λh t b=>?_,λh k _ _=>h _ (Rj _ d)⟩;by_cases q:a<=t
  ·have:=h (t-a) (OK _) zO
   rwa [show a+(t-a)=t from by omega,QE b]at this
  ·have:=h (t+e.count-a) (OK _) zO
   rwa [show a+(t+e.count-a)=t+e.count from by omega,Nat.add_mod_right,QE b]at this
 ·exact⟨λh t b=>absurd b zO,λh k _ q=>absurd q zO⟩
def vn(h:e.next c p=some t):e.ready c t=true/\t<e.count:=by
 unfold En.next at h;have b:=(BE _ _).2 t h;refine⟨b.1,?_⟩
 rcases i6 b.1 with⟨x,a,_⟩|⟨j,x,rfl,a,_⟩
 ·have:=cz a;unfold En.count;omega
 ·have:=cz a;unfold En.count;omega
def Uq(c:Cg)(g:Gs)(u:Int)(n:Nat):Prop:=n<c.st+2/\clG g u n≠none/\hdG g u n=0
def Uy(h:lG c e)(hno:∀t,t<e.count->e.ready c t=false){x:Ci}(hx:e.cs[i]?=some x)(ho:x.over=false):∃n,Uq c e.g x.task n:=by
 have a:=hno i (by have:=cz hx;unfold En.count;omega);rw[Mv hx]at a;have b:=h.I1 i x hx;unfold Ci.ready at a;rw[ho]at a;simp at a
 rcases b.B8 with q|⟨n,d,f,j⟩
 ·omega
 ·refine⟨n,f,j,?_⟩;have:=a.2;rw[d]at this;exact this
def Uz(h:lG c e)(hno:∀t,t<e.count->e.ready c t=false){x:Wi}(hx:e.ws[i]?=some x)(ho:x.B6≠13)(hs:x.task∉e.g.B3):∃n,Uq c e.g x.task n:=by
 have a:=hno (e.cs.length+i) (by have:=cz hx;unfold En.count;omega);rw[Mw hx]at a;have b:=h.Q1 i x hx;unfold Wi.ready Wi.over at a;simp only[ho,decide_false,Bool.not_false,Vg]at a;by_cases d:x.B3=true
 ·rw[OB d]at a;refine⟨c.st+1,zO,?_,?_⟩
  ·rw[b.cl _ zO];unfold cS;rw[OB (b.T0 d).1,OB ⟨rfl,λq=>hs q.2⟩];simp
  ·have f:e.g.held (lineN c) x.task=0:=by simpa using a
   rw[cW]at f;exact f
 ·rw[Oz d]at a;simp at a
  rcases b.B8 with q|⟨n,j,k,l⟩
  ·omega
  ·refine⟨n,k,l,?_⟩;have:=a.2;rw[j]at this;exact this
def UF{g:Gs}{x:Wi}{n:Nat}(h1:cS c g x n≠none)(h2:cS c g x m≠none):n=m:=by
 unfold cS at h1 h2;by_cases e:x.B6=1
 ·rw[OB e]at h1 h2;have a:n=c.st+1:=Pg λq=>h1 (Oz λb=>q b.1);have d:m=c.st+1:=Pg λq=>h2 (Oz λb=>q b.1);omega
 rw[Oz e]at h1 h2;by_cases f:x.B6=2\/x.B6=11\/x.B6=12\/x.B6=14
 ·rw[OB f]at h1 h2;have a:n=c.st+1:=Pg λq=>h1 (Oz q);have d:m=c.st+1:=Pg λq=>h2 (Oz q);omega
 rw[Oz f]at h1 h2;by_cases h:x.B6=4\/x.B6=5
 ·rw[OB h]at h1 h2;have a:(n:Int)=x.home c:=Pg λq=>h1 (Oz q);have d:(m:Int)=x.home c:=Pg λq=>h2 (Oz q);omega
 rw[Oz h]at h1 h2;by_cases i:x.B6=8\/x.B6=9
 ·rw[OB i]at h1 h2;have a:(n:Int)=x.home c:=Pg λq=>h1 (Oz q);have d:(m:Int)=x.home c:=Pg λq=>h2 (Oz q);omega
 rw[Oz i]at h1;exact absurd rfl h1
def Ur(h:lG c e)(hno:∀t,t<e.count->e.ready c t=false):∀(k n:Nat) (u:Int),c.st+2-n=k->¬Uq c e.g u n:=by
 intro k;induction k using Nat.strongRecOn with
 |ind k y=>
  intro n u H z;obtain⟨b,A,B⟩:=z;obtain⟨v,_,s⟩:=UJ (h.lk.alone n b) A B;have i:hdG e.g v n≠0:=s;have a:clG e.g v n≠none:=Dj s;have w:=h.lk.task n b v a;by_cases G:v<e.cs.length
  ·obtain⟨x,d⟩:∃x,e.cs[v.toNat]?=some x:=⟨_,OL zO⟩;have j:x.task=v:=by rw[h.J0 _ x d];omega
   have f:=h.I1 _ x d;rw[<-j]at a i;have D:x.at_≠0:=λq=>a (f.zero q n b);have r:x.over=false:=by
    have:=(f.rem D).1;unfold Ci.over
    simpa using this
   obtain⟨m,p,l,o⟩:=Uy h hno d r;have L:=(f.waits m p l o).2 n b a;have N:n≠m:=λq=>by subst q;exact i o
   exact y (c.st+2-m) zO m x.task rfl ⟨p,l,o⟩
  ·obtain⟨x,d⟩:∃x,e.ws[v.toNat-e.cs.length]?=some x:=⟨_,OL (by unfold En.count at w;omega)⟩;have j:x.task=v:=by rw[h.I4 _ x d];omega
   have f:=h.Q1 _ x d;rw[<-j]at a i;have F:x.task∉e.g.B3:=λq=>a ((h.lk.H7 _ q).2 n b);have r:x.B6≠13:=λq=>a (by
    rw[f.cl n b];unfold cS;rw[Oz zO,Oz zO,Oz zO,Oz zO])
   obtain⟨m,p,l,o⟩:=Uz h hno d r F;rw[f.cl n b]at a;rw[f.cl m p]at l;have:=UF a l;subst this;exact i o
def UA(h:lG c e)(hno:∀t,t<e.count->e.ready c t=false):(∀(i:Nat) x,e.cs[i]?=some x->x.over=true)/\∀(j:Nat) x,e.ws[j]?=some x->x.B6=13\/x.task∈e.g.B3:=by
 refine⟨λi x b=>?_,λj x b=>?_⟩
 ·cases a:x.over with
  |true=>rfl
  |false=>
   obtain⟨n,d⟩:=Uy h hno b a;exact absurd d (Ur h hno _ n x.task rfl)
 ·by_cases a:x.B6=13
  ·exact .inl a
  ·by_cases f:x.task∈e.g.B3
   ·exact .inr f
   ·obtain⟨n,d⟩:=Uz h hno b a f;exact absurd d (Ur h hno _ n x.task rfl)
end
def eV{l:List K2}{k j:K2}:j∈fu l k↔j=k\/j∈l:=by
 unfold fu;split
 ·rename_i h;exact⟨.inr,λe=>e.elim (λe=>e▸h) id⟩
 ·simp[or_comm]
def ga{l:List K2}{k j:K2}:j∈ib l k↔j∈l/\j≠k:=by
 unfold ib;rw[Pp];simp
def oO{l:List K2}(h:l.Nodup):(fu l k).Nodup:=by
 unfold fu;split
 ·exact h
 ·rename_i d;rw[Qa];refine⟨h,zS,λa f b c e=>?_⟩;simp at c;subst c e;exact d f
def oP{l:List K2}(h:l.Nodup):(ib l k).Nodup:=h.filter _
structure QOk(q:Qm):Prop where
 line:q.line.Nodup
 ld:∀k∈q.line,k∈q.C5
 lb:∀k∈q.line,k∉q.busy
 dq:∀k∈q.C5,k∈q.line\/k∈q.busy
 C5:q.C5.Nodup
 busy:q.busy.Nodup
def QOk.zero:QOk .zero:=⟨by simp[Qm.zero],by simp[Qm.zero],by simp[Qm.zero],by simp[Qm.zero],by simp[Qm.zero],by simp[Qm.zero]⟩
def QOk.add(h:QOk q)(k:K2):QOk (q.add k).1:=by
 unfold Qm.add;by_cases f:q.over=true\/k∈q.C5
 ·rw[OB f];exact h
 rw[Oz f];by_cases d:k∈q.busy
 ·rw[OB d];refine⟨h.line,λj c=>eV.2 (.inr (h.ld j c)),h.lb,λj c=>?_,oO h.C5,h.busy⟩
  rcases eV.1 c with e|e
  ·subst e;exact .inr d
  ·exact h.dq j e
 ·rw[Oz d];have i:k∉q.line:=λe=>f (.inr (h.ld k e));refine⟨?_,λj c=>?_,λj c=>?_,λj c=>?_,oO h.C5,h.busy⟩
  ·rw[Qa];refine⟨h.line,zS,λa l b g e=>?_⟩;simp at g;subst g e;exact i l
  ·simp at c;exact eV.2 (c.elim (λe=>.inr (h.ld j e)) .inl)
  ·simp at c
   rcases c with e|e
   ·exact h.lb j e
   ·rw[e];exact d
  ·rcases eV.1 c with e|e
   ·left;simp[e]
   ·rcases h.dq j e with e|e
    ·left;simp[e]
    ·exact .inr e
def QOk.get(h:QOk q){r:List K2}(hl:q.line=k::r):QOk {q with line:=r,C5:=ib q.C5 k,busy:=fu q.busy k}:=by
 have b:=h.line;rw[hl,QB]at b;refine⟨b.2,λj a=>ga.2 ⟨h.ld j (by rw[hl];exact Pm _ a),λe=>b.1 (e▸a)⟩,λj a e=>?_,λj a=>?_,oP h.C5,oO h.busy⟩
 ·rcases eV.1 e with e|e
  ·subst e;exact b.1 a
  ·exact h.lb j (by rw[hl];exact Pm _ a) e
 ·obtain⟨c,d⟩:=ga.1 a
  rcases h.dq j c with e|e
  ·rw[hl]at e
   rcases Pj.1 e with e|e
   ·exact absurd e d
   ·exact .inl e
  ·exact .inr (eV.2 (.inr e))
def QOk.done(h:QOk q)(k:K2):QOk (q.done k).1:=by
 unfold Qm.done;by_cases g:k∈q.busy
 ·rw[OB g];have l:k∉q.line:=λe=>h.lb k e g;by_cases f:k∈q.C5
  ·rw[OB f];refine⟨?_,λj c=>?_,λj c e=>?_,λj c=>?_,h.C5,oP h.busy⟩
   ·rw[Qa];refine⟨h.line,zS,λa m b i e=>?_⟩;simp at i;subst i e;exact l m
   ·simp at c
    rcases c with e|e
    ·exact h.ld j e
    ·rw[e];exact f
   ·obtain⟨n,d⟩:=ga.1 e;simp at c
    rcases c with e|e
    ·exact h.lb j e n
    ·exact d e
   ·by_cases e:j=k
    ·left;simp[e]
    ·rcases h.dq j c with d|d
     ·left;simp[d]
     ·exact .inr (ga.2 ⟨d,e⟩)
  ·rw[Oz f];refine⟨h.line,h.ld,λj c e=>h.lb j c (ga.1 e).1,λj c=>?_,h.C5,oP h.busy⟩
   rcases h.dq j c with e|e
   ·exact .inl e
   ·exact .inr (ga.2 ⟨e,λq=>f (q▸c)⟩)
 ·rw[Oz g];exact h
def du(l:List Op2):Bool:=l.any λy=>y.1==4
def gU(l:List Op2):Bool:=l.any λy=>y.1==6
def mB{l:List Op2}:du l=false↔∀y∈l,y.1≠4:=by
 unfold du;rw[List.any_eq_false];simp
def vu{l:List Op2}:du l=true↔∃y∈l,y.1=4:=by
 unfold du;rw[Sq];simp
def jY{l:List Op2}:gU l=true↔∃y∈l,y.1=6:=by
 unfold gU;rw[Sq];simp
def Wi.at(x:Wi):Prop:=2<=x.B6/\x.B6<=11
def dB(g:Gs)(k:K2):Prop:=ap g.mp.ls k≠none
structure gb(c:Cg)(ps:List (List Cl))(e:En):Prop where
 q:QOk e.g.q
 dk:∀k∈e.g.q.C5,dB e.g k
 bk:∀k∈e.g.q.busy,dB e.g k
 bw:∀k∈e.g.q.busy,∃(j:Nat) (x:Wi),e.ws[j]?=some x/\x.key=k/\x.at
 wb:∀(j:Nat) x,e.ws[j]?=some x->x.at->x.key∈e.g.q.busy
 ww:∀(i j:Nat) x y,e.ws[i]?=some x->e.ws[j]?=some y->x.at->y.at->x.key=y.key->i=j
 ck:∀(i:Nat) x,e.cs[i]?=some x->x.at_≠0->du (dZ c x)=false->x.rep.err=0->gU (dZ c x)=true->dB e.g (av x.call.id)
 ls:∀k,dB e.g k->∃y∈ps.flatten,bd y.id=true/\k=av y.id
 prog:∀(i:Nat) x,e.cs[i]?=some x->ps[i]?=some x.prog
section
variable {c:Cg} {ps:List (List Cl)} {e:En} {g g':Gs} {i j t:Nat}
def My{l:List (K2×Ld)}{k j:K2}{v:Ld}(h:ap l k≠none):ap (aR l j v) k≠none:=by
 rw[wO];split
 ·simp
 ·exact h
def Ge{l:List (K2×Ld)}(f:Ld->Ld)(k:K2):ap (l.map λe=>(e.1,f e.2)) k=(ap l k).map f:=by
 induction l with
 |nil=>rfl
 |cons e r ih=>
  simp only[Pi,ap];by_cases h:e.1=k
  ·simp[h]
  ·simp[h,ih]
def JT(c:Cg)(m:Mp)(x:Cl):(∀k,ap m.ls k≠none->ap (doM c m x).1.ls k≠none)/\(∀k,ap (doM c m x).1.ls k≠none->ap m.ls k≠none\/(bd x.id=true/\k=av x.id))/\
  ((x.k=1\/x.k=6)->(doM c m x).2.err=0->ap (doM c m x).1.ls (av x.id)≠none):=by
 by_cases o:aH x≠0
 ·have A:doM c m x=(m,.of (aH x)):=by unfold doM;rw[OB o]
  rw[A];exact⟨λk h=>h,λk h=>.inl h,λ_ h=>absurd h o⟩
 have i:=Pg o;have s:(x.k=1\/x.k=6)->bd x.id=true:=λg=>by
  refine Pg λh=>?_;have t:=h;unfold aH at i
  rcases g with g|g
  ·rw[OB g,Oz t]at i;cases i
  ·rw[Oz zO,Oz zO,Oz zO,OB g,Oz t]at i;cases i
 have n:∀v,(x.k=1\/x.k=6)->(∀k,ap m.ls k≠none->ap (aR m.ls (av x.id) v) k≠none)/\(∀k,ap (aR m.ls (av x.id) v) k≠none->ap m.ls k≠none\/(bd x.id=true/\k=av x.id))/\ap (aR m.ls (av x.id) v) (av x.id)≠none:=λv g=>by
  refine⟨λk h=>My h,λk h=>?_,by rw[lD];simp⟩;by_cases e:k=av x.id
  ·exact .inr ⟨s g,e⟩
  ·rw[iE _ _ e]at h;exact .inl h
 have f:∀(j:Mp) (r:Rp),j.ls=m.ls->(x.k=1\/x.k=6->r.err≠0)->(∀k,ap m.ls k≠none->ap (j,r).1.ls k≠none)/\(∀k,ap (j,r).1.ls k≠none->ap m.ls k≠none\/(bd x.id=true/\k=av x.id))/\((x.k=1\/x.k=6)->(j,r).2.err=0->ap (j,r).1.ls (av x.id)≠none):=λj r l p=>
  ⟨λk h=>by rw[l];exact h,λk h=>by rw[l]at h;exact .inl h,λg h=>absurd h (p g)⟩
 unfold doM;rw[Oz o];by_cases l:x.k=1
 ·rw[OB l];split
  ·exact f _ _ rfl λ_=>by simp[Rp.of]
  ·obtain⟨a,b,d⟩:=n _ (.inl l);exact⟨a,b,λ_ _=>d⟩
 rw[Oz l];by_cases p:x.k=2
 ·rw[OB p];have e:∀k,ap (m.ls.map λe=>(e.1,eP x.tick e.2)) k≠none↔ap m.ls k≠none:=λk=>by
   rw[Ge (eP x.tick)]
   cases ap m.ls k<;>simp
  exact⟨λk h=>(e k).2 h,λk h=>.inl ((e k).1 h),λg=>zO⟩
 rw[Oz p];by_cases u:x.k=3
 ·rw[OB u];split<;>exact f _ _ rfl λg=>zO
 rw[Oz u];by_cases w:x.k=4
 ·rw[OB w];split<;>exact f _ _ rfl λg=>zO
 rw[Oz w];by_cases y:x.k=5
 ·rw[OB y];split
  ·split<;>exact f _ _ rfl λg=>zO
  ·exact f _ _ rfl λg=>zO
 rw[Oz y];by_cases q:x.k=6
 ·rw[OB q];split
  ·exact f _ _ rfl λ_=>by simp[Rp.of]
  ·obtain⟨a,b,d⟩:=n _ (.inr q);exact⟨a,b,λ_ _=>d⟩
 rw[Oz q];by_cases z:x.k=7
 ·rw[OB z];split<;>exact f _ _ rfl λg=>zO
 rw[Oz z];split<;>exact f _ _ rfl λg=>zO
def Dp(c:Cg)(m:Mp)(k j:K2)(a:Adv):ap (eo c m k a).1.ls j≠none↔ap m.ls j≠none:=by
 unfold eo;split
 ·rfl
 ·rename_i y b;show ap (aR m.ls k _) j≠none↔_;rw[wO];split
  ·rename_i e;subst e;simp[b]
  ·rfl
def JU(c:Cg)(g:Gs)(y:Cl):(g.E6 c y).1.mp=(doM c g.mp y).1/\(g.E6 c y).2=(doM c g.mp y).2/\(g.E6 c y).1.q.line=g.q.line/\(g.E6 c y).1.q.C5=g.q.C5/\(g.E6 c y).1.q.busy=g.q.busy:=by
 unfold Gs.E6;split<;>exact⟨rfl,rfl,rfl,rfl,rfl⟩
def QOk.of{q':Qm}(h:QOk q)(h1:q'.line=q.line)(h2:q'.C5=q.C5)(h3:q'.busy=q.busy):QOk q':=
 ⟨by rw[h1];exact h.line,by rw[h1,h2];exact h.ld,by rw[h1,h3];exact h.lb,by rw[h1,h2,h3];exact h.dq,by rw[h2];exact h.C5,by rw[h3];exact h.busy⟩
def BF{q:Qm}{k j:K2}:(j∈(q.add k).1.C5->j∈q.C5\/j=k)/\(q.add k).1.busy=q.busy:=by
 unfold Qm.add;split
 ·exact⟨.inl,rfl⟩
 split
 ·exact⟨λh=>(eV.1 h).symm,rfl⟩
 ·exact⟨λh=>(eV.1 h).symm,rfl⟩
def JV(h:k∈q.busy):(q.done k).1.C5=q.C5/\(q.done k).1.busy=ib q.busy k:=by
 unfold Qm.done;rw[OB h];split<;>exact⟨rfl,rfl⟩
def gb.I1(h:gb c ps e){x x':Ci}(hx:e.cs[t]?=some x)(hq:QOk g'.q)(hd:∀k∈g'.q.C5,dB g' k)(hb:g'.q.busy=e.g.q.busy)(hm:∀k,dB e.g k->dB g' k)(hl:∀k,dB g' k->dB e.g k\/(bd x.call.id=true/\k=av x.call.id))(hc:x.call∈x.prog)
  (hp:x'.prog=x.prog)(hk:x'.at_≠0->du (dZ c x')=false->x'.rep.err=0->gU (dZ c x')=true->dB g' (av x'.call.id))(u:Nat):gb c ps {e with g:=g',cs:=e.cs.set t x',used:=u}:=by
 have b:=cz hx;refine⟨hq,hd,λk hk=>hm k (h.bk k (hb▸hk)),λk hk=>h.bw k (hb▸hk),λj y a l=>?_,h.ww,λi y a=>?_,λk hk=>?_,λi y a=>?_⟩
 ·show y.key∈g'.q.busy;rw[hb];exact h.wb j y a l
 ·rcases dp a b with⟨rfl,rfl⟩|⟨m,d⟩
  ·exact hk
  ·exact λn o p r=>hm _ (h.ck i y d n o p r)
 ·rcases hl k hk with f|⟨f,s⟩
  ·exact h.ls k f
  ·refine⟨x.call,?_,f,s⟩;rw[Sv];exact⟨x.prog,Qx (h.prog t x hx),hc⟩
 ·rcases dp a b with⟨rfl,rfl⟩|⟨m,d⟩
  ·rw[hp];exact h.prog _ x hx
  ·exact h.prog i y d
def gb.J1(h:gb c ps e){x x':Wi}(hx:e.ws[j]?=some x)(hq:g'.q=e.g.q)(hm:∀k,dB g' k↔dB e.g k)(hk:x'.key=x.key)(ha:x'.at↔x.at)(u:Nat):gb c ps {e with g:=g',ws:=e.ws.set j x',used:=u}:=by
 have n:=cz hx;have d:∀(i:Nat) (y:Wi),(e.ws.set j x')[i]?=some y->∃z,e.ws[i]?=some z/\y.key=z.key/\(y.at↔z.at):=λi y f=>by
  rcases dp f n with⟨rfl,rfl⟩|⟨l,m⟩
  ·exact⟨x,hx,hk,ha⟩
  ·exact⟨y,m,rfl,Iff.rfl⟩
 refine⟨by show QOk g'.q;rw[hq];exact h.q,λk hk=>(hm k).2 (h.dk k (hq▸hk)),λk hk=>(hm k).2 (h.bk k (hq▸hk)),λk hk=>?_,λi y f t=>?_,λa b y z f A B D F=>?_,λi y f G H L N=>(hm _).2 (h.ck i y f G H L N),λk hk=>h.ls k ((hm k).1 hk),h.prog⟩
 ·have o:=hk;rw[hq]at o;obtain⟨i,y,l,m,v⟩:=h.bw k o;by_cases w:i=j
  ·subst w;rw[hx]at l;injection l with l;subst l;exact⟨i,x',by rw[Ro n],by rw[‹x'.key=x.key›];exact m,ha.2 v⟩
  ·exact⟨i,y,by rw[Qf (Pc w)];exact l,m,v⟩
 ·obtain⟨z,p,r,s⟩:=d i y f;show y.key∈g'.q.busy;rw[hq,r];exact h.wb i z p (s.1 t)
 ·obtain⟨O,P,Q,R⟩:=d a y f;obtain⟨S,p,r,s⟩:=d b z A;exact h.ww a b O S P p (R.1 B) (s.1 D) (by rw[<-Q,<-r];exact F)
def JW{x:Ci}{y:Op2}(h:y∈(aF c x.call).drop a):y∈aF c x.call:=PN h
def xS(hc0:c.ok){x:Ci}(h:gU (dZ c x)=true):(x.call.k=1\/x.call.k=6)/\aH x.call=0:=by
 obtain⟨y,b,a⟩:=jY.1 h;obtain⟨r,d,_,_,e,_⟩:=kC hc0 x.call;refine e ⟨y,?_,a⟩;have:=JW b;rw[d]at this
 rcases Pj.1 this with q|q
 ·subst q;cases a
 ·exact q
def UB(ops:List Op2):∀(f a:Nat),a<=jP c ops f a
 |0,a=>OA _
 |f+1,a=>by
  unfold jP;split
  ·exact OJ zO (UB ops f (a+3))
  ·exact OA _
def ly{x x':Wi}(d d':Nat)(h:x.B6=d)(h':x'.B6=d')(e:(2<=d'/\d'<=11)↔(2<=d/\d<=11)):x'.at↔x.at:=by unfold Wi.at;rw[h,h'];exact e
def gb.go(hc0:c.ok)(hL:lG c e)(h:gb c ps e)(hr:e.ready c t=true):gb c ps (e.go c t):=by
 rcases i6 hr with⟨x,m,ag⟩|⟨j,x,rfl,m,ag⟩
 ·have ho:=Ci.G0 ag;have aw:=Ci.K1 ho;have ax:=hL.I1 t x m;obtain⟨G,bg⟩:=ax.place (hc0:=hc0) ho;have Q:x.call∈x.prog:=by
   unfold Ci.call;rw[OP,OL aw];exact OR aw
  rw[Dn m];have F:∀(g':Gs) (x':Ci),g'.q=e.g.q->g'.mp=e.g.mp->x'.prog=x.prog->(x'.at_≠0->du (dZ c x')=false->x'.rep.err=0->gU (dZ c x')=true->dB e.g (av x'.call.id))->gb c ps {e with g:=g',cs:=e.cs.set t x',used:=e.used+1}:=λg' x' H D a3 a4=>by
   have l:∀k,dB g' k↔dB e.g k:=λk=>by unfold dB;rw[D]
   exact h.I1 m (by rw[H];exact h.q) (λk v=>(l k).2 (h.dk k (H▸v))) (by rw[H]) (λk T=>(l k).2 T) (λk T=>.inl ((l k).1 T)) Q a3 (λb1 o L s=>(l _).2 (a4 b1 o L s)) _
  rcases bg with⟨h0,bh⟩|⟨h0,bi⟩
  ·have X:(opNow c x).1=1:=by rw[bh]
   rw[tY X];refine F _ _ (by split<;>rfl) (by split<;>rfl) rfl λ_ o _ s=>?_;exfalso;obtain⟨r,f,_,_,_,q4,q5,_⟩:=kC hc0 x.call;have bj:(aF c x.call).drop (x.at_+1)=r:=by rw[h0,f];rfl
   have ay:du ((aF c x.call).drop (x.at_+1))=false:=o;have aj:gU ((aF c x.call).drop (x.at_+1))=true:=s;rw[bj]at ay aj;by_cases hz:aH x.call=0
   ·obtain⟨y,p,bl⟩:=q5 hz;exact mB.1 ay y p bl
   ·rw[q4 hz]at aj;simp[gU]at aj
  ·obtain⟨p1,p2,p3,p4,p5,p6⟩:=bi;have l:(opNow c x).1=2\/(opNow c x).1=3\/(opNow c x).1=4\/(opNow c x).1=5\/(opNow c x).1=6\/(opNow c x).1=7:=zO;have az:∀a,x.at_<a->(opNow c x).1≠4->(x.at_+1<a->gU ((aF c x.call).drop a)=false)->du ((aF c x.call).drop a)=false->x.rep.err=0->gU ((aF c x.call).drop a)=true->dB e.g (av x.call.id):=λa ha h4 aa o L s=>by
    have bm:a=x.at_+1:=Pg λq=>by rw[aa zO]at s;cases s
    subst bm;refine h.ck t x m h0 ?_ L ?_
    ·rw[mB]at o ⊢;rw[G];intro y p
     rcases Pj.1 p with q|q
     ·rw[q];exact h4
     ·exact o y q
    ·rw[jY]at s ⊢;rw[G];obtain⟨y,p,h6⟩:=s;exact⟨y,Pm _ p,h6⟩
   rcases l with l|l|l|l|l|l
   iterate 2
    ·rw[pN zO];exact F _ _ (dY _ _ _ _).2.2.1 (dY _ _ _ _).2.1 rfl λ_ o L s=>az (x.at_+1) zO zO zO o L s
   ·rw[tZ l];obtain⟨d1,d2,d3,d4,d5⟩:=JU c e.g x.call;obtain⟨k1,k2,k3⟩:=JT c e.g.mp x.call;have al:((e.g.E6 c x.call).1.note (({x with B8:= -1,rep:=(e.g.E6 c x.call).2,at_:=x.at_+1}:Ci).event 2)).mp=(doM c e.g.mp x.call).1:=d1;have n:∀k,dB e.g k->dB ((e.g.E6 c x.call).1.note (({x with B8:= -1,rep:=(e.g.E6 c x.call).2,at_:=x.at_+1}:Ci).event 2)) k:=λk l=>by unfold dB;rw[al];exact k1 k l
    refine h.I1 (g':=(e.g.E6 c x.call).1.note (({x with B8:= -1,rep:=(e.g.E6 c x.call).2,at_:=x.at_+1}:Ci).event 2)) (x':={x with B8:= -1,rep:=(e.g.E6 c x.call).2,at_:=x.at_+1}) m (h.q.of d3 d4 d5) (λk v=>n k (h.dk k (d4▸v))) d5 n (λk v=>?_) Q rfl (λ_ o L s=>?_) _
    ·unfold dB at v;rw[al]at v;exact k2 k v
    ·have bp:=(xS hc0 s).1;unfold dB;rw[al];exact k3 bp (by rw[<-d2];exact L)
   ·rw[ua l];refine F _ _ (dA _ _ _).2.2.1 (dA _ _ _).2.1 rfl λ_ o L s=>?_;by_cases aa:(opNow c x).2<(c.st:Int)/\x.rep.err≠0
    ·exact absurd L aa.2
    ·simp only[Oz aa]at o s;exact az (x.at_+1) zO zO zO o L s
   ·rw[ub l];obtain⟨k1,k2,k3,k4,k5⟩:=Dl hL.lk (av x.call.id);have n:∀k,dB (e.g.add (av x.call.id)) k↔dB e.g k:=λk=>by unfold dB;rw[k4]
    have ab:dB e.g (av x.call.id):=by
     have an:gU (dZ c x)=true:=by
      rw[jY,G];exact⟨_,Qc,l⟩
     have a0:du (dZ c x)=false:=by
      rw[mB,G];intro y p
      rcases Pj.1 p with q|q
      ·rw[q];omega
      ·exact(p3 (.inr l)).1 y q
     refine h.ck t x m h0 a0 (Pg λhe=>?_) an;obtain⟨T,_,e9⟩:=ax.err h0 (mB.1 a0) he (jY.1 an);rw[G]at e9;injection e9 with e9 _;rw[e9]at l
     cases l
    refine h.I1 (g':=e.g.add (av x.call.id)) (x':={x with B8:= -1,at_:=x.at_+1}) m (by rw[k5];exact h.q.add _) (λk v=>?_) (by rw[k5];exact(BF (j:=av x.call.id)).2) (λk T=>(n k).2 T) (λk T=>.inl ((n k).1 T)) Q rfl (λ_ o L s=>(n _).2 ab) _;rw[k5]at v
    rcases BF.1 v with q|q
    ·exact(n k).2 (h.dk k q)
    ·rw[q];exact(n _).2 ab
   ·rw[uc l];exact F _ _ rfl rfl rfl λb1=>absurd rfl b1
 ·have bq:=hL.Q1 j x m;have hd:=bq.B6;have b7:=Wi.G1 ag;have N:=cz m;rw[Do m];have ar:x.B6=0\/x.B6=1\/x.B6=2\/x.B6=3\/x.B6=4\/x.B6=5\/x.B6=6\/x.B6=7\/x.B6=8\/x.B6=9\/x.B6=10\/x.B6=11\/x.B6=12\/x.B6=14:=zO;have R:∀(P:Int) (b:Bool) (d u:Nat),x.B6=d->((2<=u/\u<=11)↔(2<=d/\d<=11))->gb c ps {e with g:=(ic e.g x.y P b u).1,ws:=e.ws.set j (ic e.g x.y P b u).2,used:=e.used+1}:=λP b d u H D=>
   h.J1 (g':=(ic e.g x.y P b u).1) (x':=(ic e.g x.y P b u).2) m (dY _ _ _ _).2.2.1 (λk=>by unfold dB;rw[show(ic e.g x.y P b u).1.mp=e.g.mp from(dY _ _ _ _).2.1]) rfl (ly d u H rfl D) _
  have w:∀(P:Int) (d u:Nat),x.B6=d->((2<=u/\u<=11)↔(2<=d/\d<=11))->gb c ps {e with g:=e.g.drop P x.task,ws:=e.ws.set j {x.y with B6:=u},used:=e.used+1}:=λP d u H D=>
   h.J1 (g':=e.g.drop P x.task) (x':={x.y with B6:=u}) m (dA _ _ _).2.2.1 (λk=>by unfold dB;rw[(dA _ _ _).2.1]) rfl (ly d u H rfl D) _
  rcases ar with f|f|f|f|f|f|f|f|f|f|f|f|f|f
  ·rw[qo f];exact R _ _ 0 1 f zO
  ·cases hq:e.g.q.line with
   |nil=>
    rw[mz f hq];split
    ·exact h.J1 m zF (λk=>by exact Iff.rfl) zF (ly 1 12 f zF zO) _
    ·have hs:(e.g.sleep x.task).q=e.g.q/\(e.g.sleep x.task).mp=e.g.mp:=by unfold Gs.sleep;split<;>exact⟨rfl,rfl⟩
     exact h.J1 m hs.1 (λk=>by unfold dB;rw[hs.2]) zF (ly 1 1 f zF Iff.rfl) _
   |cons k r=>
    rw[oJ f hq];have bs:=h.q.ld k (by rw[hq];simp);have ac:=h.q.lb k (by rw[hq];simp);have bt:¬x.at:=λq=>by have:=q.1;omega
    refine⟨h.q.get hq,λi O=>h.dk i (ga.1 O).1,λi O=>?_,λi O=>?_,λi y p ha=>?_,λa b y z p hz X h2 h3=>?_,h.ck,h.ls,h.prog⟩
    ·rcases eV.1 O with q|q
     ·rw[q];exact h.dk k bs
     ·exact h.bk i q
    ·rcases eV.1 O with q|q
     ·exact⟨j,_,Ro N,q.symm,by show 2<=2;omega,by show 2<=11;omega⟩
     ·obtain⟨i',y,A,S,q3⟩:=h.bw i q;refine⟨i',y,?_,S,q3⟩;rw[Qf]
      ·exact A
      ·intro e2;subst e2;rw[m]at A;injection A with A;exact bt (A▸q3)
    ·show y.key∈fu e.g.q.busy k
     rcases dp p N with⟨rfl,rfl⟩|⟨A,S⟩
     ·exact eV.2 (.inl rfl)
     ·exact eV.2 (.inr (h.wb i y S ha))
    ·rcases dp p N with⟨rfl,rfl⟩|⟨H,D⟩<;>rcases dp hz N with⟨rfl,rfl⟩|⟨b1,o⟩
     ·rfl
     ·exact absurd (by have q:k=z.key:=h3;rw[q];exact h.wb b z o h2) ac
     ·exact absurd (by have q:y.key=k:=h3;rw[<-q];exact h.wb a y D X) ac
     ·exact h.ww a b y z D o X h2 h3
  ·rw[qp f];exact w _ 2 3 f zO
  ·rw[qr f];exact R _ _ 3 4 f zO
  ·rw[qt f];exact h.J1 m zF (λk=>by exact Iff.rfl) zF (ly 4 5 f zF zO) _
  ·rw[qu f];exact w _ 5 6 f zO
  ·rw[qw f];split
   ·exact h.J1 m zF (λk=>by exact Iff.rfl) zF (ly 6 7 f zF zO) _
   ·exact h.J1 m zF (λk=>by exact Iff.rfl) zF (ly 6 10 f zF zO) _
  ·rw[qy f];exact R _ _ 7 8 f zO
  ·rw[qz f];exact h.J1 m zF (λk=>by exact Dp c e.g.mp x.key k x.E0) zF (ly 8 9 f zF zO) _
  ·rw[qA f];exact w _ 9 10 f zO
  ·rw[oK f];exact R _ _ 10 11 f zO
  ·rw[oL f];have a5:x.at:=⟨zO,zO⟩;have ac:=h.wb j x m a5;obtain⟨k1,k2,k3,k4,k5⟩:=xQ (hL.lk.same (g':=e.g.note (x.y.event 7)) rfl rfl rfl) x.key;have ad:∀k,dB ((e.g.note (x.y.event 7)).F6 x.key) k↔dB e.g k:=λk=>by unfold dB;rw[k4];rfl
   have U:((e.g.note (x.y.event 7)).F6 x.key).q=(e.g.q.done x.key).1:=k5;obtain⟨d1,d2⟩:=JV ac;refine⟨by show QOk ((e.g.note (x.y.event 7)).F6 x.key).q;rw[U];exact h.q.done _,λi O=>?_,λi O=>?_,λi O=>?_,λi y p ha=>?_,λa b y z p hz X h2 h3=>?_,λi y p H D a3 a4=>(ad _).2 (h.ck i y p H D a3 a4),λk l=>h.ls k ((ad k).1 l),h.prog⟩
   ·have B:i∈((e.g.note (x.y.event 7)).F6 x.key).q.C5:=O;rw[U,d1]at B;exact(ad i).2 (h.dk i B)
   ·have B:=O;rw[U,d2]at B;exact(ad i).2 (h.bk i (ga.1 B).1)
   ·have B:=O;rw[U,d2]at B;obtain⟨m1,m2⟩:=ga.1 B;obtain⟨i',y,A,S,q3⟩:=h.bw i m1;refine⟨i',y,?_,S,q3⟩;rw[Qf]
    ·exact A
    ·intro e2;subst e2;rw[m]at A;injection A with A;exact m2 (by rw[<-S,A])
   ·show y.key∈((e.g.note (x.y.event 7)).F6 x.key).q.busy;rw[U,d2]
    rcases dp p N with⟨rfl,rfl⟩|⟨A,S⟩
    ·have:=ha.2;simp at this
    ·exact ga.2 ⟨h.wb i y S ha,λq=>A (h.ww i j y x S m ha a5 q)⟩
   ·rcases dp p N with⟨rfl,rfl⟩|⟨H,D⟩
    ·have:=X.2;simp at this
    ·rcases dp hz N with⟨rfl,rfl⟩|⟨b1,o⟩
     ·have:=h2.2;simp at this
     ·exact h.ww a b y z D o X h2 h3
  ·rw[oM f];exact w _ 12 13 f zO
  ·rw[oN f];exact w _ 14 0 f zO
def gb.new(c:Cg)(ps:List (List Cl))(n:Nat):gb c ps (.new c ps n):=by
 refine⟨QOk.zero,λk b=>by simp[En.new,Gs.new,Qm.zero]at b,λk b=>by simp[En.new,Gs.new,Qm.zero]at b,λk b=>by simp[En.new,Gs.new,Qm.zero]at b,λj x a d=>?_,λi j x y a _ d=>?_,λi x a e=>?_,λk b=>by simp[dB,En.new,Gs.new,Mp.new,ap]at b,λi x a=>?_⟩
 ·simp only[En.new,Pz,PB]at a;obtain⟨k,_,rfl⟩:=a;have:=d.1;simp[Wi.new]at this
 ·simp only[En.new,Pz,PB]at a;obtain⟨k,_,rfl⟩:=a;have:=d.1;simp[Wi.new]at this
 ·simp only[En.new,Qw,PB]at a;obtain⟨k,_,rfl⟩:=a;exact absurd rfl e
 ·simp only[En.new,Qw,PB]at a;obtain⟨k,b,rfl⟩:=a;exact b
def vy{α:Type}[DecidableEq α]:∀(l m:List α),l.Nodup->(∀x∈l,x∈m)->l.length<=m.length
 |[],m,_,_=>OK _
 |x::r,m,hd,h=>by
  rw[QB]at hd;have h1:=vy r (m.erase x) hd.2 λy a=>(List.mem_erase_of_ne λe=>hd.1 (by rw[<-e];exact a)).2 (h y (Pm _ a));have b:x∈m:=h x zS;rw[List.length_erase_of_mem b]at h1;have:=List.length_pos_of_mem b;simp only[OC];omega
def gb.E5(h:gb c ps e):e.g.q.line.length<=ps.flatten.length/\e.g.q.C5.length<=ps.flatten.length/\e.g.q.busy.length<=ps.flatten.length:=by
 have a:∀(l:List K2),l.Nodup->(∀k∈l,dB e.g k)->l.length<=ps.flatten.length:=λl d f=>by
  have:=vy l (ps.flatten.map λy=>av y.id) d λk a=>by
   obtain⟨y,i,_,j⟩:=h.ls k (f k a);rw[j];exact Pq i
  rw[Pe]at this;exact this
 exact⟨a _ h.q.line λk b=>h.dk k (h.q.ld k b),a _ h.q.C5 h.dk,a _ h.q.busy h.bk⟩
end
end Go.Fw
